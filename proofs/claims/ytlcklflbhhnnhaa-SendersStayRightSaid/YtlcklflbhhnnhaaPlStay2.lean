/- Plain laws of senders: SendersStayRight. -/
import Derived.Test.YtlcklflbhhnnhaaPlStay
set_option linter.unusedSimpArgs false
set_option linter.unusedVariables false
namespace Go.Proofs.Ytlcklflbhhnnhaa.PM
open Go Go.Proofs.Ytlcklflbhhnnhaa.Bt
variable {R : Type}

theorem f10_loop (k : Nat) (K : Bool → Option R) (x0 : Option R) (y0 y2 id : Int) (y4 : ByteArray) (y5 : List Int) (y6 : Int) (y7 : List Rg) (y8 y9 y10 y11 : Int) (y12 : ByteArray) (y13 y14 y15 : Int) (y16 : List Int) (y17 : List Rg) (y18 : Bool) (out : List Lt) (hl : out.length ≤ 100)
    (ho : ∀ x ∈ out, chkLt x = 0 ∧ x.2.1 = id) (hs : ∀ x ∈ out, x.2.2.1.size + x.2.2.2.2.2.2.2.1.length + 20 < k ∧ x.2.2.1.size < 4611686018427387904) : ∀ (d f i : Nat), i + d = out.length → d < f →
    f10_0d k K x0 y0 y2 id y4 y5 y6 y7 y8 y9 y10 y11 y12 y13 y14 y15 y16 y17 y18 out f (i : Int) = x0
  | d, 0, i, _, h => absurd h (Nat.not_lt_zero _)
  | 0, f + 1, i, hi, _ => by
    have h1 : decide ((i : Int) < (out.length : Int)) = false := by simp only [decide_eq_false_iff_not]; omega
    simp only [f10_0d, f10_0b, h1, cond_false]
  | d + 1, f + 1, i, hi, hf => by
    have h1 : decide ((i : Int) < (out.length : Int)) = true := by simp only [decide_eq_true_eq]; omega
    have h0 : decide ((0 : Int) ≤ (i : Int)) = true := by simp
    have hw : IntKind.i64.wrap ((i : Int) + 1) = ((i + 1 : Nat) : Int) := by rw [wi (by omega) (by omega)]; omega
    have hli : i < out.length := by omega
    have hg : out.getD (Int.toNat (i : Int)) (0, (0, ((⟨#[]⟩ : ByteArray), (0, (0, (0, (([] : List Int), (([] : List Rg), (false, ()))))))))) = out[i] := getD_in hli
    obtain ⟨g1, g2⟩ := ho _ (List.getElem_mem hli)
    obtain ⟨s1, s2⟩ := hs _ (List.getElem_mem hli)
    have g1' : chkLetter (out[i]).1 (out[i]).2.1 (out[i]).2.2.1 (out[i]).2.2.2.1 (out[i]).2.2.2.2.1 (out[i]).2.2.2.2.2.1 (out[i]).2.2.2.2.2.2.1 (out[i]).2.2.2.2.2.2.2.1 (out[i]).2.2.2.2.2.2.2.2.1 = 0 := g1
    simp only [f10_0d, f10_0b, hg, h1, h0, cond_true, Bool.and_self, hw]
    rw [f20_eq _ _ _ _ _ _ _ _ _ s1 s2, g1', g2]
    simp only [bne_self_eq_false, beq_self_eq_true, cond_true, cond_false]
    exact f10_loop k K x0 y0 y2 id y4 y5 y6 y7 y8 y9 y10 y11 y12 y13 y14 y15 y16 y17 y18 out hl ho hs d f (i + 1) (by omega) (by omega)
theorem one_sz (seg wait : Int) (s : Sd) : (oneS seg wait s).2.2.2.1.size ≤ s.nm.size := by
  unfold oneS
  split
  · exact Nat.le_refl _
  · split
    · exact Nat.le_refl _
    · split
      · exact Nat.zero_le _
      · split <;> exact Nat.zero_le _
theorem one_nm (seg wait : Int) (s : Sd) : (oneS seg wait s).1.nm = s.nm := by
  unfold oneS
  split
  · rfl
  · split
    · rfl
    · split
      · rfl
      · split <;> rfl
theorem run_sz (seg wait : Int) : ∀ (d : Nat) (s : Sd) (o : List Lt) (n : Nat), s.nm.size ≤ n → (∀ x ∈ o, x.2.2.1.size ≤ n) → ∀ x ∈ (runS seg wait d s o).2, x.2.2.1.size ≤ n
  | 0, s, o, n, _, ho => ho
  | d + 1, s, o, n, hs, ho => by
    simp only [runS]
    split
    · refine run_sz seg wait d _ _ n (by rw [one_nm]; exact hs) (fun x hx => ?_)
      rcases List.mem_append.1 hx with hx | hx
      · exact ho x hx
      · rw [List.mem_singleton.1 hx]; have := one_sz seg wait s; omega
    · exact ho
theorem tick_sz (seg : Int) (rate : Nat) (wait most : Int) (s : Sd) : ∀ x ∈ (tickS seg rate wait most s).2, x.2.2.1.size ≤ s.nm.size := by
  unfold tickS
  split
  · split
    · simp
    · split
      · intro x hx; rw [List.mem_singleton.1 hx]; exact Nat.zero_le _
      · intro x hx; rw [List.mem_singleton.1 hx]; exact Nat.zero_le _
  · exact run_sz seg wait rate s [] _ (Nat.le_refl _) (by simp)
theorem new_gd {s : Sd} (h : chkSend s = 0) : chkSend (newS s).1 = 0 ∧ (newS s).1.wt = 0 ∧ (newS s).2 = 0 := by
  have g := gd_of h
  have hv : newS s = ({ s with st := if s.st = 2 then 1 else s.st, wt := 0, tr := 0 }, 0) := by unfold newS; rw [if_neg (not_not_intro h)]
  rw [hv]
  refine ⟨of_gd ⟨g.file, ?_, g.nx, ⟨by show (0 : Int) ≤ 0; omega, by show (0 : Int) ≤ 1000000; omega⟩, ⟨by show (0 : Int) ≤ 0; omega, by show (0 : Int) ≤ 50; omega⟩, g.hs, ?_, fun _ => rfl⟩, rfl, rfl⟩
  · have := g.st
    show 1 ≤ (if s.st = 2 then 1 else s.st) ∧ (if s.st = 2 then 1 else s.st) ≤ 4
    split <;> omega
  · intro q
    have q' : (if s.st = 2 then 1 else s.st) = 2 := q
    split at q'
    · omega
    · rename_i q2; exact absurd q' q2
theorem chkFig_all {a b c d e : Int} (h : chkFig a b c d e = 0) : (1 ≤ d ∧ d ≤ 1000000) ∧ (0 ≤ e ∧ e ≤ 50) := by
  unfold chkFig at h
  split at h
  · rename_i h'
    simp only [Bool.and_eq_true, inB_iff] at h'
    exact ⟨h'.1.2, h'.2⟩
  · cases h
theorem f10_eq {k : Nat} (a b c d e : Int) (s : Sd) (kind id : Int) (nm : ByteArray) (x y z : Int) (l : List Int) (rs : List Rg) (f : Bool) (hu : U8 s.dat) (h1 : s.nm.size < 4611686018427387904) (h2 : nm.size < 4611686018427387904)
    (hk : s.nm.size + s.hs.length + nm.size + rs.length + 110000 < k) (K : Bool → Option R) :
    f10 k a b c d e s.st s.id s.nm s.dat s.nx s.hs s.wt s.tr kind id nm x y z l rs f K = K true := by
  rw [f10_def]
  obtain ⟨k, rfl⟩ := succ_of (show 0 < k by omega)
  obtain ⟨p1, p2, p3⟩ := stepS_ok a b c d e s hu
  simp only [f10d, f27_eq a b c d e s hu h1 (show s.nm.size + s.hs.length + 100200 < k by omega), apSF]
  -- the end
  have hend : (f47 k s.st s.id s.nm s.dat s.nx s.hs s.wt s.tr kind id nm x y z l rs f (fun r22530_0 r22530_1 r22530_2 r22530_3 r22530_4 r22530_5 r22530_6 r22530_7 r22530_8 => (f49 k s.st s.id s.nm s.dat s.nx s.hs s.wt s.tr (fun r24577_0 r24577_1 r24577_2 r24577_3 r24577_4 r24577_5 r24577_6 r24577_7 r24577_8 => (bif ((r22530_8 == 0) == true) then (f30 k r22530_0 r22530_1 r22530_2 r22530_3 r22530_4 r22530_5 r22530_6 r22530_7 (fun r26628_0 => (bif ((r26628_0 != 0) == false) then (f51 k r22530_3 s.dat (fun r26635_0 => (bif (!r26635_0) then (K false) else (bif ((r24577_6 != 0) == false) then (f30 k r24577_0 r24577_1 r24577_2 r24577_7 r24577_3 r24577_8 r24577_4 r24577_5 (fun r30724_0 => (bif ((r30724_0 == 0) == true) then (bif ((r24577_4 == 0) == true) then (bif (((stepS a b c d e s).2 == 0) == false) then (bif ((((stepS a b c d e s).1.2.length : Int) == 0) == true) then (f24 k (fun r30742_0 => (K r30742_0))) else (K false)) else (f24 k (fun r30742_0 => (K r30742_0)))) else (K false)) else (K false)))) else (bif (((stepS a b c d e s).2 == 0) == false) then (bif ((((stepS a b c d e s).1.2.length : Int) == 0) == true) then (f24 k (fun r30742_0 => (K r30742_0))) else (K false)) else (f24 k (fun r30742_0 => (K r30742_0)))))))) else (K false)))) else (bif ((r24577_6 != 0) == false) then (f30 k r24577_0 r24577_1 r24577_2 r24577_7 r24577_3 r24577_8 r24577_4 r24577_5 (fun r30724_0 => (bif ((r30724_0 == 0) == true) then (bif ((r24577_4 == 0) == true) then (bif (((stepS a b c d e s).2 == 0) == false) then (bif ((((stepS a b c d e s).1.2.length : Int) == 0) == true) then (f24 k (fun r30742_0 => (K r30742_0))) else (K false)) else (f24 k (fun r30742_0 => (K r30742_0)))) else (K false)) else (K false)))) else (bif (((stepS a b c d e s).2 == 0) == false) then (bif ((((stepS a b c d e s).1.2.length : Int) == 0) == true) then (f24 k (fun r30742_0 => (K r30742_0))) else (K false)) else (f24 k (fun r30742_0 => (K r30742_0)))))))))) = K true := by
    have hz : (bif (((stepS a b c d e s).2 == 0) == false) then (bif ((((stepS a b c d e s).1.2.length : Int) == 0) == true) then (f24 k (fun r30742_0 => (K r30742_0))) else (K false)) else (f24 k (fun r30742_0 => (K r30742_0)))) = K true := by
      by_cases q : (stepS a b c d e s).2 = 0
      · have q' : (((stepS a b c d e s).2 == 0) == false) = false := by simp [q]
        simp only [q', cond_false, f24_eq (show 20 < k by omega)]
      · have q' : (((stepS a b c d e s).2 == 0) == false) = true := by simp [q]
        have qo : (stepS a b c d e s).1.2 = [] := by
          unfold stepS at q ⊢
          by_cases c1 : chkFig a b c d e = 0
          · by_cases c2 : chkSend s = 0
            · rw [if_neg (not_not_intro c1), if_neg (not_not_intro c2)] at q; exact absurd rfl q
            · rw [if_neg (not_not_intro c1), if_pos c2]
          · rw [if_pos c1]
        simp only [q', cond_true, qo, List.length_nil, f24_eq (show 20 < k by omega)]
        rfl
    simp only [hz, f47_eq s kind id nm x y z l rs f hu h1 h2 (show s.nm.size + s.hs.length + nm.size + rs.length + 9100 < k by omega), apS9, f49_eq s hu h1 (show s.nm.size + s.hs.length + 100 < k by omega)]
    have hn : (bif (((newS s).2 != 0) == false) then (f30 k (newS s).1.st (newS s).1.id (newS s).1.nm (newS s).1.dat (newS s).1.nx (newS s).1.hs (newS s).1.wt (newS s).1.tr (fun r30724_0 => (bif ((r30724_0 == 0) == true) then (bif (((newS s).1.wt == 0) == true) then K true else K false) else (K false)))) else K true) = K true := by
      by_cases q : chkSend s = 0
      · obtain ⟨n1, n2, n3⟩ := new_gd q
        have nl := newS_len s
        have hnm : (newS s).1.nm = s.nm := by unfold newS; rw [if_neg (not_not_intro q)]
        rw [n3, n2]
        have := f30_eq (R := R) (k := k) (newS s).1 (by rw [hnm]; omega) (by rw [hnm]; exact h1) (fun r30724_0 => (bif ((r30724_0 == 0) == true) then (bif (((0 : Int) == 0) == true) then K true else K false) else (K false)))
        rw [n2] at this
        simp only [bne_self_eq_false, beq_self_eq_true, cond_true]
        simp only [beq_self_eq_true, cond_true] at this
        rw [this, n1]
        rfl
      · have hv : newS s = (zS, chkSend s) := by unfold newS; rw [if_pos q]
        have q' : ((chkSend s != 0) == false) = false := by simp [q]
        rw [hv]
        simp only [q', cond_false]
    by_cases g : (takeS s kind id nm x y z l rs f).2 = 0
    · have hgd : chkSend (takeS s kind id nm x y z l rs f).1 = 0 ∧ (takeS s kind id nm x y z l rs f).1.dat = s.dat ∧ (takeS s kind id nm x y z l rs f).1.nm.size ≤ s.nm.size := by
        unfold takeS at g ⊢
        by_cases c1 : chkSend s = 0
        · by_cases c2 : chkLetter kind id nm x y z l rs f = 0
          · rw [if_neg (not_not_intro c1), if_neg (not_not_intro c2)] at g ⊢
            obtain ⟨a1, a2⟩ := hear_gd (gd_of c1) (fun h4 => by subst h4; exact chkLetter_hole c2) g
            refine ⟨of_gd a1, a2, ?_⟩
            unfold hearS
            cases !decide (id = s.id) || decide (s.st = 3) || decide (s.st = 4)
            · cases decide (kind = 4)
              · cases decide (kind = 5) && f
                · cases decide (kind = 5) || decide (kind = 6) <;> exact Nat.le_refl _
                · exact Nat.le_refl _
              · show (askS s rs).1.nm.size ≤ _
                unfold askS
                split
                · exact Nat.zero_le _
                · exact Nat.le_refl _
            · exact Nat.le_refl _
          · rw [if_neg (not_not_intro c1), if_pos c2] at g; exact absurd g c2
        · rw [if_pos c1] at g; exact absurd g c1
      obtain ⟨a1, a2, a3⟩ := hgd
      have tl := takeS_len s kind id nm x y z l rs f
      simp only [g, beq_self_eq_true, cond_true]
      rw [f30_eq (k := k) (takeS s kind id nm x y z l rs f).1 (by omega) (by omega), a1, a2]
      simp only [bne_self_eq_false, beq_self_eq_true, cond_true, f51_refl (show 0 < k by omega), Bool.not_true, cond_false]
      exact hn
    · have g' : (((takeS s kind id nm x y z l rs f).2 == 0) == true) = false := by simp [g]
      simp only [g', cond_false]
      exact hn
  simp only [f10_1000003_def, f10_1000003d]
  rw [hend]
  by_cases q : (stepS a b c d e s).2 = 0
  · have hst : chkFig a b c d e = 0 ∧ chkSend s = 0 ∧ stepS a b c d e s = (tickS a c.toNat d e s, 0) := by
      unfold stepS at q ⊢
      by_cases c1 : chkFig a b c d e = 0
      · by_cases c2 : chkSend s = 0
        · rw [if_neg (not_not_intro c1), if_neg (not_not_intro c2)]; exact ⟨c1, c2, rfl⟩
        · rw [if_neg (not_not_intro c1), if_pos c2] at q; exact absurd q c2
      · rw [if_pos c1] at q; exact absurd q c1
    obtain ⟨c1, c2, c3⟩ := hst
    obtain ⟨r1, r2⟩ := chkFig_ok c1
    obtain ⟨r3, r4⟩ := chkFig_all c1
    obtain ⟨t1, t2, t3, t4, t5, t6⟩ := tick_gd (seg := a) (wait := d) (most := e) (rate := c.toNat) (by omega) r1 r3 r4.2 (gd_of c2)
    have tz := tick_sz a c.toNat d e s
    rw [c3] at p1 p2 p3 ⊢
    have hlim : decide (((tickS a c.toNat d e s).2.length : Int) > c) = false := by simp only [decide_eq_false_iff_not]; omega
    simp only [beq_self_eq_true, cond_true]
    rw [f30_eq (k := k) (tickS a c.toNat d e s).1 (by rw [t5]; simp only at p1; omega) (by rw [t5]; exact h1), of_gd t1, t4, t5, t6]
    simp only [bne_self_eq_false, beq_self_eq_true, cond_true, cond_false, Bool.not_true, f51_refl (show 0 < k by omega), hlim, f10_0_def]
    refine f10_loop k K (K true) 0 s.st s.id s.nm s.dat s.nx s.hs s.wt s.tr kind id nm x y z l rs f (tickS a c.toNat d e s).2 (by omega) t2 (fun w hw => ?_) (tickS a c.toNat d e s).2.length k 0 (by omega) (by omega)
    have w1 := tz w hw
    have w2 := p2 w hw
    rw [w2]
    exact ⟨by simp only [List.length_nil]; omega, by omega⟩
  · have q' : ((stepS a b c d e s).2 == 0) = false := by simp [q]
    simp only [q', cond_false]
end Go.Proofs.Ytlcklflbhhnnhaa.PM
