/- The small machine PM: bytes.Repeat at one byte. -/
import Derived.Test.YtoepnomdklhhlaaGreatRpD
import Derived.Test.YtoepnomdklhhlaaGreatRpW
set_option linter.unusedSimpArgs false
set_option linter.unusedVariables false
namespace Go.Proofs.YtoepnomdklhhlaaGreat.PM
open Go
theorem addR (b o n : Nat) : (Addr.mk b o none).add n = ⟨b, o + n, none⟩ := by
  unfold Addr.add
  split
  · rename_i h; subst h; rfl
  · rfl
theorem add_zero' (a : Addr) : a.add 0 = a := by simp [Addr.add]
theorem repeat_core (y : Int) (n : Nat) (hy0 : 0 ≤ y) (hy1 : y < 256) (h0 : 0 < n) (hn : n ≤ 1000000000000) (p q : Prov) :
    Good Tryz.prog 125 [.val p (.slice (.int .u8)) [y], .val q (.int .i64) (n : Int)] [] (fun a b => a = [.rw 1] ∧ b = [⟨0, .arr [] (.int .u8) (List.replicate n y)⟩]) := by
  intro C pl us hC hcn hz hl hloc Rl hm hok hv
  obtain ⟨u1, _, rfl, h1, u2, _, rfl, h2, rfl⟩ := hv
  have h2' : u2 = .int .i64 (n : Int) := by
    have h : [u2] = [Value.int .i64 (n : Int)] := h2
    exact (List.cons.inj h).1
  subst h2'
  obtain ⟨A, c, e, hlc, hne⟩ := h1
  have e' : u1 = .slice A 1 c := (List.cons.inj e).1
  subst e'
  obtain ⟨ad, rfl, hS, hcell⟩ := hne (by simp)
  obtain ⟨es, g1, g2⟩ := hcell 0 y rfl
  have g3 : es = [.int .u8 y] := g1
  have hc : C.w0.cell? ad = some (.int .u8 (((UInt8.ofNat y.toNat).toNat : Nat) : Int)) := by
    have := g2 0 (.int .u8 y) (by rw [g3]; rfl)
    rw [Nat.zero_mul, add_zero', add_zero'] at this
    rw [this]
    have hm : (UInt8.ofNat y.toNat).toNat = y.toNat := by
      rw [UInt8.toNat_ofNat_of_lt']
      show y.toNat < 256
      omega
    rw [hm, Int.toNat_of_nonneg hy0]
  have hx8 : ((UInt8.ofNat y.toNat).toNat : Int) = y := by
    have hm : (UInt8.ofNat y.toNat).toNat = y.toNat := by
      rw [UInt8.toNat_ofNat_of_lt']
      show y.toNat < 256
      omega
    rw [hm, Int.toNat_of_nonneg hy0]
  have q1 : rowsOf [⟨0, Row.arr [] (Ty.int .u8) (List.replicate n y)⟩] 1 = some ⟨0, .arr [] (.int .u8) (List.replicate n y)⟩ := by rw [rowsOf_succ]; rfl
  have rO' : ∀ j s, rowsOf [⟨0, Row.arr [] (Ty.int .u8) (List.replicate n y)⟩] j = some s → j = 1 ∧ s = ⟨0, .arr [] (.int .u8) (List.replicate n y)⟩ := fun j s h => by
    rcases j with _ | _ | j
    · rw [rowsOf_zero] at h; cases h
    · rw [q1] at h; cases h; exact ⟨rfl, rfl⟩
    · rw [rowsOf_succ] at h; simp at h
  have hz1 : (Ty.int .u8).size = 1 := rfl
  have hcall := repeat_walk (UInt8.ofNat y.toNat) ad c n C.w0 h0 hn hc
  refine calls_mono hcall fun e w' hw => ?_
  obtain ⟨rfl, hb, arr, ha, has⟩ := hw
  have hszw : C.w0.heap.size < w'.heap.size := (Array.getElem?_eq_some_iff.1 ha).1
  have hold : ∀ k, k < C.w0.heap.size → w'.heap[k]? = C.w0.heap[k]? := fun k hk => hb.below.block k hk
  refine ⟨[.rw 1], [⟨0, .arr [] (.int .u8) (List.replicate n y)⟩], [.slice (some ⟨C.w0.heap.size, 0, none⟩) n n], ⟨fun r => if r = 1 then some (C.w0.heap.size, 0) else pl.loc r, pl.Z, pl.L⟩, ⟨rfl, rfl⟩, rfl,
    ⟨⟨fun s v h => (by cases h), fun r s h => ?_, rowsOf_zero [⟨0, Row.arr [] (Ty.int .u8) (List.replicate n y)⟩], fun r r' s s' b o o' hr hlv hr' hlv' hb1 hb2' => ?_, fun r s b o hr hlv hlo => ?_, rfl⟩, hz, hl, Nat.zero_le _, ?_, ?_, fun b hb hG => ?_, fun b arr T fr h => ?_, fun j h1 h2 => ?_⟩, fun j s h => ?_, ?_, ?_⟩
  · obtain ⟨rfl, rfl⟩ := rO' r s h
    simp only [RowR]
    refine ⟨fun q hq => (by cases hq), ?_⟩
    simp only [if_true]
    refine ⟨arr, 5, (0, 0), ha, by rw [hz1, List.length_replicate]; omega, .inl rfl, fun _ j x hx => ?_⟩
    have hj : j < n := by
      have := (List.getElem?_eq_some_iff.1 hx).1
      rwa [List.length_replicate] at this
    have hxy : x = y := (List.mem_replicate.1 (List.mem_of_getElem? hx)).2
    subst hxy
    refine ⟨[.int .u8 x], rfl, fun k u hu => ?_⟩
    have hk : k = 0 := by
      have := (List.getElem?_eq_some_iff.1 hu).1
      simp at this; exact this
    subst hk
    have hu' : u = .int .u8 x := by simpa using hu.symm
    have := hb.holds j (UInt8.ofNat x.toNat) (by rw [List.getElem?_replicate, if_pos hj])
    rw [hx8] at this
    rw [addR, hz1, hu']
    simpa using this
  · rw [(rO' r s hr).1, (rO' r' s' hr').1]
  · obtain ⟨rfl, rfl⟩ := rO' r s hr
    simp only [if_true, Option.some.injEq, Prod.mk.injEq] at hlo
    obtain ⟨rfl, rfl⟩ := hlo
    have hB := hC.size
    refine ⟨hszw, fun hZ => ?_, .inl (by omega)⟩
    have := hC.z _ (by rw [← hz]; exact hZ)
    omega
  · have hB := hC.size
    omega
  · exact ⟨hb.below.os, hb.below.tape, hb.below.output⟩
  · have hB := hC.size
    exact hold b (by omega)
  · exact ⟨arr, T, fr, (hold b (Array.getElem?_eq_some_iff.1 h).1).trans h, rfl⟩
  · have : C.n = 0 := hcn
    omega
  · obtain ⟨rfl, rfl⟩ := rO' j s h
    rfl
  · exact ⟨by rw [Men, q1]; exact Option.some_ne_none _, trivial⟩
  · refine ⟨_, _, rfl, ⟨rfl, fun m p t l' h => ?_⟩, rfl⟩
    rw [q1] at h
    cases h
    refine ⟨some ⟨C.w0.heap.size, 0, none⟩, n, by rw [List.length_replicate], by rw [List.length_replicate]; exact Nat.le_refl _, fun hc => ⟨C.w0.heap.size, 0, by simp, by simp, arr, 5, (0, 0), ha, by rw [hz1]; omega, by omega⟩⟩
theorem repeat_good : ExtOk Tryz.prog 125 repSpec := by
  refine ⟨⟨Tryz.f125, Option.get Tryz.f125.body (by kernel_rfl), by kernel_rfl, (Option.some_get _).symm, ne_of_beq_false (by kernel_rfl)⟩, fun ws rs res rout hspec => ?_⟩
  unfold repSpec at hspec
  split at hspec
  · split at hspec
    · rename_i ht
      obtain ⟨rfl, rfl⟩ := ht
      simp only [castB, castI64] at hspec
      rename_i p q l n
      cases hcond : repOk l n with
      | false => rw [hcond] at hspec; cases hspec
      | true =>
        rw [hcond] at hspec
        simp only [cond_true, Option.some.injEq, Prod.mk.injEq] at hspec
        obtain ⟨rfl, rfl⟩ := hspec
        simp only [repOk, Bool.and_eq_true, decide_eq_true_eq] at hcond
        obtain ⟨h1, h2, h3, h4, h5⟩ := hcond
        obtain ⟨y, rfl⟩ := List.length_eq_one_iff.1 h1
        obtain ⟨j, rfl⟩ := Int.eq_ofNat_of_zero_le (Int.le_trans (by decide) h2)
        intro C pl us hC hn hz hl hloc Rl hm hok hv
        exact repeat_core y j h4 h5 (Int.ofNat_lt.1 h2) (Int.ofNat_le.1 h3) _ _ C pl us hC hn hz hl hloc Rl hm hok hv
    · cases hspec
  · cases hspec
end Go.Proofs.YtoepnomdklhhlaaGreat.PM
