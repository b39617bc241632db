/- Annotations, and the equations of the loops (printed by a program of this work). -/
import Derived.Test.YtlcklflbhhnnhaaPT0
import Derived.Test.YtlcklflbhhnnhaaPmZ
import Derived.Test.YtlcklflbhhnnhaaPmSh
import Derived.Test.YtlcklflbhhnnhaaProg
import Derived.KernelRfl
set_option linter.unusedVariables false
set_option linter.unusedSimpArgs false
set_option maxRecDepth 100000
namespace Go.Proofs.Ytlcklflbhhnnhaa.PM
open Go
noncomputable def T : TT := [(3, ⟨.int .i64, 1, 8, [.int .i64 0], some (.int .i64)⟩),
  (5, ⟨.int .u8, 1, 1, [.int .u8 0], some (.int .u8)⟩),
  (22, ⟨.slice 5, 1, 24, [.slice none 0 0], some (.slice (.int .u8))⟩),
  (23, ⟨.slice 59, 1, 24, [.slice none 0 0], some (.slice (.prod (.int .i64) (.prod (.int .i64) .unit)))⟩),
  (59, ⟨.struct [(3, 0), (3, 1)], 2, 16, [.int .i64 0, .int .i64 0], some (.prod (.int .i64) (.prod (.int .i64) .unit))⟩),
  (149, ⟨.slice 23, 1, 24, [.slice none 0 0], some (.slice (.slice (.prod (.int .i64) (.prod (.int .i64) .unit))))⟩)]
noncomputable def sel : Code → List Nat → Code
  | c, [] => c
  | .seq a _, 0 :: l => sel a l
  | .seq _ b, _ :: l => sel b l
  | .cond _ a _, 0 :: l => sel a l
  | .cond _ _ b, _ :: l => sel b l
  | .block _ b, _ :: l => sel b l
  | .loop b, _ :: l => sel b l
  | c, _ => c
noncomputable def bodyOf (f : Func) : Code := match f.body with | some c => c | none => .skip
noncomputable def opsOf : Code → Array Oper
  | .region _ o _ => o
  | _ => #[]
noncomputable def operAt (c : Code) (i : Nat) : Oper := (opsOf c).getD i ⟨none, .alloc 0, 0, "", #[], none⟩

noncomputable def an66 : Ann := ⟨[.any, .any, .any], [], [], [], [], [], [], [], []⟩
noncomputable def sp45_0 : List (Nat × Mode) := [(0, .any), (1, .any), (13, .any), (14, .any), (15, .any)]
noncomputable def jn45_0 : List (Nat × Mode) := []
noncomputable def jn45_1 : List (Nat × Mode) := [(0, .any), (1, .any), (13, .any), (14, .any), (15, .any)]
noncomputable def jn45_2 : List (Nat × Mode) := [(0, .any), (1, .any), (13, .any), (14, .any), (15, .any)]
noncomputable def an45 : Ann := ⟨[(.lend (.prod (.int .i64) (.prod (.int .i64) .unit))), .any], [], [], [(6, sp45_0)], [(0, jn45_0), (1, jn45_1), (2, jn45_2)], [(0, sp45_0)], [(12, [⟨[], []⟩, ⟨[], []⟩, ⟨[], []⟩, ⟨[], []⟩, ⟨[131096], []⟩, ⟨[], []⟩, ⟨[], []⟩, ⟨[], []⟩, ⟨[], []⟩, ⟨[], []⟩, ⟨[], []⟩, ⟨[], []⟩, ⟨[], []⟩, ⟨[], []⟩])], [], []⟩
noncomputable def cd45_0 : Code := sel (bodyOf Try.f45) [1, 1, 1, 0, 1]
noncomputable def bd45_0 : Code := sel (bodyOf Try.f45) [1, 1, 1, 0, 1, 0, 0]
noncomputable def sp132_1000002 : List (Nat × Mode) := [(0, .any), (1, .any), (6, .any)]
noncomputable def sp132_1000005 : List (Nat × Mode) := [(0, .any), (1, .any), (16, .any)]
noncomputable def fi132_2 : List (Nat × Mode) := [(0, .any), (1, .any)]
noncomputable def fi132_5 : List (Nat × Mode) := [(0, (.trim (.prod (.int .i64) (.prod (.int .i64) .unit))))]
noncomputable def an132 : Ann := ⟨[.any, .any], [], [], [], [], [], [], [(2, sp132_1000002), (5, sp132_1000005)], [(2, fi132_2), (5, fi132_5)]⟩
noncomputable def cd132_1000002 : Code := sel (bodyOf Try.f132) [1, 0, 1]
noncomputable def cd132_1000005 : Code := sel (bodyOf Try.f132) [1, 1, 0, 1, 1]
noncomputable def sp114_1000007 : List (Nat × Mode) := [(0, .any), (3, .any), (9, .any), (10, .any), (11, .any), (20, .any)]
noncomputable def sp114_0 : List (Nat × Mode) := [(0, .any), (3, .any), (9, .any), (10, .any), (11, .any)]
noncomputable def sp114_2 : List (Nat × Mode) := [(6, .any), (25, .any), (26, .any), (27, .any)]
noncomputable def jn114_0 : List (Nat × Mode) := [(0, .any), (3, .any)]
noncomputable def jn114_1 : List (Nat × Mode) := [(0, .any), (3, .any), (9, .any), (10, .any), (11, .any)]
noncomputable def jn114_2 : List (Nat × Mode) := [(6, .any)]
noncomputable def jn114_3 : List (Nat × Mode) := [(6, .any), (25, .any), (26, .any), (27, .any)]
noncomputable def fi114_7 : List (Nat × Mode) := [(0, .any), (3, .any), (9, .any), (10, .any), (11, .any)]
noncomputable def an114 : Ann := ⟨[(.lend (.slice (.prod (.int .i64) (.prod (.int .i64) .unit))))], [], [], [(3, sp114_0), (11, sp114_2)], [(0, jn114_0), (1, jn114_1), (2, jn114_2), (3, jn114_3)], [(0, sp114_0), (2, sp114_2)], [], [(7, sp114_1000007)], [(7, fi114_7)]⟩
noncomputable def cd114_1000007 : Code := sel (bodyOf Try.f114) [1, 1, 0, 1, 0, 0, 1, 1, 0, 0, 1, 1, 1]
noncomputable def cd114_0 : Code := sel (bodyOf Try.f114) [1, 1, 0, 1]
noncomputable def bd114_0 : Code := sel (bodyOf Try.f114) [1, 1, 0, 1, 0, 0]
noncomputable def cd114_2 : Code := sel (bodyOf Try.f114) [1, 1, 1, 1, 0, 1]
noncomputable def bd114_2 : Code := sel (bodyOf Try.f114) [1, 1, 1, 1, 0, 1, 0, 0]
noncomputable def sp86_1000009 : List (Nat × Mode) := [(6, .any), (8, .any), (9, .any), (16, .any), (17, .any), (18, .any), (36, .any)]
noncomputable def sp86_0 : List (Nat × Mode) := [(6, (.own (.prod (.int .i64) (.prod (.int .i64) .unit)))), (16, .any), (17, .any), (18, .any)]
noncomputable def jn86_0 : List (Nat × Mode) := [(6, .any)]
noncomputable def jn86_1 : List (Nat × Mode) := [(6, .any), (16, .any), (17, .any), (18, .any)]
noncomputable def fi86_9 : List (Nat × Mode) := [(6, .any), (16, .any), (17, .any), (18, .any)]
noncomputable def an86 : Ann := ⟨[(.lend (.prod (.int .i64) (.prod (.int .i64) .unit))), (.lend (.prod (.int .i64) (.prod (.int .i64) .unit)))], [], [], [(5, sp86_0)], [(0, jn86_0), (1, jn86_1)], [(0, sp86_0)], [(8, [⟨[], []⟩, ⟨[], []⟩, ⟨[], []⟩, ⟨[], []⟩, ⟨[114704], []⟩, ⟨[1], []⟩, ⟨[], []⟩, ⟨[], []⟩, ⟨[1], []⟩, ⟨[], []⟩, ⟨[1], []⟩, ⟨[], []⟩, ⟨[], []⟩]), (9, [⟨[1], []⟩, ⟨[], []⟩, ⟨[], []⟩, ⟨[1], []⟩, ⟨[], []⟩, ⟨[], []⟩, ⟨[1], []⟩, ⟨[], []⟩, ⟨[1], []⟩, ⟨[], []⟩, ⟨[2], []⟩, ⟨[], []⟩, ⟨[1], []⟩, ⟨[], []⟩, ⟨[], [1]⟩])], [(9, sp86_1000009)], [(9, fi86_9)]⟩
noncomputable def cd86_1000009 : Code := sel (bodyOf Try.f86) [1, 1, 1, 1, 0, 1, 0, 0, 1, 1, 0, 0, 1, 1, 1]
noncomputable def cd86_0 : Code := sel (bodyOf Try.f86) [1, 1, 1, 1, 0, 1]
noncomputable def bd86_0 : Code := sel (bodyOf Try.f86) [1, 1, 1, 1, 0, 1, 0, 0]
noncomputable def an39 : Ann := ⟨[(.lend (.prod (.int .i64) (.prod (.int .i64) .unit))), (.lend (.prod (.int .i64) (.prod (.int .i64) .unit))), .any], [(.own (.prod (.int .i64) (.prod (.int .i64) .unit))), .any], [], [], [], [], [], [], []⟩
noncomputable def sp64_0 : List (Nat × Mode) := [(3, .any), (6, .any), (7, .any), (8, .any)]
noncomputable def jn64_0 : List (Nat × Mode) := [(3, .any)]
noncomputable def jn64_1 : List (Nat × Mode) := [(3, .any), (6, .any), (7, .any), (8, .any)]
noncomputable def an64 : Ann := ⟨[(.lend (.int .u8))], [], [], [(3, sp64_0)], [(0, jn64_0), (1, jn64_1)], [(0, sp64_0)], [], [], []⟩
noncomputable def cd64_0 : Code := sel (bodyOf Try.f64) [1, 1, 0, 1]
noncomputable def bd64_0 : Code := sel (bodyOf Try.f64) [1, 1, 0, 1, 0, 0]
noncomputable def an18 : Ann := ⟨[(.lend (.int .u8))], [], [], [], [], [], [], [], []⟩
noncomputable def an24 : Ann := ⟨[], [], [], [], [], [], [], [], []⟩
noncomputable def sp40_0 : List (Nat × Mode) := [(0, .any), (1, .any), (12, .any), (13, .any)]
noncomputable def jn40_0 : List (Nat × Mode) := []
noncomputable def jn40_1 : List (Nat × Mode) := [(0, .any), (1, .any), (12, .any), (13, .any)]
noncomputable def an40 : Ann := ⟨[(.lend (.prod (.int .i64) (.prod (.int .i64) .unit))), (.lend (.prod (.int .i64) (.prod (.int .i64) .unit)))], [], [], [(4, sp40_0)], [(0, jn40_0), (1, jn40_1)], [(0, sp40_0)], [(6, [⟨[], []⟩, ⟨[], []⟩, ⟨[], []⟩, ⟨[], []⟩, ⟨[], []⟩, ⟨[], []⟩, ⟨[], []⟩, ⟨[], []⟩, ⟨[], []⟩])], [], []⟩
noncomputable def cd40_0 : Code := sel (bodyOf Try.f40) [1, 1, 0, 1]
noncomputable def bd40_0 : Code := sel (bodyOf Try.f40) [1, 1, 0, 1, 0, 0]
noncomputable def sp41_0 : List (Nat × Mode) := [(0, .any), (3, .any), (4, .any)]
noncomputable def jn41_0 : List (Nat × Mode) := [(3, .any)]
noncomputable def jn41_1 : List (Nat × Mode) := [(0, .any), (3, .any), (4, .any)]
noncomputable def an41 : Ann := ⟨[(.lend (.prod (.int .i64) (.prod (.int .i64) .unit)))], [], [], [(3, sp41_0)], [(0, jn41_0), (1, jn41_1)], [(0, sp41_0)], [(5, [⟨[], []⟩, ⟨[], []⟩, ⟨[], []⟩, ⟨[], []⟩, ⟨[], []⟩, ⟨[], []⟩, ⟨[], []⟩, ⟨[], []⟩, ⟨[], []⟩, ⟨[], []⟩, ⟨[], []⟩, ⟨[], []⟩, ⟨[], []⟩, ⟨[], []⟩])], [], []⟩
noncomputable def cd41_0 : Code := sel (bodyOf Try.f41) [1, 1, 0, 1]
noncomputable def bd41_0 : Code := sel (bodyOf Try.f41) [1, 1, 0, 1, 0, 0]
noncomputable def an6 : Ann := ⟨[(.lend (.prod (.int .i64) (.prod (.int .i64) .unit))), (.lend (.prod (.int .i64) (.prod (.int .i64) .unit))), .any], [], [], [], [], [], [], [], []⟩
noncomputable def sp87_1000007 : List (Nat × Mode) := [(1, .any), (5, .any), (6, .any), (8, .any), (9, .any), (10, .any), (11, .any), (18, .any)]
noncomputable def sp87_0 : List (Nat × Mode) := [(1, .any), (5, (.own (.prod (.int .i64) (.prod (.int .i64) .unit)))), (6, .any), (9, .any), (10, .any), (11, .any)]
noncomputable def sp87_1000011 : List (Nat × Mode) := [(1, .any), (5, .any), (6, .any), (31, .any)]
noncomputable def jn87_0 : List (Nat × Mode) := [(1, .any), (5, .any), (6, .any)]
noncomputable def jn87_1 : List (Nat × Mode) := [(1, .any), (5, .any), (6, .any), (9, .any), (10, .any), (11, .any)]
noncomputable def fi87_7 : List (Nat × Mode) := [(1, .any), (5, (.own (.prod (.int .i64) (.prod (.int .i64) .unit)))), (8, .any), (9, .any), (10, .any), (11, .any)]
noncomputable def fi87_11 : List (Nat × Mode) := [(5, .any)]
noncomputable def an87 : Ann := ⟨[(.lend (.prod (.int .i64) (.prod (.int .i64) .unit))), .any], [], [], [(4, sp87_0)], [(0, jn87_0), (1, jn87_1)], [(0, sp87_0)], [], [(7, sp87_1000007), (11, sp87_1000011)], [(7, fi87_7), (11, fi87_11)]⟩
noncomputable def cd87_1000007 : Code := sel (bodyOf Try.f87) [1, 1, 1, 0, 1, 0, 0, 1, 1, 0, 0, 1, 0, 1]
noncomputable def cd87_0 : Code := sel (bodyOf Try.f87) [1, 1, 1, 0, 1]
noncomputable def bd87_0 : Code := sel (bodyOf Try.f87) [1, 1, 1, 0, 1, 0, 0]
noncomputable def cd87_1000011 : Code := sel (bodyOf Try.f87) [1, 1, 1, 1, 0, 1]
noncomputable def an42 : Ann := ⟨[(.lend (.prod (.int .i64) (.prod (.int .i64) .unit))), .any], [(.own (.prod (.int .i64) (.prod (.int .i64) .unit))), .any], [], [], [], [], [], [], []⟩
noncomputable def an72 : Ann := ⟨[.any, .any, .any], [], [], [], [], [], [], [], []⟩
noncomputable def sp46_0 : List (Nat × Mode) := [(0, .any), (1, .any), (5, .any)]
noncomputable def jn46_0 : List (Nat × Mode) := []
noncomputable def jn46_1 : List (Nat × Mode) := [(0, .any), (1, .any), (5, .any)]
noncomputable def an46 : Ann := ⟨[(.lend (.prod (.int .i64) (.prod (.int .i64) .unit))), .any], [], [], [(6, sp46_0)], [(0, jn46_0), (1, jn46_1)], [(0, sp46_0)], [(10, [⟨[], []⟩, ⟨[], []⟩, ⟨[], []⟩, ⟨[], []⟩, ⟨[], []⟩, ⟨[], []⟩, ⟨[], []⟩, ⟨[], []⟩, ⟨[], []⟩, ⟨[], []⟩, ⟨[], []⟩]), (12, [⟨[], []⟩, ⟨[], []⟩, ⟨[], []⟩, ⟨[], []⟩, ⟨[], []⟩, ⟨[], []⟩, ⟨[], []⟩, ⟨[], []⟩, ⟨[], []⟩, ⟨[], []⟩, ⟨[], []⟩, ⟨[], []⟩, ⟨[], []⟩, ⟨[], []⟩, ⟨[], []⟩, ⟨[], []⟩])], [], []⟩
noncomputable def cd46_0 : Code := sel (bodyOf Try.f46) [1, 1, 1, 0, 1]
noncomputable def bd46_0 : Code := sel (bodyOf Try.f46) [1, 1, 1, 0, 1, 0, 0]
noncomputable def sp88_1000007 : List (Nat × Mode) := [(0, .any), (1, .any), (5, .any), (6, .any), (7, .any), (20, .any)]
noncomputable def sp88_0 : List (Nat × Mode) := [(0, .any), (1, .any), (5, (.own (.prod (.int .i64) (.prod (.int .i64) .unit)))), (6, .any), (7, .any)]
noncomputable def sp88_1000010 : List (Nat × Mode) := [(1, .any), (5, .any), (6, .any), (38, .any)]
noncomputable def jn88_0 : List (Nat × Mode) := [(1, .any), (5, .any), (6, .any)]
noncomputable def jn88_1 : List (Nat × Mode) := [(0, .any), (1, .any), (5, .any), (6, .any), (7, .any)]
noncomputable def fi88_7 : List (Nat × Mode) := [(0, .any), (1, .any), (5, (.own (.prod (.int .i64) (.prod (.int .i64) .unit)))), (7, .any)]
noncomputable def fi88_10 : List (Nat × Mode) := [(5, .any)]
noncomputable def an88 : Ann := ⟨[(.lend (.prod (.int .i64) (.prod (.int .i64) .unit))), .any], [], [], [(4, sp88_0)], [(0, jn88_0), (1, jn88_1)], [(0, sp88_0)], [], [(7, sp88_1000007), (10, sp88_1000010)], [(7, fi88_7), (10, fi88_10)]⟩
noncomputable def cd88_1000007 : Code := sel (bodyOf Try.f88) [1, 1, 1, 0, 1, 0, 0, 1, 0, 0, 0, 1]
noncomputable def cd88_0 : Code := sel (bodyOf Try.f88) [1, 1, 1, 0, 1]
noncomputable def bd88_0 : Code := sel (bodyOf Try.f88) [1, 1, 1, 0, 1, 0, 0]
noncomputable def cd88_1000010 : Code := sel (bodyOf Try.f88) [1, 1, 1, 1, 0, 1]
noncomputable def an43 : Ann := ⟨[(.lend (.prod (.int .i64) (.prod (.int .i64) .unit))), .any], [(.own (.prod (.int .i64) (.prod (.int .i64) .unit))), .any], [], [], [], [], [], [], []⟩
noncomputable def sp89_1000006 : List (Nat × Mode) := [(0, .any), (1, .any), (5, .any), (6, .any), (7, .any), (8, .any), (42, .any)]
noncomputable def sp89_1000012 : List (Nat × Mode) := [(0, .any), (1, .any), (5, .any), (6, .any), (7, .any), (8, .any), (9, .any), (69, .any)]
noncomputable def sp89_0 : List (Nat × Mode) := [(0, .any), (1, .any), (5, (.own (.prod (.int .i64) (.prod (.int .i64) .unit)))), (6, .any), (7, .any)]
noncomputable def jn89_0 : List (Nat × Mode) := [(5, .any)]
noncomputable def jn89_1 : List (Nat × Mode) := [(0, .any), (1, .any), (5, .any), (6, .any), (7, .any)]
noncomputable def fi89_6 : List (Nat × Mode) := [(0, .any), (1, .any), (5, .any), (6, .any), (7, .any), (8, .any)]
noncomputable def fi89_12 : List (Nat × Mode) := [(0, .any), (1, .any), (5, .any), (6, .any), (7, .any)]
noncomputable def an89 : Ann := ⟨[(.lend (.prod (.int .i64) (.prod (.int .i64) .unit))), (.lend (.prod (.int .i64) (.prod (.int .i64) .unit)))], [], [], [(3, sp89_0)], [(0, jn89_0), (1, jn89_1)], [(0, sp89_0)], [(5, [⟨[], []⟩, ⟨[], []⟩, ⟨[], []⟩, ⟨[], []⟩, ⟨[], []⟩, ⟨[], []⟩, ⟨[], []⟩, ⟨[], []⟩, ⟨[], []⟩, ⟨[], []⟩, ⟨[], []⟩, ⟨[], []⟩, ⟨[], []⟩, ⟨[], []⟩, ⟨[], []⟩, ⟨[], []⟩, ⟨[], []⟩, ⟨[], []⟩, ⟨[], []⟩, ⟨[], []⟩, ⟨[], []⟩, ⟨[], []⟩, ⟨[], []⟩]), (11, [⟨[], []⟩, ⟨[], []⟩, ⟨[], []⟩, ⟨[], []⟩, ⟨[2], []⟩, ⟨[1], []⟩, ⟨[], []⟩, ⟨[], []⟩, ⟨[1], []⟩, ⟨[], []⟩, ⟨[1], []⟩, ⟨[], []⟩, ⟨[], []⟩]), (12, [⟨[1], []⟩, ⟨[], []⟩, ⟨[], []⟩, ⟨[1], []⟩, ⟨[], []⟩, ⟨[], []⟩, ⟨[1], []⟩, ⟨[], []⟩, ⟨[1], []⟩, ⟨[], []⟩, ⟨[2], []⟩, ⟨[], []⟩, ⟨[1], []⟩, ⟨[], []⟩, ⟨[], [1]⟩])], [(6, sp89_1000006), (12, sp89_1000012)], [(6, fi89_6), (12, fi89_12)]⟩
noncomputable def cd89_1000006 : Code := sel (bodyOf Try.f89) [1, 1, 1, 0, 0, 0, 1, 0, 1, 0, 1]
noncomputable def cd89_1000012 : Code := sel (bodyOf Try.f89) [1, 1, 1, 0, 0, 0, 1, 0, 1, 1, 1, 1]
noncomputable def cd89_0 : Code := sel (bodyOf Try.f89) [1, 1, 1, 0]
noncomputable def bd89_0 : Code := sel (bodyOf Try.f89) [1, 1, 1, 0, 0, 0]
noncomputable def an44 : Ann := ⟨[(.lend (.prod (.int .i64) (.prod (.int .i64) .unit))), (.lend (.prod (.int .i64) (.prod (.int .i64) .unit))), .any], [(.own (.prod (.int .i64) (.prod (.int .i64) .unit))), .any], [], [], [], [], [], [], []⟩
noncomputable def an7 : Ann := ⟨[(.lend (.prod (.int .i64) (.prod (.int .i64) .unit))), (.lend (.prod (.int .i64) (.prod (.int .i64) .unit))), .any], [], [], [], [], [], [], [], []⟩
noncomputable def an8 : Ann := ⟨[(.lend (.prod (.int .i64) (.prod (.int .i64) .unit))), .any], [], [], [], [], [], [], [], []⟩
end Go.Proofs.Ytlcklflbhhnnhaa.PM
