/- Annotations, and the equations of the loops (printed by a program of this work). -/
import Derived.Test.YtecnlienmpdlaaaPT0
import Derived.Test.YtecnlienmpdlaaaPmZ
import Derived.Test.YtecnlienmpdlaaaPmSh
import Derived.Test.YtecnlienmpdlaaaProg
import Derived.KernelRfl
set_option linter.unusedVariables false
set_option linter.unusedSimpArgs false
set_option maxRecDepth 100000
namespace Go.Proofs.Ytecnlienmpdlaaa.PM
open Go
noncomputable def T : TT := [(3, ⟨.int .i64, 1, 8, [.int .i64 0], some (.int .i64)⟩),
  (4, ⟨.bool, 1, 1, [.bool false], some .bool⟩),
  (5, ⟨.int .u8, 1, 1, [.int .u8 0], some (.int .u8)⟩),
  (9, ⟨.str, 1, 16, [.string ⟨#[]⟩], some .str⟩),
  (22, ⟨.slice 5, 1, 24, [.slice none 0 0], some (.slice (.int .u8))⟩),
  (23, ⟨.slice 3, 1, 24, [.slice none 0 0], some (.slice (.int .i64))⟩),
  (25, ⟨.struct [(3, 0), (3, 1), (3, 2), (22, 3), (23, 4), (23, 5)], 6, 96, [.int .i64 0, .int .i64 0, .int .i64 0, .slice none 0 0, .slice none 0 0, .slice none 0 0], some (.prod (.int .i64) (.prod (.int .i64) (.prod (.int .i64) (.prod (.slice (.int .u8)) (.prod (.slice (.int .i64)) (.prod (.slice (.int .i64)) .unit))))))⟩),
  (37, ⟨.struct [(3, 0), (4, 1), (9, 2), (3, 3), (4, 4), (22, 5)], 6, 72, [.int .i64 0, .bool false, .string ⟨#[]⟩, .int .i64 0, .bool false, .slice none 0 0], some (.prod (.int .i64) (.prod .bool (.prod .str (.prod (.int .i64) (.prod .bool (.prod (.slice (.int .u8)) .unit))))))⟩),
  (46, ⟨.int .u64, 1, 8, [.int .u64 0], some (.int .u64)⟩),
  (58, ⟨.slice 9, 1, 24, [.slice none 0 0], some (.slice .str)⟩),
  (61, ⟨.slice 65, 1, 24, [.slice none 0 0], some (.slice (.prod (.int .i64) (.prod (.int .i64) (.prod .bool (.prod .bool .unit)))))⟩),
  (65, ⟨.struct [(3, 0), (3, 1), (4, 2), (4, 3)], 4, 24, [.int .i64 0, .int .i64 0, .bool false, .bool false], some (.prod (.int .i64) (.prod (.int .i64) (.prod .bool (.prod .bool .unit))))⟩),
  (88, ⟨.slice 104, 1, 24, [.slice none 0 0], some (.slice (.prod (.int .i64) (.prod (.prod (.int .i64) (.prod .bool (.prod .str (.prod (.int .i64) (.prod .bool (.prod (.slice (.int .u8)) .unit)))))) .unit)))⟩),
  (90, ⟨.struct [(25, 0), (23, 6), (88, 7), (3, 8)], 9, 152, [.int .i64 0, .int .i64 0, .int .i64 0, .slice none 0 0, .slice none 0 0, .slice none 0 0, .slice none 0 0, .slice none 0 0, .int .i64 0], some (.prod (.prod (.int .i64) (.prod (.int .i64) (.prod (.int .i64) (.prod (.slice (.int .u8)) (.prod (.slice (.int .i64)) (.prod (.slice (.int .i64)) .unit)))))) (.prod (.slice (.int .i64)) (.prod (.slice (.prod (.int .i64) (.prod (.prod (.int .i64) (.prod .bool (.prod .str (.prod (.int .i64) (.prod .bool (.prod (.slice (.int .u8)) .unit)))))) .unit))) (.prod (.int .i64) .unit))))⟩),
  (104, ⟨.struct [(3, 0), (37, 1)], 7, 80, [.int .i64 0, .int .i64 0, .bool false, .string ⟨#[]⟩, .int .i64 0, .bool false, .slice none 0 0], some (.prod (.int .i64) (.prod (.prod (.int .i64) (.prod .bool (.prod .str (.prod (.int .i64) (.prod .bool (.prod (.slice (.int .u8)) .unit)))))) .unit))⟩),
  (110, ⟨.map 114 4, 1, 8, [.map none], none⟩),
  (114, ⟨.struct [(3, 0), (9, 1)], 2, 24, [.int .i64 0, .string ⟨#[]⟩], some (.prod (.int .i64) (.prod .str .unit))⟩),
  (132, ⟨.map 3 88, 1, 8, [.map none], none⟩)]
noncomputable def sel : Code → List Nat → Code
  | c, [] => c
  | .seq a _, 0 :: l => sel a l
  | .seq _ b, _ :: l => sel b l
  | .cond _ a _, 0 :: l => sel a l
  | .cond _ _ b, _ :: l => sel b l
  | .block _ b, _ :: l => sel b l
  | .loop b, _ :: l => sel b l
  | c, _ => c
noncomputable def bodyOf (f : Func) : Code := match f.body with | some c => c | none => .skip
noncomputable def opsOf : Code → Array Oper
  | .region _ o _ => o
  | _ => #[]
noncomputable def operAt (c : Code) (i : Nat) : Oper := (opsOf c).getD i ⟨none, .alloc 0, 0, "", #[], none⟩

noncomputable def an52 : Ann := ⟨[.any, .any, .any], [], [], [], [], [], [], [], []⟩
noncomputable def jn45_0 : List (Nat × Mode) := []
noncomputable def an45 : Ann := ⟨[(.cells [.any, .any, .any, (.lend (.int .u8)), (.lend (.int .i64)), (.lend (.int .i64))])], [], [], [], [(0, jn45_0)], [], [], [], []⟩
noncomputable def sp46_0 : List (Nat × Mode) := [(1, .any), (6, .any), (7, .any), (8, .any)]
noncomputable def jn46_0 : List (Nat × Mode) := []
noncomputable def jn46_1 : List (Nat × Mode) := [(1, .any), (6, .any), (7, .any), (8, .any)]
noncomputable def jn46_2 : List (Nat × Mode) := [(1, .any), (6, .any), (7, .any), (8, .any)]
noncomputable def an46 : Ann := ⟨[(.cells [.any, .any, .any, (.lend (.int .u8)), (.lend (.int .i64)), (.lend (.int .i64))])], [], [], [(2, sp46_0)], [(0, jn46_0), (1, jn46_1), (2, jn46_2)], [(0, sp46_0)], [], [], []⟩
noncomputable def cd46_0 : Code := sel (bodyOf Try.f46) [1, 0, 1]
noncomputable def bd46_0 : Code := sel (bodyOf Try.f46) [1, 0, 1, 0, 0]
noncomputable def sp37_0 : List (Nat × Mode) := [(1, .any), (32, .any), (33, .any), (34, .any)]
noncomputable def jn37_0 : List (Nat × Mode) := [(1, .any)]
noncomputable def jn37_1 : List (Nat × Mode) := [(1, .any), (32, .any), (33, .any), (34, .any)]
noncomputable def an37 : Ann := ⟨[(.cells [.any, .any, .any, (.lend (.int .u8)), (.lend (.int .i64)), (.lend (.int .i64))])], [], [], [(7, sp37_0)], [(0, jn37_0), (1, jn37_1)], [(0, sp37_0)], [], [], []⟩
noncomputable def cd37_0 : Code := sel (bodyOf Try.f37) [1, 1, 1, 0, 1]
noncomputable def bd37_0 : Code := sel (bodyOf Try.f37) [1, 1, 1, 0, 1, 0, 0]
noncomputable def sp98_0 : List (Nat × Mode) := [(0, .any), (1, .any), (7, .any), (8, .any)]
noncomputable def jn98_0 : List (Nat × Mode) := []
noncomputable def jn98_1 : List (Nat × Mode) := [(0, .any), (1, .any), (7, .any), (8, .any)]
noncomputable def an98 : Ann := ⟨[(.lend (.int .i64)), .any], [], [], [(2, sp98_0)], [(0, jn98_0), (1, jn98_1)], [(0, sp98_0)], [], [], []⟩
noncomputable def cd98_0 : Code := sel (bodyOf Try.f98) [1, 0, 1]
noncomputable def bd98_0 : Code := sel (bodyOf Try.f98) [1, 0, 1, 0, 0]
noncomputable def an79 : Ann := ⟨[(.lend (.int .i64)), .any], [], [], [], [], [], [], [], []⟩
noncomputable def an80 : Ann := ⟨[(.cells [.any, .any, .any, (.lend (.int .u8)), (.lend (.int .i64)), (.lend (.int .i64))]), .any], [], [], [], [], [], [], [], []⟩
noncomputable def an97 : Ann := ⟨[.any], [], [], [], [], [], [], [], []⟩
noncomputable def sp108_0 : List (Nat × Mode) := [(0, .any), (1, .any), (7, .any), (8, .any)]
noncomputable def jn108_0 : List (Nat × Mode) := []
noncomputable def jn108_1 : List (Nat × Mode) := [(0, .any), (1, .any), (7, .any), (8, .any)]
noncomputable def an108 : Ann := ⟨[(.lend (.int .u8)), .any], [], [], [(2, sp108_0)], [(0, jn108_0), (1, jn108_1)], [(0, sp108_0)], [], [], []⟩
noncomputable def cd108_0 : Code := sel (bodyOf Try.f108) [1, 0, 1]
noncomputable def bd108_0 : Code := sel (bodyOf Try.f108) [1, 0, 1, 0, 0]
noncomputable def an96 : Ann := ⟨[(.lend (.int .u8)), .any], [], [], [], [], [], [], [], []⟩
noncomputable def an74 : Ann := ⟨[(.lend (.int .u8))], [], [], [], [], [], [], [], []⟩
noncomputable def an75 : Ann := ⟨[(.lend (.int .u8))], [], [], [], [], [], [(1, [⟨[], []⟩, ⟨[], []⟩, ⟨[], []⟩, ⟨[], []⟩, ⟨[], []⟩, ⟨[], []⟩, ⟨[], []⟩, ⟨[], []⟩, ⟨[], []⟩, ⟨[], []⟩, ⟨[], []⟩, ⟨[], []⟩, ⟨[], []⟩, ⟨[], []⟩, ⟨[], []⟩, ⟨[], []⟩, ⟨[], []⟩, ⟨[], []⟩, ⟨[], []⟩, ⟨[], []⟩, ⟨[], []⟩, ⟨[], []⟩, ⟨[], []⟩])], [], []⟩
noncomputable def sp73_0 : List (Nat × Mode) := [(0, .any), (12, .any), (13, .any)]
noncomputable def jn73_0 : List (Nat × Mode) := []
noncomputable def jn73_1 : List (Nat × Mode) := [(0, .any), (12, .any), (13, .any)]
noncomputable def an73 : Ann := ⟨[.any], [], [], [(4, sp73_0)], [(0, jn73_0), (1, jn73_1)], [(0, sp73_0)], [], [], []⟩
noncomputable def cd73_0 : Code := sel (bodyOf Try.f73) [1, 1, 0, 1]
noncomputable def bd73_0 : Code := sel (bodyOf Try.f73) [1, 1, 0, 1, 0, 0]
noncomputable def an53 : Ann := ⟨[.any], [], [], [], [], [], [], [], []⟩
noncomputable def an85 : Ann := ⟨[.any, .any], [], [], [], [], [], [], [], []⟩
noncomputable def an62 : Ann := ⟨[.any, .any], [], [], [], [], [], [], [], []⟩
noncomputable def sp47_1000002 : List (Nat × Mode) := [(0, .any), (1, .any), (10, .any)]
noncomputable def sp47_1000005 : List (Nat × Mode) := [(0, .any), (6, .any), (26, .any)]
noncomputable def sp47_0 : List (Nat × Mode) := [(7, .any), (8, .any)]
noncomputable def jn47_0 : List (Nat × Mode) := [(7, .any)]
noncomputable def jn47_1 : List (Nat × Mode) := [(7, .any), (8, .any)]
noncomputable def fi47_2 : List (Nat × Mode) := [(0, .any), (1, .any)]
noncomputable def fi47_5 : List (Nat × Mode) := [(0, .any), (6, .any)]
noncomputable def an47 : Ann := ⟨[(.lend (.int .u8)), .any], [], [], [(8, sp47_0)], [(0, jn47_0), (1, jn47_1)], [(0, sp47_0)], [(9, [⟨[], []⟩, ⟨[], []⟩, ⟨[], []⟩, ⟨[1], []⟩, ⟨[], []⟩, ⟨[], []⟩, ⟨[1], []⟩, ⟨[], [1]⟩, ⟨[], []⟩, ⟨[], []⟩])], [(2, sp47_1000002), (5, sp47_1000005)], [(2, fi47_2), (5, fi47_5)]⟩
noncomputable def cd47_1000002 : Code := sel (bodyOf Try.f47) [1, 0, 1]
noncomputable def cd47_1000005 : Code := sel (bodyOf Try.f47) [1, 1, 1, 0, 1]
noncomputable def cd47_0 : Code := sel (bodyOf Try.f47) [1, 1, 1, 1, 1, 1, 0]
noncomputable def bd47_0 : Code := sel (bodyOf Try.f47) [1, 1, 1, 1, 1, 1, 0, 0, 0]
noncomputable def sp50_1000011 : List (Nat × Mode) := [(3, .any), (7, .any), (8, .any), (9, .any), (18, .any), (25, .any)]
noncomputable def sp50_2 : List (Nat × Mode) := [(3, .any), (7, .any), (8, .any), (9, .any), (18, .any)]
noncomputable def sp50_0 : List (Nat × Mode) := [(3, .any), (7, .any), (8, .any), (9, .any)]
noncomputable def jn50_0 : List (Nat × Mode) := [(3, .any)]
noncomputable def jn50_1 : List (Nat × Mode) := [(3, .any), (7, .any), (8, .any), (9, .any)]
noncomputable def jn50_2 : List (Nat × Mode) := [(3, .any), (7, .any), (8, .any), (9, .any)]
noncomputable def jn50_3 : List (Nat × Mode) := [(3, .any), (7, .any), (8, .any), (9, .any), (18, .any)]
noncomputable def fi50_11 : List (Nat × Mode) := [(3, .any), (7, .any), (8, .any), (9, .any), (18, .any)]
noncomputable def an50 : Ann := ⟨[(.lend (.int .u8))], [], [], [(7, sp50_2), (3, sp50_0)], [(0, jn50_0), (1, jn50_1), (2, jn50_2), (3, jn50_3)], [(2, sp50_2), (0, sp50_0)], [], [(11, sp50_1000011)], [(11, fi50_11)]⟩
noncomputable def cd50_1000011 : Code := sel (bodyOf Try.f50) [1, 1, 0, 1, 0, 0, 1, 1, 0, 0, 1, 1, 1, 0, 0, 1, 1, 0, 0, 1, 1, 1]
noncomputable def cd50_2 : Code := sel (bodyOf Try.f50) [1, 1, 0, 1, 0, 0, 1, 1, 0, 0, 1, 1, 1]
noncomputable def bd50_2 : Code := sel (bodyOf Try.f50) [1, 1, 0, 1, 0, 0, 1, 1, 0, 0, 1, 1, 1, 0, 0]
noncomputable def cd50_0 : Code := sel (bodyOf Try.f50) [1, 1, 0, 1]
noncomputable def bd50_0 : Code := sel (bodyOf Try.f50) [1, 1, 0, 1, 0, 0]
noncomputable def sp18_1000013 : List (Nat × Mode) := [(0, .any), (3, .any), (6, .any), (7, .any), (62, .any)]
noncomputable def sp18_1000015 : List (Nat × Mode) := [(0, .any), (3, .any), (6, .any), (7, .any), (64, .any)]
noncomputable def jn18_0 : List (Nat × Mode) := [(0, .any), (3, .any)]
noncomputable def fi18_13 : List (Nat × Mode) := [(0, .any), (3, .any), (6, .any), (7, .any)]
noncomputable def fi18_15 : List (Nat × Mode) := [(0, .any), (3, .any), (6, .any), (7, .any)]
noncomputable def an18 : Ann := ⟨[.any, (.cells [.any, .any, .any, .any, .any, (.lend (.int .u8))])], [(.own (.int .u8)), .any], [], [], [(0, jn18_0)], [], [(18, [⟨[], []⟩, ⟨[], []⟩, ⟨[1], []⟩, ⟨[], [295176]⟩, ⟨[], []⟩, ⟨[1], []⟩, ⟨[], [311320]⟩, ⟨[], []⟩])], [(13, sp18_1000013), (15, sp18_1000015)], [(13, fi18_13), (15, fi18_15)]⟩
noncomputable def cd18_1000013 : Code := sel (bodyOf Try.f18) [1, 1, 1, 0, 1]
noncomputable def cd18_1000015 : Code := sel (bodyOf Try.f18) [1, 1, 1, 1, 0, 1]
noncomputable def sp76_0 : List (Nat × Mode) := [(0, .any), (1, .any), (12, .any), (13, .any)]
noncomputable def jn76_0 : List (Nat × Mode) := []
noncomputable def jn76_1 : List (Nat × Mode) := [(0, .any), (1, .any), (12, .any), (13, .any)]
noncomputable def an76 : Ann := ⟨[(.lend (.int .u8)), (.lend (.int .u8))], [], [], [(4, sp76_0)], [(0, jn76_0), (1, jn76_1)], [(0, sp76_0)], [(6, [⟨[], []⟩, ⟨[], []⟩, ⟨[], []⟩, ⟨[], []⟩, ⟨[], []⟩, ⟨[], []⟩, ⟨[], []⟩, ⟨[], []⟩, ⟨[], []⟩])], [], []⟩
noncomputable def cd76_0 : Code := sel (bodyOf Try.f76) [1, 1, 0, 1]
noncomputable def bd76_0 : Code := sel (bodyOf Try.f76) [1, 1, 0, 1, 0, 0]
noncomputable def jn56_0 : List (Nat × Mode) := [(0, .any), (3, .any)]
noncomputable def an56 : Ann := ⟨[(.lend (.int .u8))], [.any, (.cells [.any, .any, .any, .any, .any, (.own (.int .u8))])], [], [], [(0, jn56_0)], [], [(6, [⟨[], []⟩, ⟨[], []⟩, ⟨[], []⟩, ⟨[], []⟩, ⟨[], []⟩, ⟨[], []⟩, ⟨[], []⟩, ⟨[], []⟩, ⟨[], []⟩, ⟨[], []⟩, ⟨[], []⟩, ⟨[], []⟩, ⟨[], []⟩, ⟨[], []⟩, ⟨[], []⟩, ⟨[], []⟩]), (9, [⟨[], []⟩, ⟨[], []⟩, ⟨[], []⟩, ⟨[], []⟩, ⟨[], []⟩, ⟨[], []⟩, ⟨[], []⟩, ⟨[], []⟩, ⟨[], []⟩, ⟨[], []⟩, ⟨[], []⟩, ⟨[], []⟩, ⟨[], []⟩, ⟨[], []⟩, ⟨[], []⟩, ⟨[], []⟩, ⟨[], []⟩, ⟨[], []⟩, ⟨[], []⟩, ⟨[], []⟩, ⟨[], []⟩, ⟨[], []⟩, ⟨[], []⟩, ⟨[], []⟩, ⟨[], []⟩, ⟨[], []⟩, ⟨[], []⟩, ⟨[], []⟩, ⟨[], []⟩, ⟨[], []⟩, ⟨[], []⟩, ⟨[], []⟩, ⟨[], []⟩, ⟨[], []⟩, ⟨[164105], []⟩, ⟨[], []⟩, ⟨[164105], [164120]⟩]), (13, [⟨[164105, 164120], []⟩, ⟨[], []⟩, ⟨[164105], [1]⟩])], [], []⟩
noncomputable def sp59_1000012 : List (Nat × Mode) := [(1, .any), (2, .any), (3, .any), (4, .any), (5, .any), (6, .any), (7, .any), (8, .any), (17, .any), (18, .any), (50, .any)]
noncomputable def sp59_1000015 : List (Nat × Mode) := [(1, .any), (2, .any), (3, .any), (4, .any), (5, .any), (8, .any), (9, .any), (17, .any), (18, .any), (70, .any)]
noncomputable def sp59_1 : List (Nat × Mode) := [(1, .any), (2, .any), (3, .any), (4, .any), (17, .any), (18, .any)]
noncomputable def sp59_0 : List (Nat × Mode) := [(1, .any), (2, .any), (3, (.cells [.any, .any, .any, .any, .any, .any, (.own (.int .i64)), (.own (.prod (.int .i64) (.prod (.prod (.int .i64) (.prod .bool (.prod .str (.prod (.int .i64) (.prod .bool (.prod (.slice (.int .u8)) .unit)))))) .unit))), .any])), (4, .any), (17, .any), (18, .any)]
noncomputable def jn59_0 : List (Nat × Mode) := [(2, .any), (3, .any)]
noncomputable def jn59_1 : List (Nat × Mode) := [(1, .any), (2, .any), (3, (.cells [.any, .any, .any, .any, .any, .any, .any, (.own (.prod (.int .i64) (.prod (.prod (.int .i64) (.prod .bool (.prod .str (.prod (.int .i64) (.prod .bool (.prod (.slice (.int .u8)) .unit)))))) .unit))), .any])), (4, .any), (17, .any), (18, .any)]
noncomputable def fi59_12 : List (Nat × Mode) := [(1, .any), (2, .any), (3, .any), (4, .any), (5, .any), (7, .any), (8, .any), (17, .any), (18, .any)]
noncomputable def fi59_15 : List (Nat × Mode) := [(1, .any), (2, .any), (3, (.cells [.any, .any, .any, .any, .any, .any, .any, (.own (.prod (.int .i64) (.prod (.prod (.int .i64) (.prod .bool (.prod .str (.prod (.int .i64) (.prod .bool (.prod (.slice (.int .u8)) .unit)))))) .unit))), .any])), (4, .any), (17, .any), (18, .any)]
noncomputable def an59 : Ann := ⟨[(.cells [.any, .any, .any, (.lend (.int .u8)), (.lend (.int .i64)), (.lend (.int .i64))])], [], [], [(4, sp59_0)], [(0, jn59_0), (1, jn59_1)], [(1, sp59_1), (0, sp59_0)], [(6, [⟨[], []⟩, ⟨[1], []⟩, ⟨[], []⟩, ⟨[], []⟩, ⟨[1], []⟩, ⟨[], []⟩, ⟨[], []⟩]), (12, [⟨[], []⟩, ⟨[3], []⟩, ⟨[], []⟩, ⟨[], []⟩, ⟨[], []⟩, ⟨[], []⟩, ⟨[], []⟩, ⟨[4, 5], [3]⟩])], [(12, sp59_1000012), (15, sp59_1000015)], [(12, fi59_12), (15, fi59_15)]⟩
noncomputable def cd59_1000012 : Code := sel (bodyOf Try.f59) [1, 1, 1, 0, 1, 0, 0, 1, 1, 0, 0, 1, 1, 1, 1, 1, 0, 1]
noncomputable def cd59_1000015 : Code := sel (bodyOf Try.f59) [1, 1, 1, 0, 1, 0, 0, 1, 1, 0, 0, 1, 1, 1, 1, 1, 1, 1, 1]
noncomputable def cd59_1 : Code := sel (bodyOf Try.f59) [1, 1, 1, 0, 1, 0, 0, 1, 1, 0]
noncomputable def cd59_0 : Code := sel (bodyOf Try.f59) [1, 1, 1, 0, 1]
noncomputable def bd59_0 : Code := sel (bodyOf Try.f59) [1, 1, 1, 0, 1, 0, 0]
noncomputable def sp89_1000012 : List (Nat × Mode) := [(0, .any), (3, .any), (4, .any), (5, .any), (44, .any)]
noncomputable def sp89_2 : List (Nat × Mode) := [(0, .any), (3, .any), (4, .any), (5, .any)]
noncomputable def sp89_0 : List (Nat × Mode) := [(0, .any), (3, .any)]
noncomputable def jn89_0 : List (Nat × Mode) := [(0, .any)]
noncomputable def jn89_1 : List (Nat × Mode) := [(0, .any), (3, .any)]
noncomputable def jn89_2 : List (Nat × Mode) := [(0, .any), (3, .any)]
noncomputable def jn89_3 : List (Nat × Mode) := [(0, .any), (3, .any), (4, .any), (5, .any)]
noncomputable def fi89_12 : List (Nat × Mode) := [(0, .any), (3, .any), (4, .any), (5, .any)]
noncomputable def an89 : Ann := ⟨[.any], [(.move .str), .any], [], [(9, sp89_2), (4, sp89_0)], [(0, jn89_0), (1, jn89_1), (2, jn89_2), (3, jn89_3)], [(2, sp89_2), (0, sp89_0)], [(6, [⟨[], []⟩, ⟨[], []⟩, ⟨[1], []⟩, ⟨[1], []⟩, ⟨[], []⟩, ⟨[], []⟩, ⟨[], []⟩, ⟨[1], []⟩, ⟨[1], []⟩, ⟨[], []⟩]), (11, [⟨[1], []⟩, ⟨[], []⟩, ⟨[1], []⟩, ⟨[1], []⟩, ⟨[1], []⟩, ⟨[], []⟩, ⟨[], []⟩, ⟨[1], []⟩, ⟨[1], []⟩, ⟨[], []⟩])], [(12, sp89_1000012)], [(12, fi89_12)]⟩
noncomputable def cd89_1000012 : Code := sel (bodyOf Try.f89) [1, 1, 0, 1, 0, 0, 1, 0, 0, 1, 0, 1, 0, 1, 0, 0, 1, 0, 0, 1]
noncomputable def cd89_2 : Code := sel (bodyOf Try.f89) [1, 1, 0, 1, 0, 0, 1, 0, 0, 1, 0, 1, 0, 1]
noncomputable def bd89_2 : Code := sel (bodyOf Try.f89) [1, 1, 0, 1, 0, 0, 1, 0, 0, 1, 0, 1, 0, 1, 0, 0]
noncomputable def cd89_0 : Code := sel (bodyOf Try.f89) [1, 1, 0, 1]
noncomputable def bd89_0 : Code := sel (bodyOf Try.f89) [1, 1, 0, 1, 0, 0]
noncomputable def sp66_0 : List (Nat × Mode) := [(3, (.own .str)), (7, .any), (8, .any), (9, .any)]
noncomputable def jn66_0 : List (Nat × Mode) := [(3, .any)]
noncomputable def jn66_1 : List (Nat × Mode) := [(3, .any), (7, .any), (8, .any), (9, .any)]
noncomputable def an66 : Ann := ⟨[(.cells [.any, .any, .any, (.lend (.int .u8)), (.lend (.int .i64)), (.lend (.int .i64)), (.lend (.int .i64)), (.lend (.prod (.int .i64) (.prod (.prod (.int .i64) (.prod .bool (.prod .str (.prod (.int .i64) (.prod .bool (.prod (.slice (.int .u8)) .unit)))))) .unit))), .any])], [], [], [(3, sp66_0)], [(0, jn66_0), (1, jn66_1)], [(0, sp66_0)], [], [], []⟩
noncomputable def cd66_0 : Code := sel (bodyOf Try.f66) [1, 1, 0, 1]
noncomputable def bd66_0 : Code := sel (bodyOf Try.f66) [1, 1, 0, 1, 0, 0]
noncomputable def an106 : Ann := ⟨[(.cells [.any, .any, .any, .any, .any, .any, (.lend (.int .u8))])], [], [], [], [], [], [], [], []⟩
noncomputable def sp91_1000006 : List (Nat × Mode) := [(1, .any), (5, .any), (7, .any), (10, .any), (11, .any), (12, .any), (20, .any)]
noncomputable def sp91_0 : List (Nat × Mode) := [(1, .any), (5, (.tie .any)), (10, .any), (11, .any), (12, .any)]
noncomputable def jn91_0 : List (Nat × Mode) := [(5, .any)]
noncomputable def jn91_1 : List (Nat × Mode) := [(1, .any), (5, .any), (10, .any), (11, .any), (12, .any)]
noncomputable def fi91_6 : List (Nat × Mode) := [(1, .any), (5, (.tie .any)), (10, .any), (11, .any), (12, .any)]
noncomputable def an91 : Ann := ⟨[(.cells [.any, .any, .any, (.lend (.int .u8)), (.lend (.int .i64)), (.lend (.int .i64)), (.lend (.int .i64)), (.lend (.prod (.int .i64) (.prod (.prod (.int .i64) (.prod .bool (.prod .str (.prod (.int .i64) (.prod .bool (.prod (.slice (.int .u8)) .unit)))))) .unit))), .any]), .any], [], [], [(3, sp91_0)], [(0, jn91_0), (1, jn91_1)], [(0, sp91_0)], [(6, [⟨[], []⟩, ⟨[2], []⟩, ⟨[], []⟩, ⟨[], []⟩, ⟨[2], []⟩, ⟨[], []⟩, ⟨[], [1]⟩, ⟨[2], []⟩, ⟨[], []⟩, ⟨[114752], [114736]⟩, ⟨[114752], [1, 114760]⟩])], [(6, sp91_1000006)], [(6, fi91_6)]⟩
noncomputable def cd91_1000006 : Code := sel (bodyOf Try.f91) [1, 1, 0, 1, 0, 0, 1, 1, 0, 0, 1, 1]
noncomputable def cd91_0 : Code := sel (bodyOf Try.f91) [1, 1, 0, 1]
noncomputable def bd91_0 : Code := sel (bodyOf Try.f91) [1, 1, 0, 1, 0, 0]
noncomputable def sp92_1000008 : List (Nat × Mode) := [(4, .any), (5, .any), (6, .any), (7, .any), (8, .any), (28, .any), (29, .any), (30, .any), (37, .any)]
noncomputable def sp92_0 : List (Nat × Mode) := [(4, .any), (5, .any), (6, .any), (28, .any), (29, .any), (30, .any)]
noncomputable def jn92_0 : List (Nat × Mode) := [(4, .any), (5, .any), (6, .any)]
noncomputable def jn92_1 : List (Nat × Mode) := [(4, .any), (5, .any), (6, .any), (28, .any), (29, .any), (30, .any)]
noncomputable def fi92_8 : List (Nat × Mode) := [(4, .any), (5, .any), (6, .any), (28, .any), (29, .any), (30, .any)]
noncomputable def an92 : Ann := ⟨[.any, .any], [], [], [(5, sp92_0)], [(0, jn92_0), (1, jn92_1)], [(0, sp92_0)], [], [(8, sp92_1000008)], [(8, fi92_8)]⟩
noncomputable def cd92_1000008 : Code := sel (bodyOf Try.f92) [1, 1, 1, 1, 0, 1, 0, 0, 1, 1, 0, 0, 1, 1]
noncomputable def cd92_0 : Code := sel (bodyOf Try.f92) [1, 1, 1, 1, 0, 1]
noncomputable def bd92_0 : Code := sel (bodyOf Try.f92) [1, 1, 1, 1, 0, 1, 0, 0]
noncomputable def sp69_0 : List (Nat × Mode) := [(5, (.own (.prod (.int .i64) (.prod (.int .i64) (.prod .bool (.prod .bool .unit)))))), (11, .any)]
noncomputable def jn69_0 : List (Nat × Mode) := [(5, .any)]
noncomputable def jn69_1 : List (Nat × Mode) := [(5, .any), (11, .any)]
noncomputable def an69 : Ann := ⟨[(.cells [.any, .any, .any, (.lend (.int .u8)), (.lend (.int .i64)), (.lend (.int .i64)), (.lend (.int .i64)), (.lend (.prod (.int .i64) (.prod (.prod (.int .i64) (.prod .bool (.prod .str (.prod (.int .i64) (.prod .bool (.prod (.slice (.int .u8)) .unit)))))) .unit))), .any]), .any], [], [], [(3, sp69_0)], [(0, jn69_0), (1, jn69_1)], [(0, sp69_0)], [], [], []⟩
noncomputable def cd69_0 : Code := sel (bodyOf Try.f69) [1, 1, 0, 1]
noncomputable def bd69_0 : Code := sel (bodyOf Try.f69) [1, 1, 0, 1, 0, 0]
noncomputable def sp90_0 : List (Nat × Mode) := [(1, .any), (2, .any), (4, .any), (12, .any), (13, .any), (14, .any)]
noncomputable def jn90_0 : List (Nat × Mode) := [(4, .any)]
noncomputable def jn90_1 : List (Nat × Mode) := [(1, .any), (2, .any), (4, .any), (12, .any), (13, .any), (14, .any)]
noncomputable def an90 : Ann := ⟨[(.cells [.any, .any, .any, (.lend (.int .u8)), (.lend (.int .i64)), (.lend (.int .i64)), (.lend (.int .i64)), (.lend (.prod (.int .i64) (.prod (.prod (.int .i64) (.prod .bool (.prod .str (.prod (.int .i64) (.prod .bool (.prod (.slice (.int .u8)) .unit)))))) .unit))), .any]), .any], [.any, (.tie (.own (.prod (.int .i64) (.prod (.prod (.int .i64) (.prod .bool (.prod .str (.prod (.int .i64) (.prod .bool (.prod (.slice (.int .u8)) .unit)))))) .unit)))), .any], [], [(2, sp90_0)], [(0, jn90_0), (1, jn90_1)], [(0, sp90_0)], [(5, [⟨[1], []⟩, ⟨[], []⟩, ⟨[], []⟩, ⟨[], []⟩, ⟨[65552], []⟩, ⟨[], [98321]⟩, ⟨[], []⟩])], [], []⟩
noncomputable def cd90_0 : Code := sel (bodyOf Try.f90) [1, 0, 1]
noncomputable def bd90_0 : Code := sel (bodyOf Try.f90) [1, 0, 1, 0, 0]
noncomputable def an68 : Ann := ⟨[(.cells [.any, .any, .any, (.lend (.int .u8)), (.lend (.int .i64)), (.lend (.int .i64)), (.lend (.int .i64)), (.lend (.prod (.int .i64) (.prod (.prod (.int .i64) (.prod .bool (.prod .str (.prod (.int .i64) (.prod .bool (.prod (.slice (.int .u8)) .unit)))))) .unit))), .any]), .any], [], [], [], [], [], [(2, [⟨[], []⟩, ⟨[], []⟩, ⟨[], []⟩, ⟨[], []⟩, ⟨[32824], []⟩, ⟨[], []⟩, ⟨[], []⟩, ⟨[], []⟩, ⟨[], []⟩])], [], []⟩
noncomputable def an67 : Ann := ⟨[.any], [], [], [], [], [], [], [], []⟩
noncomputable def sp87_0 : List (Nat × Mode) := [(0, .any), (1, .any), (7, .any), (8, .any)]
noncomputable def jn87_0 : List (Nat × Mode) := []
noncomputable def jn87_1 : List (Nat × Mode) := [(0, .any), (1, .any), (7, .any), (8, .any)]
noncomputable def an87 : Ann := ⟨[.any, .any], [], [], [(2, sp87_0)], [(0, jn87_0), (1, jn87_1)], [(0, sp87_0)], [], [], []⟩
noncomputable def cd87_0 : Code := sel (bodyOf Try.f87) [1, 0, 1]
noncomputable def bd87_0 : Code := sel (bodyOf Try.f87) [1, 0, 1, 0, 0]
noncomputable def sp65_1000009 : List (Nat × Mode) := [(0, .any), (1, .any), (5, .any), (6, .any), (7, .any), (29, .any)]
noncomputable def sp65_0 : List (Nat × Mode) := [(0, .any), (1, .any), (5, .any), (6, .any)]
noncomputable def jn65_0 : List (Nat × Mode) := [(0, .any), (5, .any)]
noncomputable def jn65_1 : List (Nat × Mode) := [(0, .any), (1, .any), (5, .any), (6, .any)]
noncomputable def fi65_9 : List (Nat × Mode) := [(0, .any), (1, .any), (5, .any), (6, .any)]
noncomputable def an65 : Ann := ⟨[.any, .any], [(.move .str), .any, .any, .any, .any], [], [(5, sp65_0)], [(0, jn65_0), (1, jn65_1)], [(0, sp65_0)], [], [(9, sp65_1000009)], [(9, fi65_9)]⟩
noncomputable def cd65_1000009 : Code := sel (bodyOf Try.f65) [1, 1, 1, 0, 1, 0, 0, 1, 0, 0, 1, 1]
noncomputable def cd65_0 : Code := sel (bodyOf Try.f65) [1, 1, 1, 0, 1]
noncomputable def bd65_0 : Code := sel (bodyOf Try.f65) [1, 1, 1, 0, 1, 0, 0]
noncomputable def an31 : Ann := ⟨[(.cells [.any, .any, .any, (.lend (.int .u8)), (.lend (.int .i64)), (.lend (.int .i64))])], [(.own .str), .any], [], [], [], [], [], [], []⟩
noncomputable def an58 : Ann := ⟨[(.cells [.any, .any, .any, (.lend (.int .u8)), (.lend (.int .i64)), (.lend (.int .i64))]), .any], [], [], [], [], [], [], [], []⟩
noncomputable def an32 : Ann := ⟨[(.cells [.any, .any, .any, (.lend (.int .u8)), (.lend (.int .i64)), (.lend (.int .i64))]), .any], [(.own (.prod (.int .i64) (.prod (.int .i64) (.prod .bool (.prod .bool .unit))))), .any], [], [], [], [], [], [], []⟩
noncomputable def an16 : Ann := ⟨[(.lend (.int .u8))], [], [], [], [], [], [], [], []⟩
noncomputable def an13 : Ann := ⟨[], [], [], [], [], [], [], [], []⟩
noncomputable def sp33_0 : List (Nat × Mode) := [(9, (.own (.int .u8))), (27, .any), (28, .any), (29, .any)]
noncomputable def jn33_0 : List (Nat × Mode) := [(9, .any)]
noncomputable def jn33_1 : List (Nat × Mode) := [(9, .any), (27, .any), (28, .any), (29, .any)]
noncomputable def an33 : Ann := ⟨[(.cells [.any, .any, .any, (.lend (.int .u8)), (.lend (.int .i64)), (.lend (.int .i64))]), .any], [(.own (.int .u8)), .any], [], [(9, sp33_0)], [(0, jn33_0), (1, jn33_1)], [(0, sp33_0)], [], [], []⟩
noncomputable def cd33_0 : Code := sel (bodyOf Try.f33) [1, 1, 1, 1, 1, 0, 1]
noncomputable def bd33_0 : Code := sel (bodyOf Try.f33) [1, 1, 1, 1, 1, 0, 1, 0, 0]
noncomputable def sp70_0 : List (Nat × Mode) := [(0, .any), (1, .any), (7, .any), (8, .any)]
noncomputable def jn70_0 : List (Nat × Mode) := []
noncomputable def jn70_1 : List (Nat × Mode) := [(0, .any), (1, .any), (7, .any), (8, .any)]
noncomputable def an70 : Ann := ⟨[(.lend .str), .any], [], [], [(2, sp70_0)], [(0, jn70_0), (1, jn70_1)], [(0, sp70_0)], [], [], []⟩
noncomputable def cd70_0 : Code := sel (bodyOf Try.f70) [1, 0, 1]
noncomputable def bd70_0 : Code := sel (bodyOf Try.f70) [1, 0, 1, 0, 0]
noncomputable def an34 : Ann := ⟨[(.lend .str), .any], [], [], [], [], [], [], [], []⟩
noncomputable def an95 : Ann := ⟨[.any], [], [], [], [], [], [], [], []⟩
noncomputable def an71 : Ann := ⟨[.any, .any], [], [], [], [], [], [], [], []⟩
noncomputable def sp35_0 : List (Nat × Mode) := [(0, .any), (3, .any)]
noncomputable def jn35_0 : List (Nat × Mode) := []
noncomputable def jn35_1 : List (Nat × Mode) := [(0, .any), (3, .any)]
noncomputable def an35 : Ann := ⟨[(.lend .str)], [], [], [(2, sp35_0)], [(0, jn35_0), (1, jn35_1)], [(0, sp35_0)], [(4, [⟨[], []⟩, ⟨[], []⟩, ⟨[], []⟩, ⟨[], []⟩, ⟨[], []⟩, ⟨[], []⟩, ⟨[], []⟩, ⟨[], []⟩, ⟨[], []⟩, ⟨[], []⟩])], [], []⟩
noncomputable def cd35_0 : Code := sel (bodyOf Try.f35) [1, 0, 1]
noncomputable def bd35_0 : Code := sel (bodyOf Try.f35) [1, 0, 1, 0, 0]
noncomputable def sp8_0 : List (Nat × Mode) := [(1, .any), (2, .any), (5, .any), (7, .any), (9, .any), (10, .any)]
noncomputable def jn8_0 : List (Nat × Mode) := [(1, .any), (2, .any), (5, .any), (9, .any)]
noncomputable def jn8_1 : List (Nat × Mode) := [(1, .any), (2, .any), (5, .any), (7, .any), (9, .any), (10, .any)]
noncomputable def an8 : Ann := ⟨[(.cells [.any, .any, .any, (.lend (.int .u8)), (.lend (.int .i64)), (.lend (.int .i64))]), .any], [], [], [(7, sp8_0)], [(0, jn8_0), (1, jn8_1)], [(0, sp8_0)], [], [], []⟩
noncomputable def cd8_0 : Code := sel (bodyOf Try.f8) [1, 1, 1, 1, 1, 0, 1]
noncomputable def bd8_0 : Code := sel (bodyOf Try.f8) [1, 1, 1, 1, 1, 0, 1, 0, 0]
end Go.Proofs.Ytecnlienmpdlaaa.PM
