/- Annotations, and the equations of the loops (printed by a program of this work). -/
import Derived.Test.YtahdmfboidjkoaaPT0
import Derived.Test.YtahdmfboidjkoaaPmZ
import Derived.Test.YtahdmfboidjkoaaPmSh
import Derived.Test.YtahdmfboidjkoaaProg
import Derived.KernelRfl
set_option linter.unusedVariables false
set_option linter.unusedSimpArgs false
set_option maxRecDepth 100000
namespace Go.Proofs.Ytahdmfboidjkoaa.PM
open Go
noncomputable def T : TT := [(3, ⟨.int .i64, 1, 8, [.int .i64 0], some (.int .i64)⟩),
  (4, ⟨.bool, 1, 1, [.bool false], some .bool⟩),
  (5, ⟨.int .u8, 1, 1, [.int .u8 0], some (.int .u8)⟩),
  (22, ⟨.slice 5, 1, 24, [.slice none 0 0], some (.slice (.int .u8))⟩),
  (27, ⟨.struct [(3, 0), (4, 1), (3, 2), (3, 3), (22, 4)], 5, 56, [.int .i64 0, .bool false, .int .i64 0, .int .i64 0, .slice none 0 0], some (.prod (.int .i64) (.prod .bool (.prod (.int .i64) (.prod (.int .i64) (.prod (.slice (.int .u8)) .unit)))))⟩),
  (32, ⟨.slice 27, 1, 24, [.slice none 0 0], some (.slice (.prod (.int .i64) (.prod .bool (.prod (.int .i64) (.prod (.int .i64) (.prod (.slice (.int .u8)) .unit))))))⟩),
  (43, ⟨.struct [(3, 0), (3, 1), (3, 2), (3, 3), (22, 4)], 5, 56, [.int .i64 0, .int .i64 0, .int .i64 0, .int .i64 0, .slice none 0 0], some (.prod (.int .i64) (.prod (.int .i64) (.prod (.int .i64) (.prod (.int .i64) (.prod (.slice (.int .u8)) .unit)))))⟩),
  (54, ⟨.slice 43, 1, 24, [.slice none 0 0], some (.slice (.prod (.int .i64) (.prod (.int .i64) (.prod (.int .i64) (.prod (.int .i64) (.prod (.slice (.int .u8)) .unit))))))⟩),
  (59, ⟨.slice 3, 1, 24, [.slice none 0 0], some (.slice (.int .i64))⟩),
  (73, ⟨.slice 4, 1, 24, [.slice none 0 0], some (.slice .bool)⟩),
  (99, ⟨.slice 22, 1, 24, [.slice none 0 0], some (.slice (.slice (.int .u8)))⟩),
  (110, ⟨.struct [(22, 0), (4, 1), (32, 2), (3, 3)], 4, 64, [.slice none 0 0, .bool false, .slice none 0 0, .int .i64 0], some (.prod (.slice (.int .u8)) (.prod .bool (.prod (.slice (.prod (.int .i64) (.prod .bool (.prod (.int .i64) (.prod (.int .i64) (.prod (.slice (.int .u8)) .unit)))))) (.prod (.int .i64) .unit))))⟩),
  (114, ⟨.struct [(4, 0), (22, 1), (32, 2), (3, 3)], 4, 64, [.bool false, .slice none 0 0, .slice none 0 0, .int .i64 0], some (.prod .bool (.prod (.slice (.int .u8)) (.prod (.slice (.prod (.int .i64) (.prod .bool (.prod (.int .i64) (.prod (.int .i64) (.prod (.slice (.int .u8)) .unit)))))) (.prod (.int .i64) .unit))))⟩)]
noncomputable def sel : Code → List Nat → Code
  | c, [] => c
  | .seq a _, 0 :: l => sel a l
  | .seq _ b, _ :: l => sel b l
  | .cond _ a _, 0 :: l => sel a l
  | .cond _ _ b, _ :: l => sel b l
  | .block _ b, _ :: l => sel b l
  | .loop b, _ :: l => sel b l
  | c, _ => c
noncomputable def bodyOf (f : Func) : Code := match f.body with | some c => c | none => .skip
noncomputable def opsOf : Code → Array Oper
  | .region _ o _ => o
  | _ => #[]
noncomputable def operAt (c : Code) (i : Nat) : Oper := (opsOf c).getD i ⟨none, .alloc 0, 0, "", #[], none⟩

noncomputable def an66 : Ann := ⟨[.any, .any, .any], [], [], [], [], [], [], [], []⟩
noncomputable def an96 : Ann := ⟨[.any, .any, .any], [], [], [], [], [], [], [], []⟩
noncomputable def an75 : Ann := ⟨[.any], [], [], [], [], [], [], [], []⟩
noncomputable def jn35_0 : List (Nat × Mode) := []
noncomputable def an35 : Ann := ⟨[(.cells [.any, .any, .any, .any, (.lend (.int .u8))]), .any], [], [], [], [(0, jn35_0)], [], [], [], []⟩
noncomputable def an65 : Ann := ⟨[(.lend (.int .u8))], [], [], [], [], [], [(1, [⟨[], []⟩, ⟨[], []⟩, ⟨[], []⟩, ⟨[], []⟩, ⟨[], []⟩, ⟨[], []⟩, ⟨[], []⟩, ⟨[], []⟩, ⟨[], []⟩, ⟨[], []⟩, ⟨[], []⟩])], [], []⟩
noncomputable def sp19_1000010 : List (Nat × Mode) := [(3, .any), (6, .any), (7, .any), (8, .any), (17, .any), (23, .any)]
noncomputable def sp19_2 : List (Nat × Mode) := [(3, .any), (6, .any), (7, .any), (8, .any), (17, .any)]
noncomputable def sp19_0 : List (Nat × Mode) := [(3, .any), (6, .any), (7, .any), (8, .any)]
noncomputable def jn19_0 : List (Nat × Mode) := [(3, .any)]
noncomputable def jn19_1 : List (Nat × Mode) := [(3, .any), (6, .any), (7, .any), (8, .any)]
noncomputable def jn19_2 : List (Nat × Mode) := [(3, .any), (6, .any), (7, .any), (8, .any)]
noncomputable def jn19_3 : List (Nat × Mode) := [(3, .any), (6, .any), (7, .any), (8, .any), (17, .any)]
noncomputable def fi19_10 : List (Nat × Mode) := [(3, .any), (6, .any), (7, .any), (8, .any), (17, .any)]
noncomputable def an19 : Ann := ⟨[(.lend (.int .u8))], [], [], [(7, sp19_2), (3, sp19_0)], [(0, jn19_0), (1, jn19_1), (2, jn19_2), (3, jn19_3)], [(2, sp19_2), (0, sp19_0)], [], [(10, sp19_1000010)], [(10, fi19_10)]⟩
noncomputable def cd19_1000010 : Code := sel (bodyOf Try.f19) [1, 1, 0, 1, 0, 0, 1, 1, 0, 0, 1, 1, 1, 0, 0, 1, 1, 0, 0, 1, 1]
noncomputable def cd19_2 : Code := sel (bodyOf Try.f19) [1, 1, 0, 1, 0, 0, 1, 1, 0, 0, 1, 1, 1]
noncomputable def bd19_2 : Code := sel (bodyOf Try.f19) [1, 1, 0, 1, 0, 0, 1, 1, 0, 0, 1, 1, 1, 0, 0]
noncomputable def cd19_0 : Code := sel (bodyOf Try.f19) [1, 1, 0, 1]
noncomputable def bd19_0 : Code := sel (bodyOf Try.f19) [1, 1, 0, 1, 0, 0]
noncomputable def an67 : Ann := ⟨[(.lend (.int .u8))], [], [], [], [], [], [(2, [⟨[], []⟩, ⟨[], []⟩, ⟨[], []⟩, ⟨[], []⟩, ⟨[], []⟩, ⟨[], []⟩, ⟨[], []⟩, ⟨[], []⟩, ⟨[], []⟩, ⟨[], []⟩])], [], []⟩
noncomputable def an22 : Ann := ⟨[(.lend (.int .u8))], [(.cells [.any, .any, .any, .any, (.own (.int .u8))]), .any, .any], [], [], [], [], [(3, [⟨[], []⟩, ⟨[], []⟩, ⟨[], []⟩, ⟨[], []⟩, ⟨[], []⟩, ⟨[], []⟩, ⟨[], []⟩, ⟨[], []⟩, ⟨[], []⟩, ⟨[], []⟩, ⟨[], []⟩, ⟨[], []⟩])], [], []⟩
noncomputable def sp85_1000003 : List (Nat × Mode) := [(0, .any), (3, .any), (4, .any), (13, .any)]
noncomputable def sp85_1000012 : List (Nat × Mode) := [(0, .any), (5, .any), (6, .any), (63, .any)]
noncomputable def sp85_0 : List (Nat × Mode) := [(0, (.drop 3 (.cells [(.trim (.int .u8)), .any, (.move (.prod (.int .i64) (.prod .bool (.prod (.int .i64) (.prod (.int .i64) (.prod (.slice (.int .u8)) .unit)))))), .any])))]
noncomputable def jn85_0 : List (Nat × Mode) := []
noncomputable def jn85_1 : List (Nat × Mode) := [(0, .any)]
noncomputable def jn85_2 : List (Nat × Mode) := [(0, .any)]
noncomputable def fi85_3 : List (Nat × Mode) := [(0, (.cells [(.move (.int .u8)), .any, .any, .any])), (4, (.drop 2 .any))]
noncomputable def fi85_12 : List (Nat × Mode) := [(0, (.cells [.any, .any, (.move (.prod (.int .i64) (.prod .bool (.prod (.int .i64) (.prod (.int .i64) (.prod (.slice (.int .u8)) .unit)))))), .any])), (6, (.drop 3 .any))]
noncomputable def an85 : Ann := ⟨[(.cells [(.own (.int .u8)), .any, (.own (.prod (.int .i64) (.prod .bool (.prod (.int .i64) (.prod (.int .i64) (.prod (.slice (.int .u8)) .unit)))))), .any]), (.cells [.any, .any, .any, .any, (.lend (.int .u8))])], [(.cells [(.move (.int .u8)), .any, (.move (.prod (.int .i64) (.prod .bool (.prod (.int .i64) (.prod (.int .i64) (.prod (.slice (.int .u8)) .unit)))))), .any]), .any, (.drop 3 (.drop 2 .any))], [], [(6, sp85_0)], [(0, jn85_0), (1, jn85_1), (2, jn85_2)], [(0, sp85_0)], [(4, [⟨[], []⟩, ⟨[], []⟩, ⟨[], []⟩, ⟨[], []⟩, ⟨[2, 4], []⟩, ⟨[], []⟩, ⟨[], []⟩, ⟨[], []⟩, ⟨[2, 3], [1]⟩, ⟨[], []⟩, ⟨[], []⟩, ⟨[3], [1]⟩, ⟨[], []⟩]), (12, [⟨[], []⟩, ⟨[], []⟩, ⟨[], []⟩, ⟨[], []⟩, ⟨[1, 3, 5], []⟩, ⟨[3, 4, 5, 6, 7], []⟩, ⟨[4, 5, 6, 7], []⟩, ⟨[4, 6, 7, 213040], [3, 5]⟩, ⟨[], []⟩, ⟨[], []⟩, ⟨[2, 4, 213048], [1]⟩])], [(3, sp85_1000003), (12, sp85_1000012)], [(3, fi85_3), (12, fi85_12)]⟩
noncomputable def cd85_1000003 : Code := sel (bodyOf Try.f85) [1, 1, 0, 1]
noncomputable def cd85_1000012 : Code := sel (bodyOf Try.f85) [1, 1, 1, 1, 0, 0, 0, 1, 1, 0, 1, 0, 0, 1]
noncomputable def cd85_0 : Code := sel (bodyOf Try.f85) [1, 1, 1, 1]
noncomputable def bd85_0 : Code := sel (bodyOf Try.f85) [1, 1, 1, 1, 0, 0]
noncomputable def sp50_1 : List (Nat × Mode) := [(0, .any), (1, .any), (22, .any), (23, .any), (24, .any)]
noncomputable def sp50_1000022 : List (Nat × Mode) := [(0, .any), (10, .any), (12, .any), (53, .any), (54, .any), (55, .any), (77, .any)]
noncomputable def sp50_1000019 : List (Nat × Mode) := [(0, .any), (10, .any), (11, .any), (12, .any), (53, .any), (54, .any), (55, .any), (61, .any)]
noncomputable def sp50_4 : List (Nat × Mode) := [(0, .any), (10, .any), (53, .any), (54, .any), (55, .any)]
noncomputable def sp50_3 : List (Nat × Mode) := [(0, .any), (10, (.cells [(.own (.int .u8)), .any, (.own (.prod (.int .i64) (.prod .bool (.prod (.int .i64) (.prod (.int .i64) (.prod (.slice (.int .u8)) .unit)))))), .any])), (53, .any), (54, .any), (55, .any)]
noncomputable def jn50_0 : List (Nat × Mode) := [(0, .any), (1, .any)]
noncomputable def jn50_1 : List (Nat × Mode) := [(0, .any)]
noncomputable def jn50_2 : List (Nat × Mode) := [(0, .any), (1, .any), (22, .any), (23, .any), (24, .any)]
noncomputable def jn50_3 : List (Nat × Mode) := [(10, .any)]
noncomputable def jn50_4 : List (Nat × Mode) := [(0, .any), (10, (.cells [(.own (.int .u8)), .any, (.own (.prod (.int .i64) (.prod .bool (.prod (.int .i64) (.prod (.int .i64) (.prod (.slice (.int .u8)) .unit)))))), .any])), (53, .any), (54, .any), (55, .any)]
noncomputable def fi50_22 : List (Nat × Mode) := [(0, .any), (10, .any), (12, .any), (53, .any), (54, .any), (55, .any)]
noncomputable def fi50_19 : List (Nat × Mode) := [(0, .any), (10, .any), (12, .any), (53, .any), (54, .any), (55, .any)]
noncomputable def an50 : Ann := ⟨[(.lend (.prod (.int .i64) (.prod (.int .i64) (.prod (.int .i64) (.prod (.int .i64) (.prod (.slice (.int .u8)) .unit)))))), .any], [(.own (.prod (.int .i64) (.prod .bool (.prod (.int .i64) (.prod (.int .i64) (.prod (.slice (.int .u8)) .unit)))))), .any, .any], [], [(6, sp50_1), (16, sp50_3)], [(0, jn50_0), (1, jn50_1), (2, jn50_2), (3, jn50_3), (4, jn50_4)], [(1, sp50_1), (4, sp50_4), (3, sp50_3)], [(11, [⟨[], []⟩, ⟨[131088], []⟩, ⟨[], []⟩, ⟨[], []⟩, ⟨[], []⟩, ⟨[], []⟩, ⟨[], []⟩, ⟨[], []⟩, ⟨[], []⟩, ⟨[131088], []⟩, ⟨[], []⟩, ⟨[], []⟩, ⟨[], []⟩, ⟨[], []⟩, ⟨[], []⟩, ⟨[], []⟩]), (26, [⟨[], []⟩, ⟨[], []⟩, ⟨[], []⟩, ⟨[1, 3], []⟩, ⟨[], []⟩, ⟨[], []⟩, ⟨[], []⟩, ⟨[1], []⟩, ⟨[3], []⟩, ⟨[], []⟩, ⟨[], []⟩])], [(22, sp50_1000022), (19, sp50_1000019)], [(22, fi50_22), (19, fi50_19)]⟩
noncomputable def cd50_1 : Code := sel (bodyOf Try.f50) [1, 1, 0, 1]
noncomputable def bd50_1 : Code := sel (bodyOf Try.f50) [1, 1, 0, 1, 0, 0]
noncomputable def cd50_1000022 : Code := sel (bodyOf Try.f50) [1, 1, 1, 1, 0, 1, 0, 0, 1, 1, 0, 0, 1, 0, 1, 0, 1, 1, 1]
noncomputable def cd50_1000019 : Code := sel (bodyOf Try.f50) [1, 1, 1, 1, 0, 1, 0, 0, 1, 1, 0, 0, 1, 0, 1]
noncomputable def cd50_4 : Code := sel (bodyOf Try.f50) [1, 1, 1, 1, 0, 1, 0, 0, 1, 1, 0]
noncomputable def cd50_3 : Code := sel (bodyOf Try.f50) [1, 1, 1, 1, 0, 1]
noncomputable def bd50_3 : Code := sel (bodyOf Try.f50) [1, 1, 1, 1, 0, 1, 0, 0]
noncomputable def an69 : Ann := ⟨[.any, .any, .any], [], [], [], [], [], [], [], []⟩
noncomputable def an76 : Ann := ⟨[.any], [], [], [], [], [], [], [], []⟩
noncomputable def an77 : Ann := ⟨[.any, .any, .any], [], [], [], [], [], [], [], []⟩
noncomputable def an36 : Ann := ⟨[(.cells [.any, .any, .any, .any, (.lend (.int .u8))]), .any], [], [], [], [], [], [], [], []⟩
noncomputable def sp78_1000002 : List (Nat × Mode) := [(0, .any), (1, .any), (6, .any)]
noncomputable def sp78_1000005 : List (Nat × Mode) := [(0, .any), (1, .any), (16, .any)]
noncomputable def fi78_2 : List (Nat × Mode) := [(0, .any), (1, .any)]
noncomputable def fi78_5 : List (Nat × Mode) := [(0, (.trim (.int .u8)))]
noncomputable def an78 : Ann := ⟨[.any, .any], [], [], [], [], [], [], [(2, sp78_1000002), (5, sp78_1000005)], [(2, fi78_2), (5, fi78_5)]⟩
noncomputable def cd78_1000002 : Code := sel (bodyOf Try.f78) [1, 0, 1]
noncomputable def cd78_1000005 : Code := sel (bodyOf Try.f78) [1, 1, 0, 1, 1]
noncomputable def sp40_1000007 : List (Nat × Mode) := [(0, .any), (3, .any), (9, .any), (10, .any), (11, .any), (20, .any)]
noncomputable def sp40_0 : List (Nat × Mode) := [(0, .any), (3, .any), (9, .any), (10, .any), (11, .any)]
noncomputable def sp40_2 : List (Nat × Mode) := [(6, .any), (25, .any), (26, .any), (27, .any)]
noncomputable def jn40_0 : List (Nat × Mode) := [(0, .any), (3, .any)]
noncomputable def jn40_1 : List (Nat × Mode) := [(0, .any), (3, .any), (9, .any), (10, .any), (11, .any)]
noncomputable def jn40_2 : List (Nat × Mode) := [(6, .any)]
noncomputable def jn40_3 : List (Nat × Mode) := [(6, .any), (25, .any), (26, .any), (27, .any)]
noncomputable def fi40_7 : List (Nat × Mode) := [(0, .any), (3, .any), (9, .any), (10, .any), (11, .any)]
noncomputable def an40 : Ann := ⟨[(.lend (.slice (.int .u8)))], [], [], [(3, sp40_0), (11, sp40_2)], [(0, jn40_0), (1, jn40_1), (2, jn40_2), (3, jn40_3)], [(0, sp40_0), (2, sp40_2)], [], [(7, sp40_1000007)], [(7, fi40_7)]⟩
noncomputable def cd40_1000007 : Code := sel (bodyOf Try.f40) [1, 1, 0, 1, 0, 0, 1, 1, 0, 0, 1, 1, 1]
noncomputable def cd40_0 : Code := sel (bodyOf Try.f40) [1, 1, 0, 1]
noncomputable def bd40_0 : Code := sel (bodyOf Try.f40) [1, 1, 0, 1, 0, 0]
noncomputable def cd40_2 : Code := sel (bodyOf Try.f40) [1, 1, 1, 1, 0, 1]
noncomputable def bd40_2 : Code := sel (bodyOf Try.f40) [1, 1, 1, 1, 0, 1, 0, 0]
noncomputable def an68 : Ann := ⟨[(.lend (.int .u8))], [], [], [], [], [], [(1, [⟨[], []⟩, ⟨[], []⟩, ⟨[], []⟩, ⟨[], []⟩, ⟨[], []⟩, ⟨[], []⟩, ⟨[], []⟩, ⟨[], []⟩, ⟨[], []⟩, ⟨[], []⟩, ⟨[], []⟩])], [], []⟩
noncomputable def sp20_1000011 : List (Nat × Mode) := [(3, .any), (7, .any), (8, .any), (9, .any), (18, .any), (26, .any)]
noncomputable def sp20_2 : List (Nat × Mode) := [(3, .any), (7, .any), (8, .any), (9, .any), (18, .any)]
noncomputable def sp20_0 : List (Nat × Mode) := [(3, .any), (7, .any), (8, .any), (9, .any)]
noncomputable def jn20_0 : List (Nat × Mode) := [(3, .any)]
noncomputable def jn20_1 : List (Nat × Mode) := [(3, .any), (7, .any), (8, .any), (9, .any)]
noncomputable def jn20_2 : List (Nat × Mode) := [(3, .any), (7, .any), (8, .any), (9, .any)]
noncomputable def jn20_3 : List (Nat × Mode) := [(3, .any), (7, .any), (8, .any), (9, .any), (18, .any)]
noncomputable def fi20_11 : List (Nat × Mode) := [(3, .any), (7, .any), (8, .any), (9, .any), (18, .any)]
noncomputable def an20 : Ann := ⟨[(.lend (.int .u8))], [], [], [(7, sp20_2), (3, sp20_0)], [(0, jn20_0), (1, jn20_1), (2, jn20_2), (3, jn20_3)], [(2, sp20_2), (0, sp20_0)], [], [(11, sp20_1000011)], [(11, fi20_11)]⟩
noncomputable def cd20_1000011 : Code := sel (bodyOf Try.f20) [1, 1, 0, 1, 0, 0, 1, 1, 0, 0, 1, 1, 1, 0, 0, 1, 1, 0, 0, 1, 1, 1]
noncomputable def cd20_2 : Code := sel (bodyOf Try.f20) [1, 1, 0, 1, 0, 0, 1, 1, 0, 0, 1, 1, 1]
noncomputable def bd20_2 : Code := sel (bodyOf Try.f20) [1, 1, 0, 1, 0, 0, 1, 1, 0, 0, 1, 1, 1, 0, 0]
noncomputable def cd20_0 : Code := sel (bodyOf Try.f20) [1, 1, 0, 1]
noncomputable def bd20_0 : Code := sel (bodyOf Try.f20) [1, 1, 0, 1, 0, 0]
noncomputable def an23 : Ann := ⟨[(.lend (.int .u8))], [(.cells [.any, .any, .any, .any, (.own (.int .u8))]), .any, .any], [], [], [], [], [(3, [⟨[], []⟩, ⟨[], []⟩, ⟨[], []⟩, ⟨[], []⟩, ⟨[], []⟩, ⟨[], []⟩, ⟨[], []⟩, ⟨[], []⟩]), (8, [⟨[], []⟩, ⟨[], []⟩, ⟨[], []⟩, ⟨[], []⟩, ⟨[], []⟩, ⟨[], []⟩, ⟨[], []⟩, ⟨[], []⟩, ⟨[], []⟩, ⟨[], []⟩, ⟨[], []⟩])], [], []⟩
noncomputable def sp86_1000007 : List (Nat × Mode) := [(0, .any), (2, .any), (3, .any), (39, .any)]
noncomputable def sp86_0 : List (Nat × Mode) := [(0, (.drop 3 (.cells [.any, (.move (.int .u8)), (.move (.prod (.int .i64) (.prod .bool (.prod (.int .i64) (.prod (.int .i64) (.prod (.slice (.int .u8)) .unit)))))), .any])))]
noncomputable def jn86_0 : List (Nat × Mode) := []
noncomputable def jn86_1 : List (Nat × Mode) := [(0, .any)]
noncomputable def fi86_7 : List (Nat × Mode) := [(0, (.cells [.any, .any, (.move (.prod (.int .i64) (.prod .bool (.prod (.int .i64) (.prod (.int .i64) (.prod (.slice (.int .u8)) .unit)))))), .any])), (3, (.drop 3 .any))]
noncomputable def an86 : Ann := ⟨[(.cells [.any, .any, (.own (.prod (.int .i64) (.prod .bool (.prod (.int .i64) (.prod (.int .i64) (.prod (.slice (.int .u8)) .unit)))))), .any])], [(.cells [.any, (.move (.int .u8)), .any, .any]), (.drop 2 .any)], [], [(0, sp86_0)], [(0, jn86_0), (1, jn86_1)], [(0, sp86_0)], [(7, [⟨[], []⟩, ⟨[], []⟩, ⟨[], []⟩, ⟨[], []⟩, ⟨[1, 3, 4, 5], []⟩, ⟨[3, 4, 5, 6, 7], []⟩, ⟨[4, 6, 7], []⟩, ⟨[6, 7, 131120], [3, 4, 5]⟩, ⟨[], []⟩, ⟨[], []⟩, ⟨[2, 3, 4, 131128], [1]⟩])], [(7, sp86_1000007)], [(7, fi86_7)]⟩
noncomputable def cd86_1000007 : Code := sel (bodyOf Try.f86) [0, 0, 1, 0, 1, 1, 1, 0, 1]
noncomputable def cd86_0 : Code := sel (bodyOf Try.f86) []
noncomputable def bd86_0 : Code := sel (bodyOf Try.f86) [0, 0]
noncomputable def sp51_0 : List (Nat × Mode) := [(0, .any), (1, .any), (23, .any), (24, .any), (25, .any)]
noncomputable def sp51_1000021 : List (Nat × Mode) := [(0, .any), (11, .any), (13, .any), (54, .any), (55, .any), (56, .any), (88, .any)]
noncomputable def sp51_1000025 : List (Nat × Mode) := [(0, .any), (11, .any), (13, .any), (14, .any), (54, .any), (55, .any), (56, .any), (105, .any)]
noncomputable def sp51_3 : List (Nat × Mode) := [(0, .any), (11, .any), (54, .any), (55, .any), (56, .any)]
noncomputable def sp51_2 : List (Nat × Mode) := [(0, .any), (11, (.cells [.any, (.own (.int .u8)), (.own (.prod (.int .i64) (.prod .bool (.prod (.int .i64) (.prod (.int .i64) (.prod (.slice (.int .u8)) .unit)))))), .any])), (54, .any), (55, .any), (56, .any)]
noncomputable def jn51_0 : List (Nat × Mode) := [(0, .any)]
noncomputable def jn51_1 : List (Nat × Mode) := [(0, .any), (1, .any), (23, .any), (24, .any), (25, .any)]
noncomputable def jn51_2 : List (Nat × Mode) := [(11, .any)]
noncomputable def jn51_3 : List (Nat × Mode) := [(0, .any), (11, (.cells [.any, (.own (.int .u8)), (.own (.prod (.int .i64) (.prod .bool (.prod (.int .i64) (.prod (.int .i64) (.prod (.slice (.int .u8)) .unit)))))), .any])), (54, .any), (55, .any), (56, .any)]
noncomputable def fi51_21 : List (Nat × Mode) := [(0, .any), (11, .any), (13, .any), (54, .any), (55, .any), (56, .any)]
noncomputable def fi51_25 : List (Nat × Mode) := [(0, .any), (11, (.cells [.any, (.own (.int .u8)), .any, .any])), (14, .any), (54, .any), (55, .any), (56, .any)]
noncomputable def an51 : Ann := ⟨[(.lend (.prod (.int .i64) (.prod (.int .i64) (.prod (.int .i64) (.prod (.int .i64) (.prod (.slice (.int .u8)) .unit)))))), .any], [(.own (.prod (.int .i64) (.prod .bool (.prod (.int .i64) (.prod (.int .i64) (.prod (.slice (.int .u8)) .unit)))))), .any, .any], [], [(7, sp51_0), (17, sp51_2)], [(0, jn51_0), (1, jn51_1), (2, jn51_2), (3, jn51_3)], [(0, sp51_0), (3, sp51_3), (2, sp51_2)], [(12, [⟨[], []⟩, ⟨[147472], []⟩, ⟨[], []⟩, ⟨[], []⟩, ⟨[], []⟩, ⟨[], []⟩, ⟨[], []⟩, ⟨[], []⟩, ⟨[], []⟩, ⟨[147472], []⟩, ⟨[], []⟩, ⟨[], []⟩, ⟨[], []⟩, ⟨[], []⟩, ⟨[], []⟩, ⟨[], []⟩]), (19, [⟨[], []⟩, ⟨[], []⟩, ⟨[], []⟩, ⟨[], []⟩, ⟨[311320], []⟩, ⟨[], []⟩, ⟨[], []⟩, ⟨[], []⟩, ⟨[], []⟩, ⟨[], []⟩, ⟨[], []⟩, ⟨[], []⟩, ⟨[], []⟩]), (20, [⟨[], []⟩, ⟨[], []⟩, ⟨[], []⟩, ⟨[], []⟩, ⟨[311320], []⟩, ⟨[], []⟩, ⟨[], []⟩, ⟨[], []⟩, ⟨[], []⟩, ⟨[], []⟩, ⟨[], []⟩, ⟨[], []⟩, ⟨[], []⟩, ⟨[], []⟩, ⟨[], []⟩]), (27, [⟨[], []⟩, ⟨[], []⟩, ⟨[2, 4], []⟩, ⟨[], []⟩, ⟨[2, 4], []⟩, ⟨[], []⟩, ⟨[], []⟩, ⟨[], []⟩, ⟨[3], [1]⟩, ⟨[], []⟩]), (31, [⟨[], []⟩, ⟨[], []⟩, ⟨[], []⟩, ⟨[1, 3], []⟩, ⟨[], []⟩, ⟨[], []⟩, ⟨[], []⟩, ⟨[1], []⟩, ⟨[3], []⟩, ⟨[], []⟩, ⟨[], []⟩])], [(21, sp51_1000021), (25, sp51_1000025)], [(21, fi51_21), (25, fi51_25)]⟩
noncomputable def cd51_0 : Code := sel (bodyOf Try.f51) [1, 1, 1, 0, 1]
noncomputable def bd51_0 : Code := sel (bodyOf Try.f51) [1, 1, 1, 0, 1, 0, 0]
noncomputable def cd51_1000021 : Code := sel (bodyOf Try.f51) [1, 1, 1, 1, 1, 0, 1, 0, 0, 1, 1, 0, 0, 1, 1, 0, 1]
noncomputable def cd51_1000025 : Code := sel (bodyOf Try.f51) [1, 1, 1, 1, 1, 0, 1, 0, 0, 1, 1, 0, 0, 1, 1, 1, 1, 0, 1]
noncomputable def cd51_3 : Code := sel (bodyOf Try.f51) [1, 1, 1, 1, 1, 0, 1, 0, 0, 1, 1, 0]
noncomputable def cd51_2 : Code := sel (bodyOf Try.f51) [1, 1, 1, 1, 1, 0, 1]
noncomputable def bd51_2 : Code := sel (bodyOf Try.f51) [1, 1, 1, 1, 1, 0, 1, 0, 0]
noncomputable def sp32_0 : List (Nat × Mode) := [(0, .any), (1, .any), (12, .any), (13, .any)]
noncomputable def jn32_0 : List (Nat × Mode) := []
noncomputable def jn32_1 : List (Nat × Mode) := [(0, .any), (1, .any), (12, .any), (13, .any)]
noncomputable def an32 : Ann := ⟨[(.lend (.int .u8)), (.lend (.int .u8))], [], [], [(4, sp32_0)], [(0, jn32_0), (1, jn32_1)], [(0, sp32_0)], [(6, [⟨[], []⟩, ⟨[], []⟩, ⟨[], []⟩, ⟨[], []⟩, ⟨[], []⟩, ⟨[], []⟩, ⟨[], []⟩, ⟨[], []⟩, ⟨[], []⟩])], [], []⟩
noncomputable def cd32_0 : Code := sel (bodyOf Try.f32) [1, 1, 0, 1]
noncomputable def bd32_0 : Code := sel (bodyOf Try.f32) [1, 1, 0, 1, 0, 0]
noncomputable def an24 : Ann := ⟨[(.cells [.any, .any, .any, .any, (.lend (.int .u8))]), (.cells [.any, .any, .any, .any, (.lend (.int .u8))])], [], [], [], [], [], [], [], []⟩
noncomputable def sp27_0 : List (Nat × Mode) := [(0, .any), (1, .any), (12, .any), (13, .any)]
noncomputable def jn27_0 : List (Nat × Mode) := []
noncomputable def jn27_1 : List (Nat × Mode) := [(0, .any), (1, .any), (12, .any), (13, .any)]
noncomputable def an27 : Ann := ⟨[(.lend (.prod (.int .i64) (.prod .bool (.prod (.int .i64) (.prod (.int .i64) (.prod (.slice (.int .u8)) .unit)))))), (.lend (.prod (.int .i64) (.prod .bool (.prod (.int .i64) (.prod (.int .i64) (.prod (.slice (.int .u8)) .unit))))))], [], [], [(4, sp27_0)], [(0, jn27_0), (1, jn27_1)], [(0, sp27_0)], [(6, [⟨[], []⟩, ⟨[], []⟩, ⟨[], []⟩, ⟨[], []⟩, ⟨[], []⟩, ⟨[], []⟩, ⟨[], []⟩, ⟨[], []⟩, ⟨[], []⟩, ⟨[], []⟩])], [], []⟩
noncomputable def cd27_0 : Code := sel (bodyOf Try.f27) [1, 1, 0, 1]
noncomputable def bd27_0 : Code := sel (bodyOf Try.f27) [1, 1, 0, 1, 0, 0]
noncomputable def an21 : Ann := ⟨[], [], [], [], [], [], [], [], []⟩
noncomputable def an12 : Ann := ⟨[(.lend (.prod (.int .i64) (.prod (.int .i64) (.prod (.int .i64) (.prod (.int .i64) (.prod (.slice (.int .u8)) .unit)))))), .any], [], [], [], [], [], [], [], []⟩
noncomputable def jn30_0 : List (Nat × Mode) := []
noncomputable def an30 : Ann := ⟨[(.cells [.any, .any, .any, .any, (.lend (.int .u8))])], [], [], [], [(0, jn30_0)], [], [], [], []⟩
noncomputable def sp83_0 : List (Nat × Mode) := [(9, .any), (10, .any), (11, .any)]
noncomputable def jn83_0 : List (Nat × Mode) := []
noncomputable def jn83_1 : List (Nat × Mode) := [(9, .any), (10, .any), (11, .any)]
noncomputable def an83 : Ann := ⟨[(.lend (.prod (.int .i64) (.prod .bool (.prod (.int .i64) (.prod (.int .i64) (.prod (.slice (.int .u8)) .unit))))))], [], [], [(4, sp83_0)], [(0, jn83_0), (1, jn83_1)], [(0, sp83_0)], [], [], []⟩
noncomputable def cd83_0 : Code := sel (bodyOf Try.f83) [1, 1, 0, 1]
noncomputable def bd83_0 : Code := sel (bodyOf Try.f83) [1, 1, 0, 1, 0, 0]
noncomputable def an72 : Ann := ⟨[.any], [], [], [], [], [], [], [], []⟩
noncomputable def an73 : Ann := ⟨[.any], [], [], [], [], [], [], [], []⟩
noncomputable def sp70_1000003 : List (Nat × Mode) := [(1, .any), (3, .any), (8, .any)]
noncomputable def fi70_3 : List (Nat × Mode) := [(1, .any), (3, .any)]
noncomputable def an70 : Ann := ⟨[(.cells [.any, .any, .any, .any, (.lend (.int .u8))])], [], [], [], [], [], [(4, [⟨[], []⟩, ⟨[], []⟩, ⟨[], []⟩, ⟨[1], []⟩, ⟨[], []⟩, ⟨[], []⟩, ⟨[1], []⟩, ⟨[], []⟩, ⟨[], []⟩, ⟨[81985], [81929]⟩, ⟨[81992], []⟩])], [(3, sp70_1000003)], [(3, fi70_3)]⟩
noncomputable def cd70_1000003 : Code := sel (bodyOf Try.f70) [1, 1, 0, 1]
noncomputable def sp48_0 : List (Nat × Mode) := [(0, .any), (1, .any), (2, .any), (3, .any), (15, (.own (.int .u8))), (16, (.own (.int .i64))), (47, .any), (48, .any), (49, .any)]
noncomputable def sp48_1000022 : List (Nat × Mode) := [(0, .any), (1, .any), (2, .any), (15, .any), (16, .any), (19, .any), (20, .any), (76, .any)]
noncomputable def sp48_1000021 : List (Nat × Mode) := [(0, .any), (1, .any), (2, .any), (15, .any), (16, .any), (19, .any), (20, .any), (74, .any)]
noncomputable def sp48_1000035 : List (Nat × Mode) := [(0, .any), (1, .any), (2, .any), (15, .any), (16, .any), (19, .any), (22, .any), (23, .any), (24, .any), (99, .any), (100, .any), (135, .any)]
noncomputable def sp48_4 : List (Nat × Mode) := [(0, .any), (1, .any), (2, .any), (15, .any), (16, (.trim (.int .i64))), (19, .any), (22, .any), (23, .any), (24, .any), (99, .any), (100, .any)]
noncomputable def sp48_2 : List (Nat × Mode) := [(0, .any), (1, .any), (2, .any), (15, .any), (16, .any), (19, .any), (22, (.own (.prod (.int .i64) (.prod (.int .i64) (.prod (.int .i64) (.prod (.int .i64) (.prod (.slice (.int .u8)) .unit))))))), (99, .any), (100, .any)]
noncomputable def jn48_0 : List (Nat × Mode) := [(0, .any), (1, .any), (2, .any), (3, .any), (15, .any), (16, .any)]
noncomputable def jn48_1 : List (Nat × Mode) := [(0, .any), (1, .any), (2, .any), (3, .any), (15, .any), (16, .any), (47, .any), (48, .any), (49, .any)]
noncomputable def jn48_2 : List (Nat × Mode) := [(22, .any)]
noncomputable def jn48_3 : List (Nat × Mode) := [(0, .any), (1, .any), (2, .any), (15, .any), (16, .any), (19, .any), (22, .any), (99, .any), (100, .any)]
noncomputable def jn48_4 : List (Nat × Mode) := [(0, .any), (1, .any), (2, .any), (15, .any), (16, .any), (19, .any), (22, .any), (24, .any), (99, .any), (100, .any)]
noncomputable def jn48_5 : List (Nat × Mode) := [(0, .any), (1, .any), (2, .any), (15, .any), (16, .any), (19, .any), (22, .any), (23, .any), (24, .any), (99, .any), (100, .any)]
noncomputable def fi48_22 : List (Nat × Mode) := [(0, .any), (1, .any), (2, .any), (15, .any), (16, .any), (19, .any), (20, .any)]
noncomputable def fi48_21 : List (Nat × Mode) := [(0, .any), (1, .any), (2, .any), (15, .any), (16, .any), (19, .any)]
noncomputable def fi48_35 : List (Nat × Mode) := [(0, .any), (1, .any), (2, .any), (15, .any), (16, .any), (19, .any), (22, .any), (23, .any), (24, .any), (99, .any), (100, .any)]
noncomputable def an48 : Ann := ⟨[.any, .any, .any, .any, (.lend (.prod (.int .i64) (.prod .bool (.prod (.int .i64) (.prod (.int .i64) (.prod (.slice (.int .u8)) .unit))))))], [(.own (.prod (.int .i64) (.prod (.int .i64) (.prod (.int .i64) (.prod (.int .i64) (.prod (.slice (.int .u8)) .unit)))))), .any], [], [(13, sp48_0), (33, sp48_4), (30, sp48_2)], [(0, jn48_0), (1, jn48_1), (2, jn48_2), (3, jn48_3), (4, jn48_4), (5, jn48_5)], [(0, sp48_0), (4, sp48_4), (2, sp48_2)], [], [(22, sp48_1000022), (21, sp48_1000021), (35, sp48_1000035)], [(22, fi48_22), (21, fi48_21), (35, fi48_35)]⟩
noncomputable def cd48_0 : Code := sel (bodyOf Try.f48) [1, 1, 1, 1, 1, 1, 0, 1]
noncomputable def bd48_0 : Code := sel (bodyOf Try.f48) [1, 1, 1, 1, 1, 1, 0, 1, 0, 0]
noncomputable def cd48_1000022 : Code := sel (bodyOf Try.f48) [1, 1, 1, 1, 1, 1, 1, 1, 0, 1, 1, 0, 0, 1]
noncomputable def cd48_1000021 : Code := sel (bodyOf Try.f48) [1, 1, 1, 1, 1, 1, 1, 1, 0, 1, 1]
noncomputable def cd48_1000035 : Code := sel (bodyOf Try.f48) [1, 1, 1, 1, 1, 1, 1, 1, 1, 1, 1, 1, 0, 1, 0, 0, 1, 1, 0, 0, 1, 1, 0, 0, 0, 1, 0, 0, 1]
noncomputable def cd48_4 : Code := sel (bodyOf Try.f48) [1, 1, 1, 1, 1, 1, 1, 1, 1, 1, 1, 1, 0, 1, 0, 0, 1, 1, 0, 0, 1, 1, 0]
noncomputable def bd48_4 : Code := sel (bodyOf Try.f48) [1, 1, 1, 1, 1, 1, 1, 1, 1, 1, 1, 1, 0, 1, 0, 0, 1, 1, 0, 0, 1, 1, 0, 0, 0]
noncomputable def cd48_2 : Code := sel (bodyOf Try.f48) [1, 1, 1, 1, 1, 1, 1, 1, 1, 1, 1, 1, 0, 1]
noncomputable def bd48_2 : Code := sel (bodyOf Try.f48) [1, 1, 1, 1, 1, 1, 1, 1, 1, 1, 1, 1, 0, 1, 0, 0]
noncomputable def sp14_1000010 : List (Nat × Mode) := [(12, .any), (13, .any), (14, .any), (15, .any), (17, .any), (42, .any), (43, .any), (44, .any), (50, .any)]
noncomputable def sp14_0 : List (Nat × Mode) := [(12, .any), (13, .any), (14, .any), (15, (.tie (.own (.prod (.int .i64) (.prod .bool (.prod (.int .i64) (.prod (.int .i64) (.prod (.slice (.int .u8)) .unit)))))))), (42, .any), (43, .any), (44, .any)]
noncomputable def jn14_0 : List (Nat × Mode) := [(12, .any), (13, .any), (14, .any), (15, .any)]
noncomputable def jn14_1 : List (Nat × Mode) := [(12, .any), (13, .any), (14, .any), (15, .any), (42, .any), (43, .any), (44, .any)]
noncomputable def fi14_10 : List (Nat × Mode) := [(12, .any), (13, .any), (14, .any), (15, (.tie (.own (.prod (.int .i64) (.prod .bool (.prod (.int .i64) (.prod (.int .i64) (.prod (.slice (.int .u8)) .unit)))))))), (42, .any), (43, .any), (44, .any)]
noncomputable def an14 : Ann := ⟨[.any, .any, .any, .any, (.lend (.prod (.int .i64) (.prod .bool (.prod (.int .i64) (.prod (.int .i64) (.prod (.slice (.int .u8)) .unit))))))], [], [], [(7, sp14_0)], [(0, jn14_0), (1, jn14_1)], [(0, sp14_0)], [], [(10, sp14_1000010)], [(10, fi14_10)]⟩
noncomputable def cd14_1000010 : Code := sel (bodyOf Try.f14) [1, 1, 1, 1, 1, 0, 1, 0, 0, 1, 1, 0, 0, 1, 1]
noncomputable def cd14_0 : Code := sel (bodyOf Try.f14) [1, 1, 1, 1, 1, 0, 1]
noncomputable def bd14_0 : Code := sel (bodyOf Try.f14) [1, 1, 1, 1, 1, 0, 1, 0, 0]
noncomputable def sp15_1000009 : List (Nat × Mode) := [(3, .any), (4, .any), (5, .any), (15, .any), (17, .any), (49, .any), (50, .any), (51, .any), (66, .any)]
noncomputable def sp15_0 : List (Nat × Mode) := [(3, .any), (4, .any), (5, .any), (15, (.own (.prod (.int .i64) (.prod (.int .i64) (.prod (.int .i64) (.prod (.int .i64) (.prod (.slice (.int .u8)) .unit))))))), (49, .any), (50, .any), (51, .any)]
noncomputable def sp15_1000017 : List (Nat × Mode) := [(14, .any), (18, .any), (20, .any), (79, .any), (80, .any), (81, .any), (96, .any)]
noncomputable def sp15_2 : List (Nat × Mode) := [(14, .any), (18, .any), (20, .any), (79, .any), (80, .any), (81, .any)]
noncomputable def jn15_0 : List (Nat × Mode) := [(3, .any), (4, .any), (15, .any)]
noncomputable def jn15_1 : List (Nat × Mode) := [(3, .any), (4, .any), (5, .any), (15, .any), (49, .any), (50, .any), (51, .any)]
noncomputable def jn15_2 : List (Nat × Mode) := [(14, .any), (18, .any), (20, .any)]
noncomputable def jn15_3 : List (Nat × Mode) := [(14, .any), (18, .any), (20, .any), (79, .any), (80, .any), (81, .any)]
noncomputable def fi15_9 : List (Nat × Mode) := [(3, .any), (4, .any), (5, .any), (15, (.own (.prod (.int .i64) (.prod (.int .i64) (.prod (.int .i64) (.prod (.int .i64) (.prod (.slice (.int .u8)) .unit))))))), (49, .any), (50, .any), (51, .any)]
noncomputable def fi15_17 : List (Nat × Mode) := [(14, .any), (18, .any), (20, .any), (79, .any), (80, .any), (81, .any)]
noncomputable def an15 : Ann := ⟨[.any, .any, .any, .any, (.lend (.prod (.int .i64) (.prod .bool (.prod (.int .i64) (.prod (.int .i64) (.prod (.slice (.int .u8)) .unit)))))), (.lend .bool)], [], [], [(6, sp15_0), (14, sp15_2)], [(0, jn15_0), (1, jn15_1), (2, jn15_2), (3, jn15_3)], [(0, sp15_0), (2, sp15_2)], [(16, [⟨[], []⟩, ⟨[1], []⟩, ⟨[1], []⟩, ⟨[], []⟩, ⟨[], []⟩, ⟨[262160], []⟩, ⟨[1], []⟩, ⟨[], []⟩, ⟨[1], []⟩, ⟨[1], []⟩, ⟨[], []⟩, ⟨[], []⟩])], [(9, sp15_1000009), (17, sp15_1000017)], [(9, fi15_9), (17, fi15_17)]⟩
noncomputable def cd15_1000009 : Code := sel (bodyOf Try.f15) [1, 1, 1, 1, 0, 1, 0, 0, 1, 1, 0, 0, 1, 1]
noncomputable def cd15_0 : Code := sel (bodyOf Try.f15) [1, 1, 1, 1, 0, 1]
noncomputable def bd15_0 : Code := sel (bodyOf Try.f15) [1, 1, 1, 1, 0, 1, 0, 0]
noncomputable def cd15_1000017 : Code := sel (bodyOf Try.f15) [1, 1, 1, 1, 1, 1, 1, 0, 1, 0, 0, 1, 1, 0, 0, 1, 1]
noncomputable def cd15_2 : Code := sel (bodyOf Try.f15) [1, 1, 1, 1, 1, 1, 1, 0, 1]
noncomputable def bd15_2 : Code := sel (bodyOf Try.f15) [1, 1, 1, 1, 1, 1, 1, 0, 1, 0, 0]
end Go.Proofs.Ytahdmfboidjkoaa.PM
