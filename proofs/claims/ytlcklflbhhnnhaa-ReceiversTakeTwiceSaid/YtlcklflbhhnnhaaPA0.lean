/- Annotations, and the equations of the loops (printed by a program of this work). -/
import Derived.Test.YtlcklflbhhnnhaaPT0
import Derived.Test.YtlcklflbhhnnhaaPmZ
import Derived.Test.YtlcklflbhhnnhaaPmSh
import Derived.Test.YtlcklflbhhnnhaaProg
import Derived.KernelRfl
set_option linter.unusedVariables false
set_option linter.unusedSimpArgs false
set_option maxRecDepth 100000
namespace Go.Proofs.Ytlcklflbhhnnhaa.PM
open Go
noncomputable def T : TT := [(3, ⟨.int .i64, 1, 8, [.int .i64 0], some (.int .i64)⟩),
  (4, ⟨.bool, 1, 1, [.bool false], some .bool⟩),
  (5, ⟨.int .u8, 1, 1, [.int .u8 0], some (.int .u8)⟩),
  (9, ⟨.str, 1, 16, [.string ⟨#[]⟩], some .str⟩),
  (22, ⟨.slice 5, 1, 24, [.slice none 0 0], some (.slice (.int .u8))⟩),
  (23, ⟨.slice 59, 1, 24, [.slice none 0 0], some (.slice (.prod (.int .i64) (.prod (.int .i64) .unit)))⟩),
  (25, ⟨.struct [(3, 0), (3, 1), (9, 2), (3, 3), (3, 4), (3, 5), (22, 6), (23, 7), (4, 8)], 9, 112, [.int .i64 0, .int .i64 0, .string ⟨#[]⟩, .int .i64 0, .int .i64 0, .int .i64 0, .slice none 0 0, .slice none 0 0, .bool false], some (.prod (.int .i64) (.prod (.int .i64) (.prod .str (.prod (.int .i64) (.prod (.int .i64) (.prod (.int .i64) (.prod (.slice (.int .u8)) (.prod (.slice (.prod (.int .i64) (.prod (.int .i64) .unit))) (.prod .bool .unit)))))))))⟩),
  (27, ⟨.struct [(3, 0), (3, 1), (3, 2), (3, 3), (3, 4)], 5, 40, [.int .i64 0, .int .i64 0, .int .i64 0, .int .i64 0, .int .i64 0], some (.prod (.int .i64) (.prod (.int .i64) (.prod (.int .i64) (.prod (.int .i64) (.prod (.int .i64) .unit)))))⟩),
  (28, ⟨.int .i64, 1, 8, [.int .i64 0], some (.int .i64)⟩),
  (39, ⟨.slice 25, 1, 24, [.slice none 0 0], some (.slice (.prod (.int .i64) (.prod (.int .i64) (.prod .str (.prod (.int .i64) (.prod (.int .i64) (.prod (.int .i64) (.prod (.slice (.int .u8)) (.prod (.slice (.prod (.int .i64) (.prod (.int .i64) .unit))) (.prod .bool .unit))))))))))⟩),
  (48, ⟨.struct [(3, 0), (3, 1), (9, 2), (22, 3), (23, 4), (3, 5), (3, 6), (3, 7), (3, 8)], 9, 112, [.int .i64 0, .int .i64 0, .string ⟨#[]⟩, .slice none 0 0, .slice none 0 0, .int .i64 0, .int .i64 0, .int .i64 0, .int .i64 0], some (.prod (.int .i64) (.prod (.int .i64) (.prod .str (.prod (.slice (.int .u8)) (.prod (.slice (.prod (.int .i64) (.prod (.int .i64) .unit))) (.prod (.int .i64) (.prod (.int .i64) (.prod (.int .i64) (.prod (.int .i64) .unit)))))))))⟩),
  (59, ⟨.struct [(3, 0), (3, 1)], 2, 16, [.int .i64 0, .int .i64 0], some (.prod (.int .i64) (.prod (.int .i64) .unit))⟩),
  (124, ⟨.slice 28, 1, 24, [.slice none 0 0], some (.slice (.int .i64))⟩),
  (149, ⟨.slice 23, 1, 24, [.slice none 0 0], some (.slice (.slice (.prod (.int .i64) (.prod (.int .i64) .unit))))⟩)]
noncomputable def sel : Code → List Nat → Code
  | c, [] => c
  | .seq a _, 0 :: l => sel a l
  | .seq _ b, _ :: l => sel b l
  | .cond _ a _, 0 :: l => sel a l
  | .cond _ _ b, _ :: l => sel b l
  | .block _ b, _ :: l => sel b l
  | .loop b, _ :: l => sel b l
  | c, _ => c
noncomputable def bodyOf (f : Func) : Code := match f.body with | some c => c | none => .skip
noncomputable def opsOf : Code → Array Oper
  | .region _ o _ => o
  | _ => #[]
noncomputable def operAt (c : Code) (i : Nat) : Oper := (opsOf c).getD i ⟨none, .alloc 0, 0, "", #[], none⟩

noncomputable def an66 : Ann := ⟨[.any, .any, .any], [], [], [], [], [], [], [], []⟩
noncomputable def an22 : Ann := ⟨[.any], [], [], [], [], [], [], [], []⟩
noncomputable def sp68_0 : List (Nat × Mode) := [(0, .any), (13, .any), (14, .any)]
noncomputable def jn68_0 : List (Nat × Mode) := []
noncomputable def jn68_1 : List (Nat × Mode) := [(0, .any), (13, .any), (14, .any)]
noncomputable def an68 : Ann := ⟨[.any], [], [], [(4, sp68_0)], [(0, jn68_0), (1, jn68_1)], [(0, sp68_0)], [], [], []⟩
noncomputable def cd68_0 : Code := sel (bodyOf Try.f68) [1, 1, 0, 1]
noncomputable def bd68_0 : Code := sel (bodyOf Try.f68) [1, 1, 0, 1, 0, 0]
noncomputable def sp45_0 : List (Nat × Mode) := [(0, .any), (1, .any), (13, .any), (14, .any), (15, .any)]
noncomputable def jn45_0 : List (Nat × Mode) := []
noncomputable def jn45_1 : List (Nat × Mode) := [(0, .any), (1, .any), (13, .any), (14, .any), (15, .any)]
noncomputable def jn45_2 : List (Nat × Mode) := [(0, .any), (1, .any), (13, .any), (14, .any), (15, .any)]
noncomputable def an45 : Ann := ⟨[(.lend (.prod (.int .i64) (.prod (.int .i64) .unit))), .any], [], [], [(6, sp45_0)], [(0, jn45_0), (1, jn45_1), (2, jn45_2)], [(0, sp45_0)], [(12, [⟨[], []⟩, ⟨[], []⟩, ⟨[], []⟩, ⟨[], []⟩, ⟨[131096], []⟩, ⟨[], []⟩, ⟨[], []⟩, ⟨[], []⟩, ⟨[], []⟩, ⟨[], []⟩, ⟨[], []⟩, ⟨[], []⟩, ⟨[], []⟩, ⟨[], []⟩])], [], []⟩
noncomputable def cd45_0 : Code := sel (bodyOf Try.f45) [1, 1, 1, 0, 1]
noncomputable def bd45_0 : Code := sel (bodyOf Try.f45) [1, 1, 1, 0, 1, 0, 0]
noncomputable def sp87_1000007 : List (Nat × Mode) := [(1, .any), (5, .any), (6, .any), (8, .any), (9, .any), (10, .any), (11, .any), (18, .any)]
noncomputable def sp87_0 : List (Nat × Mode) := [(1, .any), (5, (.own (.prod (.int .i64) (.prod (.int .i64) .unit)))), (6, .any), (9, .any), (10, .any), (11, .any)]
noncomputable def sp87_1000011 : List (Nat × Mode) := [(1, .any), (5, .any), (6, .any), (31, .any)]
noncomputable def jn87_0 : List (Nat × Mode) := [(1, .any), (5, .any), (6, .any)]
noncomputable def jn87_1 : List (Nat × Mode) := [(1, .any), (5, .any), (6, .any), (9, .any), (10, .any), (11, .any)]
noncomputable def fi87_7 : List (Nat × Mode) := [(1, .any), (5, (.own (.prod (.int .i64) (.prod (.int .i64) .unit)))), (8, .any), (9, .any), (10, .any), (11, .any)]
noncomputable def fi87_11 : List (Nat × Mode) := [(5, .any)]
noncomputable def an87 : Ann := ⟨[(.lend (.prod (.int .i64) (.prod (.int .i64) .unit))), .any], [], [], [(4, sp87_0)], [(0, jn87_0), (1, jn87_1)], [(0, sp87_0)], [], [(7, sp87_1000007), (11, sp87_1000011)], [(7, fi87_7), (11, fi87_11)]⟩
noncomputable def cd87_1000007 : Code := sel (bodyOf Try.f87) [1, 1, 1, 0, 1, 0, 0, 1, 1, 0, 0, 1, 0, 1]
noncomputable def cd87_0 : Code := sel (bodyOf Try.f87) [1, 1, 1, 0, 1]
noncomputable def bd87_0 : Code := sel (bodyOf Try.f87) [1, 1, 1, 0, 1, 0, 0]
noncomputable def cd87_1000011 : Code := sel (bodyOf Try.f87) [1, 1, 1, 1, 0, 1]
noncomputable def sp94_1000004 : List (Nat × Mode) := [(1, .any), (3, .any), (4, .any), (13, .any)]
noncomputable def sp94_2 : List (Nat × Mode) := [(1, .any), (29, .any), (30, .any), (31, .any), (41, .any), (42, .any), (43, .any)]
noncomputable def sp94_0 : List (Nat × Mode) := [(1, .any), (29, .any), (30, .any), (31, .any)]
noncomputable def jn94_0 : List (Nat × Mode) := [(1, .any)]
noncomputable def jn94_1 : List (Nat × Mode) := [(1, .any), (29, .any), (30, .any), (31, .any)]
noncomputable def jn94_2 : List (Nat × Mode) := [(1, .any), (29, .any), (30, .any), (31, .any)]
noncomputable def jn94_3 : List (Nat × Mode) := [(1, .any), (29, .any), (30, .any), (31, .any), (41, .any), (42, .any), (43, .any)]
noncomputable def fi94_4 : List (Nat × Mode) := [(1, .any), (3, .any)]
noncomputable def an94 : Ann := ⟨[(.cells [.any, .any, .any, (.lend (.int .u8)), (.lend (.prod (.int .i64) (.prod (.int .i64) .unit))), .any, .any, .any, .any])], [], [], [(11, sp94_2), (8, sp94_0)], [(0, jn94_0), (1, jn94_1), (2, jn94_2), (3, jn94_3)], [(2, sp94_2), (0, sp94_0)], [], [(4, sp94_1000004)], [(4, fi94_4)]⟩
noncomputable def cd94_1000004 : Code := sel (bodyOf Try.f94) [1, 1, 0, 1, 1]
noncomputable def cd94_2 : Code := sel (bodyOf Try.f94) [1, 1, 1, 1, 0, 1, 0, 0, 1, 1, 0, 0, 1, 1]
noncomputable def bd94_2 : Code := sel (bodyOf Try.f94) [1, 1, 1, 1, 0, 1, 0, 0, 1, 1, 0, 0, 1, 1, 0, 0]
noncomputable def cd94_0 : Code := sel (bodyOf Try.f94) [1, 1, 1, 1, 0, 1]
noncomputable def bd94_0 : Code := sel (bodyOf Try.f94) [1, 1, 1, 1, 0, 1, 0, 0]
noncomputable def an95 : Ann := ⟨[(.cells [.any, .any, .any, (.lend (.int .u8)), (.lend (.prod (.int .i64) (.prod (.int .i64) .unit))), .any, .any, .any, .any])], [], [], [], [], [], [], [], []⟩
noncomputable def sp56_1000011 : List (Nat × Mode) := [(1, .any), (3, .any), (54, .any)]
noncomputable def jn56_0 : List (Nat × Mode) := [(1, .any)]
noncomputable def fi56_11 : List (Nat × Mode) := [(1, .any), (3, .any)]
noncomputable def an56 : Ann := ⟨[(.cells [.any, .any, .any, (.lend (.int .u8)), (.lend (.prod (.int .i64) (.prod (.int .i64) .unit))), .any, .any, .any, .any])], [], [], [], [(0, jn56_0)], [], [], [(11, sp56_1000011)], [(11, fi56_11)]⟩
noncomputable def cd56_1000011 : Code := sel (bodyOf Try.f56) [1, 1, 1, 0, 1]
noncomputable def sp67_1000013 : List (Nat × Mode) := [(3, .any), (25, .any)]
noncomputable def sp67_1000011 : List (Nat × Mode) := [(3, .any), (8, .any), (22, .any)]
noncomputable def sp67_1000009 : List (Nat × Mode) := [(3, .any), (8, .any), (18, .any)]
noncomputable def sp67_1000007 : List (Nat × Mode) := [(3, .any), (8, .any), (14, .any)]
noncomputable def sp67_1000005 : List (Nat × Mode) := [(3, .any), (8, .any), (9, .any)]
noncomputable def jn67_0 : List (Nat × Mode) := [(3, .any)]
noncomputable def fi67_13 : List (Nat × Mode) := [(3, .any)]
noncomputable def fi67_11 : List (Nat × Mode) := [(3, (.cells [.any, .any, .any, .any, .any, .any, .any, (.lend (.prod (.int .i64) (.prod (.int .i64) .unit))), .any]))]
noncomputable def fi67_9 : List (Nat × Mode) := [(3, .any)]
noncomputable def fi67_7 : List (Nat × Mode) := [(3, (.cells [.any, .any, .any, .any, .any, .any, (.lend (.int .u8)), .any, .any]))]
noncomputable def fi67_5 : List (Nat × Mode) := [(3, .any)]
noncomputable def an67 : Ann := ⟨[(.cells [.any, .any, .any, .any, .any, .any, (.lend (.int .u8)), (.lend (.prod (.int .i64) (.prod (.int .i64) .unit))), .any])], [], [], [], [(0, jn67_0)], [], [], [(13, sp67_1000013), (11, sp67_1000011), (9, sp67_1000009), (7, sp67_1000007), (5, sp67_1000005)], [(13, fi67_13), (11, fi67_11), (9, fi67_9), (7, fi67_7), (5, fi67_5)]⟩
noncomputable def cd67_1000013 : Code := sel (bodyOf Try.f67) [1, 1, 1, 0, 1, 0, 1, 1, 1, 1, 1, 1, 1, 1, 1]
noncomputable def cd67_1000011 : Code := sel (bodyOf Try.f67) [1, 1, 1, 0, 1, 0, 1, 1, 1, 1, 1, 1, 1]
noncomputable def cd67_1000009 : Code := sel (bodyOf Try.f67) [1, 1, 1, 0, 1, 0, 1, 1, 1, 1, 1]
noncomputable def cd67_1000007 : Code := sel (bodyOf Try.f67) [1, 1, 1, 0, 1, 0, 1, 1, 1]
noncomputable def cd67_1000005 : Code := sel (bodyOf Try.f67) [1, 1, 1, 0, 1, 0, 1]
noncomputable def an70 : Ann := ⟨[.any, .any, .any], [], [], [], [], [], [], [], []⟩
noncomputable def sp69_0 : List (Nat × Mode) := [(5, .any), (6, .any), (7, .any)]
noncomputable def jn69_0 : List (Nat × Mode) := []
noncomputable def jn69_1 : List (Nat × Mode) := [(5, .any), (6, .any), (7, .any)]
noncomputable def an69 : Ann := ⟨[(.lend (.int .i64))], [], [], [(2, sp69_0)], [(0, jn69_0), (1, jn69_1)], [(0, sp69_0)], [], [], []⟩
noncomputable def cd69_0 : Code := sel (bodyOf Try.f69) [1, 0, 1]
noncomputable def bd69_0 : Code := sel (bodyOf Try.f69) [1, 0, 1, 0, 0]
noncomputable def an104 : Ann := ⟨[], [], [], [], [], [], [], [], []⟩
noncomputable def an71 : Ann := ⟨[(.lend (.prod (.int .i64) (.prod (.int .i64) .unit)))], [], [], [], [], [], [(1, [⟨[], []⟩, ⟨[], []⟩, ⟨[], []⟩, ⟨[], []⟩, ⟨[], []⟩, ⟨[], []⟩, ⟨[], []⟩, ⟨[], []⟩, ⟨[], []⟩, ⟨[], []⟩])], [], []⟩
noncomputable def sp20_1000015 : List (Nat × Mode) := [(1, .any), (16, .any), (41, .any)]
noncomputable def jn20_0 : List (Nat × Mode) := []
noncomputable def jn20_1 : List (Nat × Mode) := []
noncomputable def fi20_15 : List (Nat × Mode) := []
noncomputable def an20 : Ann := ⟨[(.cells [.any, .any, .any, .any, .any, .any, (.lend (.int .u8)), (.lend (.prod (.int .i64) (.prod (.int .i64) .unit))), .any])], [], [], [], [(0, jn20_0), (1, jn20_1)], [], [(11, [⟨[], []⟩, ⟨[16384], []⟩, ⟨[], []⟩, ⟨[], []⟩, ⟨[16384], []⟩, ⟨[], []⟩, ⟨[], []⟩, ⟨[196656], []⟩, ⟨[], []⟩]), (13, [⟨[], []⟩, ⟨[16384], []⟩, ⟨[], []⟩, ⟨[], []⟩, ⟨[16384], []⟩, ⟨[], []⟩, ⟨[], []⟩, ⟨[229424], []⟩, ⟨[], []⟩])], [(15, sp20_1000015)], [(15, fi20_15)]⟩
noncomputable def cd20_1000015 : Code := sel (bodyOf Try.f20) [1, 1, 1, 1, 0, 1, 0, 1, 1, 1, 1, 1]
noncomputable def an83 : Ann := ⟨[(.cells [.any, .any, .any, (.lend (.int .u8)), (.lend (.prod (.int .i64) (.prod (.int .i64) .unit))), .any, .any, .any, .any])], [], [], [], [], [], [(1, [⟨[], []⟩, ⟨[16384], []⟩, ⟨[], []⟩, ⟨[], []⟩, ⟨[16384], []⟩, ⟨[], []⟩, ⟨[], []⟩, ⟨[32785], [16384]⟩, ⟨[], []⟩, ⟨[32785, 32809], [16384]⟩])], [], []⟩
noncomputable def an119 : Ann := ⟨[(.cells [.any, .any, .any, (.lend (.int .u8)), (.lend (.prod (.int .i64) (.prod (.int .i64) .unit))), .any, .any, .any, .any]), (.cells [.any, .any, .any, .any, .any, .any, (.lend (.int .u8)), (.lend (.prod (.int .i64) (.prod (.int .i64) .unit))), .any])], [], [], [], [], [], [], [], []⟩
noncomputable def sp132_1000002 : List (Nat × Mode) := [(0, .any), (1, .any), (6, .any)]
noncomputable def sp132_1000005 : List (Nat × Mode) := [(0, .any), (1, .any), (16, .any)]
noncomputable def fi132_2 : List (Nat × Mode) := [(0, .any), (1, .any)]
noncomputable def fi132_5 : List (Nat × Mode) := [(0, (.trim (.prod (.int .i64) (.prod (.int .i64) .unit))))]
noncomputable def an132 : Ann := ⟨[.any, .any], [], [], [], [], [], [], [(2, sp132_1000002), (5, sp132_1000005)], [(2, fi132_2), (5, fi132_5)]⟩
noncomputable def cd132_1000002 : Code := sel (bodyOf Try.f132) [1, 0, 1]
noncomputable def cd132_1000005 : Code := sel (bodyOf Try.f132) [1, 1, 0, 1, 1]
noncomputable def sp114_1000007 : List (Nat × Mode) := [(0, .any), (3, .any), (9, .any), (10, .any), (11, .any), (20, .any)]
noncomputable def sp114_0 : List (Nat × Mode) := [(0, .any), (3, .any), (9, .any), (10, .any), (11, .any)]
noncomputable def sp114_2 : List (Nat × Mode) := [(6, .any), (25, .any), (26, .any), (27, .any)]
noncomputable def jn114_0 : List (Nat × Mode) := [(0, .any), (3, .any)]
noncomputable def jn114_1 : List (Nat × Mode) := [(0, .any), (3, .any), (9, .any), (10, .any), (11, .any)]
noncomputable def jn114_2 : List (Nat × Mode) := [(6, .any)]
noncomputable def jn114_3 : List (Nat × Mode) := [(6, .any), (25, .any), (26, .any), (27, .any)]
noncomputable def fi114_7 : List (Nat × Mode) := [(0, .any), (3, .any), (9, .any), (10, .any), (11, .any)]
noncomputable def an114 : Ann := ⟨[(.lend (.slice (.prod (.int .i64) (.prod (.int .i64) .unit))))], [], [], [(3, sp114_0), (11, sp114_2)], [(0, jn114_0), (1, jn114_1), (2, jn114_2), (3, jn114_3)], [(0, sp114_0), (2, sp114_2)], [], [(7, sp114_1000007)], [(7, fi114_7)]⟩
noncomputable def cd114_1000007 : Code := sel (bodyOf Try.f114) [1, 1, 0, 1, 0, 0, 1, 1, 0, 0, 1, 1, 1]
noncomputable def cd114_0 : Code := sel (bodyOf Try.f114) [1, 1, 0, 1]
noncomputable def bd114_0 : Code := sel (bodyOf Try.f114) [1, 1, 0, 1, 0, 0]
noncomputable def cd114_2 : Code := sel (bodyOf Try.f114) [1, 1, 1, 1, 0, 1]
noncomputable def bd114_2 : Code := sel (bodyOf Try.f114) [1, 1, 1, 1, 0, 1, 0, 0]
noncomputable def sp86_1000009 : List (Nat × Mode) := [(6, .any), (8, .any), (9, .any), (16, .any), (17, .any), (18, .any), (36, .any)]
noncomputable def sp86_0 : List (Nat × Mode) := [(6, (.own (.prod (.int .i64) (.prod (.int .i64) .unit)))), (16, .any), (17, .any), (18, .any)]
noncomputable def jn86_0 : List (Nat × Mode) := [(6, .any)]
noncomputable def jn86_1 : List (Nat × Mode) := [(6, .any), (16, .any), (17, .any), (18, .any)]
noncomputable def fi86_9 : List (Nat × Mode) := [(6, .any), (16, .any), (17, .any), (18, .any)]
noncomputable def an86 : Ann := ⟨[(.lend (.prod (.int .i64) (.prod (.int .i64) .unit))), (.lend (.prod (.int .i64) (.prod (.int .i64) .unit)))], [], [], [(5, sp86_0)], [(0, jn86_0), (1, jn86_1)], [(0, sp86_0)], [(8, [⟨[], []⟩, ⟨[], []⟩, ⟨[], []⟩, ⟨[], []⟩, ⟨[114704], []⟩, ⟨[1], []⟩, ⟨[], []⟩, ⟨[], []⟩, ⟨[1], []⟩, ⟨[], []⟩, ⟨[1], []⟩, ⟨[], []⟩, ⟨[], []⟩]), (9, [⟨[1], []⟩, ⟨[], []⟩, ⟨[], []⟩, ⟨[1], []⟩, ⟨[], []⟩, ⟨[], []⟩, ⟨[1], []⟩, ⟨[], []⟩, ⟨[1], []⟩, ⟨[], []⟩, ⟨[2], []⟩, ⟨[], []⟩, ⟨[1], []⟩, ⟨[], []⟩, ⟨[], [1]⟩])], [(9, sp86_1000009)], [(9, fi86_9)]⟩
noncomputable def cd86_1000009 : Code := sel (bodyOf Try.f86) [1, 1, 1, 1, 0, 1, 0, 0, 1, 1, 0, 0, 1, 1, 1]
noncomputable def cd86_0 : Code := sel (bodyOf Try.f86) [1, 1, 1, 1, 0, 1]
noncomputable def bd86_0 : Code := sel (bodyOf Try.f86) [1, 1, 1, 1, 0, 1, 0, 0]
noncomputable def sp120_1000004 : List (Nat × Mode) := [(0, .any), (1, .any), (2, .any), (3, .any), (11, .any), (12, .any), (27, .any)]
noncomputable def sp120_1000011 : List (Nat × Mode) := [(1, .any), (2, .any), (3, .any), (11, .any), (12, .any), (13, .any), (16, .any), (17, .any), (41, .any), (42, .any), (43, .any), (57, .any)]
noncomputable def sp120_0 : List (Nat × Mode) := [(1, .any), (2, .any), (3, .any), (11, .any), (12, .any), (13, .any), (41, .any), (42, .any), (43, .any)]
noncomputable def jn120_0 : List (Nat × Mode) := [(1, .any), (2, .any), (11, .any), (12, .any), (13, .any)]
noncomputable def jn120_1 : List (Nat × Mode) := [(1, .any), (2, .any), (3, .any), (11, .any), (12, .any), (13, .any), (41, .any), (42, .any), (43, .any)]
noncomputable def fi120_4 : List (Nat × Mode) := [(0, .any), (1, .any), (2, .any), (3, .any), (11, .any), (12, .any)]
noncomputable def fi120_11 : List (Nat × Mode) := [(1, .any), (2, .any), (3, .any), (11, .any), (12, .any), (13, .any), (41, .any), (42, .any), (43, .any)]
noncomputable def an120 : Ann := ⟨[(.lend (.int .u8)), (.lend (.prod (.int .i64) (.prod (.int .i64) .unit))), .any, (.lend (.int .u8))], [], [], [(7, sp120_0)], [(0, jn120_0), (1, jn120_1)], [(0, sp120_0)], [(9, [⟨[], []⟩, ⟨[147472], []⟩, ⟨[], []⟩, ⟨[], []⟩, ⟨[], []⟩, ⟨[147472], []⟩, ⟨[], []⟩, ⟨[], []⟩, ⟨[], []⟩, ⟨[], []⟩]), (11, [⟨[1], []⟩, ⟨[], []⟩, ⟨[], []⟩, ⟨[1], []⟩, ⟨[], []⟩, ⟨[], []⟩, ⟨[], []⟩, ⟨[], []⟩, ⟨[], []⟩, ⟨[], []⟩, ⟨[], []⟩, ⟨[], []⟩, ⟨[], [1]⟩])], [(4, sp120_1000004), (11, sp120_1000011)], [(4, fi120_4), (11, fi120_11)]⟩
noncomputable def cd120_1000004 : Code := sel (bodyOf Try.f120) [1, 1, 1, 0, 1]
noncomputable def cd120_1000011 : Code := sel (bodyOf Try.f120) [1, 1, 1, 1, 1, 0, 1, 0, 0, 1, 1, 0, 0, 1, 1, 1]
noncomputable def cd120_0 : Code := sel (bodyOf Try.f120) [1, 1, 1, 1, 1, 0, 1]
noncomputable def bd120_0 : Code := sel (bodyOf Try.f120) [1, 1, 1, 1, 1, 0, 1, 0, 0]
noncomputable def sp64_0 : List (Nat × Mode) := [(3, .any), (6, .any), (7, .any), (8, .any)]
noncomputable def jn64_0 : List (Nat × Mode) := [(3, .any)]
noncomputable def jn64_1 : List (Nat × Mode) := [(3, .any), (6, .any), (7, .any), (8, .any)]
noncomputable def an64 : Ann := ⟨[(.lend (.int .u8))], [], [], [(3, sp64_0)], [(0, jn64_0), (1, jn64_1)], [(0, sp64_0)], [], [], []⟩
noncomputable def cd64_0 : Code := sel (bodyOf Try.f64) [1, 1, 0, 1]
noncomputable def bd64_0 : Code := sel (bodyOf Try.f64) [1, 1, 0, 1, 0, 0]
noncomputable def an131 : Ann := ⟨[(.lend (.prod (.int .i64) (.prod (.int .i64) .unit))), .any], [(.lend (.prod (.int .i64) (.prod (.int .i64) .unit)))], [], [], [], [], [], [], []⟩
noncomputable def an112 : Ann := ⟨[(.cells [.any, .any, .any, (.lend (.int .u8)), (.lend (.prod (.int .i64) (.prod (.int .i64) .unit))), .any, .any, .any, .any])], [(.lend (.prod (.int .i64) (.prod (.int .i64) .unit))), .any], [], [], [], [], [], [], []⟩
noncomputable def sp92_1000018 : List (Nat × Mode) := [(3, .any), (4, .any), (5, .any), (6, .any), (93, .any)]
noncomputable def sp92_1000023 : List (Nat × Mode) := [(3, .any), (4, .any), (5, .any), (6, .any), (108, .any)]
noncomputable def sp92_1000015 : List (Nat × Mode) := [(3, .any), (4, .any), (5, .any), (6, .any), (77, .any)]
noncomputable def sp92_1000025 : List (Nat × Mode) := [(3, .any), (4, .any), (5, .any), (6, .any), (114, .any)]
noncomputable def sp92_1000030 : List (Nat × Mode) := [(4, .any), (6, .any), (11, .any), (138, .any)]
noncomputable def fi92_18 : List (Nat × Mode) := [(3, .any), (4, .any), (5, .any), (6, .any)]
noncomputable def fi92_23 : List (Nat × Mode) := [(3, .any), (4, .any), (5, .any), (6, .any)]
noncomputable def fi92_15 : List (Nat × Mode) := [(3, .any), (4, (.cells [.any, .any, .any, (.lend (.int .u8)), (.lend (.prod (.int .i64) (.prod (.int .i64) .unit))), .any, .any, .any, .any])), (5, .any), (6, .any)]
noncomputable def fi92_25 : List (Nat × Mode) := [(3, .any), (4, .any), (5, .any), (6, .any)]
noncomputable def fi92_30 : List (Nat × Mode) := [(4, .any), (6, .any), (11, .any)]
noncomputable def an92 : Ann := ⟨[.any, (.cells [.any, .any, .any, (.lend (.int .u8)), (.lend (.prod (.int .i64) (.prod (.int .i64) .unit))), .any, .any, .any, .any]), (.cells [.any, .any, .any, .any, .any, .any, (.lend (.int .u8)), (.lend (.prod (.int .i64) (.prod (.int .i64) .unit))), .any])], [(.cells [.any, .any, .any, (.lend (.int .u8)), (.lend (.prod (.int .i64) (.prod (.int .i64) .unit))), .any, .any, .any, .any]), (.tie (.own (.prod (.int .i64) (.prod (.int .i64) (.prod .str (.prod (.int .i64) (.prod (.int .i64) (.prod (.int .i64) (.prod (.slice (.int .u8)) (.prod (.slice (.prod (.int .i64) (.prod (.int .i64) .unit))) (.prod .bool .unit))))))))))), .any], [], [], [], [], [(6, [⟨[16392], []⟩, ⟨[], []⟩, ⟨[16392], []⟩, ⟨[], []⟩, ⟨[], []⟩, ⟨[], [16408]⟩, ⟨[114720], []⟩, ⟨[], []⟩]), (13, [⟨[16392], []⟩, ⟨[], []⟩, ⟨[16392], []⟩, ⟨[], []⟩, ⟨[], []⟩, ⟨[], [16408]⟩, ⟨[229408], []⟩, ⟨[], []⟩]), (21, [⟨[], []⟩, ⟨[3], []⟩, ⟨[], []⟩, ⟨[3], []⟩, ⟨[], []⟩, ⟨[], [2]⟩, ⟨[], []⟩, ⟨[], [2]⟩]), (27, [⟨[], []⟩, ⟨[2], []⟩, ⟨[], []⟩, ⟨[], []⟩, ⟨[2], []⟩, ⟨[], []⟩, ⟨[], []⟩]), (31, [⟨[1], []⟩, ⟨[], []⟩, ⟨[1], []⟩, ⟨[], []⟩, ⟨[], []⟩, ⟨[], []⟩, ⟨[], [2]⟩, ⟨[524328], []⟩, ⟨[], []⟩]), (34, [⟨[], []⟩, ⟨[1], []⟩, ⟨[], []⟩, ⟨[], [2]⟩, ⟨[], []⟩, ⟨[], [2]⟩]), (38, [⟨[2], []⟩, ⟨[], []⟩, ⟨[2], []⟩, ⟨[], []⟩, ⟨[], []⟩, ⟨[], []⟩, ⟨[], [4]⟩, ⟨[639016], []⟩, ⟨[], []⟩])], [(18, sp92_1000018), (23, sp92_1000023), (15, sp92_1000015), (25, sp92_1000025), (30, sp92_1000030)], [(18, fi92_18), (23, fi92_23), (15, fi92_15), (25, fi92_25), (30, fi92_30)]⟩
noncomputable def cd92_1000018 : Code := sel (bodyOf Try.f92) [1, 1, 1, 1, 1, 1, 0, 1, 0, 1, 0, 1, 1]
noncomputable def cd92_1000023 : Code := sel (bodyOf Try.f92) [1, 1, 1, 1, 1, 1, 0, 1, 1, 1, 1]
noncomputable def cd92_1000015 : Code := sel (bodyOf Try.f92) [1, 1, 1, 1, 1, 1, 0, 1]
noncomputable def cd92_1000025 : Code := sel (bodyOf Try.f92) [1, 1, 1, 1, 1, 1, 1, 0, 1]
noncomputable def cd92_1000030 : Code := sel (bodyOf Try.f92) [1, 1, 1, 1, 1, 1, 1, 1, 0, 1, 0, 1, 1, 0, 1]
noncomputable def an52 : Ann := ⟨[.any, (.cells [.any, .any, .any, (.lend (.int .u8)), (.lend (.prod (.int .i64) (.prod (.int .i64) .unit))), .any, .any, .any, .any]), (.cells [.any, .any, .any, .any, .any, .any, (.lend (.int .u8)), (.lend (.prod (.int .i64) (.prod (.int .i64) .unit))), .any])], [(.cells [.any, .any, .any, (.lend (.int .u8)), (.lend (.prod (.int .i64) (.prod (.int .i64) .unit))), .any, .any, .any, .any]), (.tie (.own (.prod (.int .i64) (.prod (.int .i64) (.prod .str (.prod (.int .i64) (.prod (.int .i64) (.prod (.int .i64) (.prod (.slice (.int .u8)) (.prod (.slice (.prod (.int .i64) (.prod (.int .i64) .unit))) (.prod .bool .unit))))))))))), .any], [], [], [], [], [(10, [⟨[16384], []⟩, ⟨[16392], []⟩, ⟨[], []⟩, ⟨[16400], []⟩, ⟨[180241, 180242], []⟩, ⟨[180241, 180242], []⟩, ⟨[180241, 180242, 180257], []⟩, ⟨[180241, 180242], []⟩, ⟨[180241, 180242], [16408]⟩, ⟨[180257], []⟩, ⟨[], []⟩])], [], []⟩
noncomputable def an18 : Ann := ⟨[(.lend (.int .u8))], [], [], [], [], [], [], [], []⟩
noncomputable def an24 : Ann := ⟨[], [], [], [], [], [], [], [], []⟩
noncomputable def an51 : Ann := ⟨[(.lend (.int .u8)), (.lend (.int .u8))], [], [], [], [], [], [], [], []⟩
noncomputable def sp40_0 : List (Nat × Mode) := [(0, .any), (1, .any), (12, .any), (13, .any)]
noncomputable def jn40_0 : List (Nat × Mode) := []
noncomputable def jn40_1 : List (Nat × Mode) := [(0, .any), (1, .any), (12, .any), (13, .any)]
noncomputable def an40 : Ann := ⟨[(.lend (.prod (.int .i64) (.prod (.int .i64) .unit))), (.lend (.prod (.int .i64) (.prod (.int .i64) .unit)))], [], [], [(4, sp40_0)], [(0, jn40_0), (1, jn40_1)], [(0, sp40_0)], [(6, [⟨[], []⟩, ⟨[], []⟩, ⟨[], []⟩, ⟨[], []⟩, ⟨[], []⟩, ⟨[], []⟩, ⟨[], []⟩, ⟨[], []⟩, ⟨[], []⟩])], [], []⟩
noncomputable def cd40_0 : Code := sel (bodyOf Try.f40) [1, 1, 0, 1]
noncomputable def bd40_0 : Code := sel (bodyOf Try.f40) [1, 1, 0, 1, 0, 0]
noncomputable def an38 : Ann := ⟨[(.cells [.any, .any, .any, (.lend (.int .u8)), (.lend (.prod (.int .i64) (.prod (.int .i64) .unit))), .any, .any, .any, .any]), (.cells [.any, .any, .any, (.lend (.int .u8)), (.lend (.prod (.int .i64) (.prod (.int .i64) .unit))), .any, .any, .any, .any])], [], [], [], [], [], [], [], []⟩
noncomputable def an11 : Ann := ⟨[.any, (.cells [.any, .any, .any, (.lend (.int .u8)), (.lend (.prod (.int .i64) (.prod (.int .i64) .unit))), .any, .any, .any, .any]), (.cells [.any, .any, .any, .any, .any, .any, (.lend (.int .u8)), (.lend (.prod (.int .i64) (.prod (.int .i64) .unit))), .any])], [], [], [], [], [], [], [], []⟩
end Go.Proofs.Ytlcklflbhhnnhaa.PM
