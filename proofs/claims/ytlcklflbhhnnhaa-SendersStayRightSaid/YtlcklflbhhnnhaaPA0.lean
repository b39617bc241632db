/- Annotations, and the equations of the loops (printed by a program of this work). -/
import Derived.Test.YtlcklflbhhnnhaaPT0
import Derived.Test.YtlcklflbhhnnhaaPmZ
import Derived.Test.YtlcklflbhhnnhaaPmSh
import Derived.Test.YtlcklflbhhnnhaaProg
import Derived.KernelRfl
set_option linter.unusedVariables false
set_option linter.unusedSimpArgs false
set_option maxRecDepth 100000
namespace Go.Proofs.Ytlcklflbhhnnhaa.PM
open Go
noncomputable def T : TT := [(3, ⟨.int .i64, 1, 8, [.int .i64 0], some (.int .i64)⟩),
  (4, ⟨.bool, 1, 1, [.bool false], some .bool⟩),
  (5, ⟨.int .u8, 1, 1, [.int .u8 0], some (.int .u8)⟩),
  (9, ⟨.str, 1, 16, [.string ⟨#[]⟩], some .str⟩),
  (22, ⟨.slice 5, 1, 24, [.slice none 0 0], some (.slice (.int .u8))⟩),
  (23, ⟨.slice 59, 1, 24, [.slice none 0 0], some (.slice (.prod (.int .i64) (.prod (.int .i64) .unit)))⟩),
  (25, ⟨.struct [(3, 0), (3, 1), (9, 2), (3, 3), (3, 4), (3, 5), (22, 6), (23, 7), (4, 8)], 9, 112, [.int .i64 0, .int .i64 0, .string ⟨#[]⟩, .int .i64 0, .int .i64 0, .int .i64 0, .slice none 0 0, .slice none 0 0, .bool false], some (.prod (.int .i64) (.prod (.int .i64) (.prod .str (.prod (.int .i64) (.prod (.int .i64) (.prod (.int .i64) (.prod (.slice (.int .u8)) (.prod (.slice (.prod (.int .i64) (.prod (.int .i64) .unit))) (.prod .bool .unit)))))))))⟩),
  (27, ⟨.struct [(3, 0), (3, 1), (3, 2), (3, 3), (3, 4)], 5, 40, [.int .i64 0, .int .i64 0, .int .i64 0, .int .i64 0, .int .i64 0], some (.prod (.int .i64) (.prod (.int .i64) (.prod (.int .i64) (.prod (.int .i64) (.prod (.int .i64) .unit)))))⟩),
  (28, ⟨.int .i64, 1, 8, [.int .i64 0], some (.int .i64)⟩),
  (36, ⟨.struct [(3, 0), (3, 1), (9, 2), (22, 3), (3, 4), (23, 5), (3, 6), (3, 7)], 8, 104, [.int .i64 0, .int .i64 0, .string ⟨#[]⟩, .slice none 0 0, .int .i64 0, .slice none 0 0, .int .i64 0, .int .i64 0], some (.prod (.int .i64) (.prod (.int .i64) (.prod .str (.prod (.slice (.int .u8)) (.prod (.int .i64) (.prod (.slice (.prod (.int .i64) (.prod (.int .i64) .unit))) (.prod (.int .i64) (.prod (.int .i64) .unit))))))))⟩),
  (39, ⟨.slice 25, 1, 24, [.slice none 0 0], some (.slice (.prod (.int .i64) (.prod (.int .i64) (.prod .str (.prod (.int .i64) (.prod (.int .i64) (.prod (.int .i64) (.prod (.slice (.int .u8)) (.prod (.slice (.prod (.int .i64) (.prod (.int .i64) .unit))) (.prod .bool .unit))))))))))⟩),
  (59, ⟨.struct [(3, 0), (3, 1)], 2, 16, [.int .i64 0, .int .i64 0], some (.prod (.int .i64) (.prod (.int .i64) .unit))⟩),
  (124, ⟨.slice 28, 1, 24, [.slice none 0 0], some (.slice (.int .i64))⟩),
  (149, ⟨.slice 23, 1, 24, [.slice none 0 0], some (.slice (.slice (.prod (.int .i64) (.prod (.int .i64) .unit))))⟩)]
noncomputable def sel : Code → List Nat → Code
  | c, [] => c
  | .seq a _, 0 :: l => sel a l
  | .seq _ b, _ :: l => sel b l
  | .cond _ a _, 0 :: l => sel a l
  | .cond _ _ b, _ :: l => sel b l
  | .block _ b, _ :: l => sel b l
  | .loop b, _ :: l => sel b l
  | c, _ => c
noncomputable def bodyOf (f : Func) : Code := match f.body with | some c => c | none => .skip
noncomputable def opsOf : Code → Array Oper
  | .region _ o _ => o
  | _ => #[]
noncomputable def operAt (c : Code) (i : Nat) : Oper := (opsOf c).getD i ⟨none, .alloc 0, 0, "", #[], none⟩

noncomputable def an66 : Ann := ⟨[.any, .any, .any], [], [], [], [], [], [], [], []⟩
noncomputable def sp68_0 : List (Nat × Mode) := [(0, .any), (13, .any), (14, .any)]
noncomputable def jn68_0 : List (Nat × Mode) := []
noncomputable def jn68_1 : List (Nat × Mode) := [(0, .any), (13, .any), (14, .any)]
noncomputable def an68 : Ann := ⟨[.any], [], [], [(4, sp68_0)], [(0, jn68_0), (1, jn68_1)], [(0, sp68_0)], [], [], []⟩
noncomputable def cd68_0 : Code := sel (bodyOf Try.f68) [1, 1, 0, 1]
noncomputable def bd68_0 : Code := sel (bodyOf Try.f68) [1, 1, 0, 1, 0, 0]
noncomputable def jn76_0 : List (Nat × Mode) := []
noncomputable def an76 : Ann := ⟨[.any, .any, (.lend (.int .u8))], [], [], [], [(0, jn76_0)], [], [], [], []⟩
noncomputable def an104 : Ann := ⟨[], [], [], [], [], [], [], [], []⟩
noncomputable def an71 : Ann := ⟨[(.lend (.prod (.int .i64) (.prod (.int .i64) .unit)))], [], [], [], [], [], [(1, [⟨[], []⟩, ⟨[], []⟩, ⟨[], []⟩, ⟨[], []⟩, ⟨[], []⟩, ⟨[], []⟩, ⟨[], []⟩, ⟨[], []⟩, ⟨[], []⟩, ⟨[], []⟩])], [], []⟩
noncomputable def sp45_0 : List (Nat × Mode) := [(0, .any), (1, .any), (13, .any), (14, .any), (15, .any)]
noncomputable def jn45_0 : List (Nat × Mode) := []
noncomputable def jn45_1 : List (Nat × Mode) := [(0, .any), (1, .any), (13, .any), (14, .any), (15, .any)]
noncomputable def jn45_2 : List (Nat × Mode) := [(0, .any), (1, .any), (13, .any), (14, .any), (15, .any)]
noncomputable def an45 : Ann := ⟨[(.lend (.prod (.int .i64) (.prod (.int .i64) .unit))), .any], [], [], [(6, sp45_0)], [(0, jn45_0), (1, jn45_1), (2, jn45_2)], [(0, sp45_0)], [(12, [⟨[], []⟩, ⟨[], []⟩, ⟨[], []⟩, ⟨[], []⟩, ⟨[131096], []⟩, ⟨[], []⟩, ⟨[], []⟩, ⟨[], []⟩, ⟨[], []⟩, ⟨[], []⟩, ⟨[], []⟩, ⟨[], []⟩, ⟨[], []⟩, ⟨[], []⟩])], [], []⟩
noncomputable def cd45_0 : Code := sel (bodyOf Try.f45) [1, 1, 1, 0, 1]
noncomputable def bd45_0 : Code := sel (bodyOf Try.f45) [1, 1, 1, 0, 1, 0, 0]
noncomputable def an30 : Ann := ⟨[(.cells [.any, .any, .any, (.lend (.int .u8)), .any, (.lend (.prod (.int .i64) (.prod (.int .i64) .unit))), .any, .any])], [], [], [], [], [], [], [], []⟩
noncomputable def sp67_1000013 : List (Nat × Mode) := [(3, .any), (25, .any)]
noncomputable def sp67_1000011 : List (Nat × Mode) := [(3, .any), (8, .any), (22, .any)]
noncomputable def sp67_1000009 : List (Nat × Mode) := [(3, .any), (8, .any), (18, .any)]
noncomputable def sp67_1000007 : List (Nat × Mode) := [(3, .any), (8, .any), (14, .any)]
noncomputable def sp67_1000005 : List (Nat × Mode) := [(3, .any), (8, .any), (9, .any)]
noncomputable def jn67_0 : List (Nat × Mode) := [(3, .any)]
noncomputable def fi67_13 : List (Nat × Mode) := [(3, .any)]
noncomputable def fi67_11 : List (Nat × Mode) := [(3, (.cells [.any, .any, .any, .any, .any, .any, .any, (.lend (.prod (.int .i64) (.prod (.int .i64) .unit))), .any]))]
noncomputable def fi67_9 : List (Nat × Mode) := [(3, .any)]
noncomputable def fi67_7 : List (Nat × Mode) := [(3, (.cells [.any, .any, .any, .any, .any, .any, (.lend (.int .u8)), .any, .any]))]
noncomputable def fi67_5 : List (Nat × Mode) := [(3, .any)]
noncomputable def an67 : Ann := ⟨[(.cells [.any, .any, .any, .any, .any, .any, (.lend (.int .u8)), (.lend (.prod (.int .i64) (.prod (.int .i64) .unit))), .any])], [], [], [], [(0, jn67_0)], [], [], [(13, sp67_1000013), (11, sp67_1000011), (9, sp67_1000009), (7, sp67_1000007), (5, sp67_1000005)], [(13, fi67_13), (11, fi67_11), (9, fi67_9), (7, fi67_7), (5, fi67_5)]⟩
noncomputable def cd67_1000013 : Code := sel (bodyOf Try.f67) [1, 1, 1, 0, 1, 0, 1, 1, 1, 1, 1, 1, 1, 1, 1]
noncomputable def cd67_1000011 : Code := sel (bodyOf Try.f67) [1, 1, 1, 0, 1, 0, 1, 1, 1, 1, 1, 1, 1]
noncomputable def cd67_1000009 : Code := sel (bodyOf Try.f67) [1, 1, 1, 0, 1, 0, 1, 1, 1, 1, 1]
noncomputable def cd67_1000007 : Code := sel (bodyOf Try.f67) [1, 1, 1, 0, 1, 0, 1, 1, 1]
noncomputable def cd67_1000005 : Code := sel (bodyOf Try.f67) [1, 1, 1, 0, 1, 0, 1]
noncomputable def an70 : Ann := ⟨[.any, .any, .any], [], [], [], [], [], [], [], []⟩
noncomputable def sp69_0 : List (Nat × Mode) := [(5, .any), (6, .any), (7, .any)]
noncomputable def jn69_0 : List (Nat × Mode) := []
noncomputable def jn69_1 : List (Nat × Mode) := [(5, .any), (6, .any), (7, .any)]
noncomputable def an69 : Ann := ⟨[(.lend (.int .i64))], [], [], [(2, sp69_0)], [(0, jn69_0), (1, jn69_1)], [(0, sp69_0)], [], [], []⟩
noncomputable def cd69_0 : Code := sel (bodyOf Try.f69) [1, 0, 1]
noncomputable def bd69_0 : Code := sel (bodyOf Try.f69) [1, 0, 1, 0, 0]
noncomputable def sp20_1000015 : List (Nat × Mode) := [(1, .any), (16, .any), (41, .any)]
noncomputable def jn20_0 : List (Nat × Mode) := []
noncomputable def jn20_1 : List (Nat × Mode) := []
noncomputable def fi20_15 : List (Nat × Mode) := []
noncomputable def an20 : Ann := ⟨[(.cells [.any, .any, .any, .any, .any, .any, (.lend (.int .u8)), (.lend (.prod (.int .i64) (.prod (.int .i64) .unit))), .any])], [], [], [], [(0, jn20_0), (1, jn20_1)], [], [(11, [⟨[], []⟩, ⟨[16384], []⟩, ⟨[], []⟩, ⟨[], []⟩, ⟨[16384], []⟩, ⟨[], []⟩, ⟨[], []⟩, ⟨[196656], []⟩, ⟨[], []⟩]), (13, [⟨[], []⟩, ⟨[16384], []⟩, ⟨[], []⟩, ⟨[], []⟩, ⟨[16384], []⟩, ⟨[], []⟩, ⟨[], []⟩, ⟨[229424], []⟩, ⟨[], []⟩])], [(15, sp20_1000015)], [(15, fi20_15)]⟩
noncomputable def cd20_1000015 : Code := sel (bodyOf Try.f20) [1, 1, 1, 1, 0, 1, 0, 1, 1, 1, 1, 1]
noncomputable def an80 : Ann := ⟨[(.cells [.any, .any, .any, (.lend (.int .u8)), .any, (.lend (.prod (.int .i64) (.prod (.int .i64) .unit))), .any, .any])], [], [], [], [], [], [(1, [⟨[], []⟩, ⟨[16384], []⟩, ⟨[], []⟩, ⟨[], []⟩, ⟨[16384], []⟩, ⟨[], []⟩, ⟨[], []⟩, ⟨[32785], [16384]⟩, ⟨[], []⟩, ⟨[32785, 32809], [16384]⟩])], [], []⟩
noncomputable def sp132_1000002 : List (Nat × Mode) := [(0, .any), (1, .any), (6, .any)]
noncomputable def sp132_1000005 : List (Nat × Mode) := [(0, .any), (1, .any), (16, .any)]
noncomputable def fi132_2 : List (Nat × Mode) := [(0, .any), (1, .any)]
noncomputable def fi132_5 : List (Nat × Mode) := [(0, (.trim (.prod (.int .i64) (.prod (.int .i64) .unit))))]
noncomputable def an132 : Ann := ⟨[.any, .any], [], [], [], [], [], [], [(2, sp132_1000002), (5, sp132_1000005)], [(2, fi132_2), (5, fi132_5)]⟩
noncomputable def cd132_1000002 : Code := sel (bodyOf Try.f132) [1, 0, 1]
noncomputable def cd132_1000005 : Code := sel (bodyOf Try.f132) [1, 1, 0, 1, 1]
noncomputable def sp114_1000007 : List (Nat × Mode) := [(0, .any), (3, .any), (9, .any), (10, .any), (11, .any), (20, .any)]
noncomputable def sp114_0 : List (Nat × Mode) := [(0, .any), (3, .any), (9, .any), (10, .any), (11, .any)]
noncomputable def sp114_2 : List (Nat × Mode) := [(6, .any), (25, .any), (26, .any), (27, .any)]
noncomputable def jn114_0 : List (Nat × Mode) := [(0, .any), (3, .any)]
noncomputable def jn114_1 : List (Nat × Mode) := [(0, .any), (3, .any), (9, .any), (10, .any), (11, .any)]
noncomputable def jn114_2 : List (Nat × Mode) := [(6, .any)]
noncomputable def jn114_3 : List (Nat × Mode) := [(6, .any), (25, .any), (26, .any), (27, .any)]
noncomputable def fi114_7 : List (Nat × Mode) := [(0, .any), (3, .any), (9, .any), (10, .any), (11, .any)]
noncomputable def an114 : Ann := ⟨[(.lend (.slice (.prod (.int .i64) (.prod (.int .i64) .unit))))], [], [], [(3, sp114_0), (11, sp114_2)], [(0, jn114_0), (1, jn114_1), (2, jn114_2), (3, jn114_3)], [(0, sp114_0), (2, sp114_2)], [], [(7, sp114_1000007)], [(7, fi114_7)]⟩
noncomputable def cd114_1000007 : Code := sel (bodyOf Try.f114) [1, 1, 0, 1, 0, 0, 1, 1, 0, 0, 1, 1, 1]
noncomputable def cd114_0 : Code := sel (bodyOf Try.f114) [1, 1, 0, 1]
noncomputable def bd114_0 : Code := sel (bodyOf Try.f114) [1, 1, 0, 1, 0, 0]
noncomputable def cd114_2 : Code := sel (bodyOf Try.f114) [1, 1, 1, 1, 0, 1]
noncomputable def bd114_2 : Code := sel (bodyOf Try.f114) [1, 1, 1, 1, 0, 1, 0, 0]
noncomputable def sp86_1000009 : List (Nat × Mode) := [(6, .any), (8, .any), (9, .any), (16, .any), (17, .any), (18, .any), (36, .any)]
noncomputable def sp86_0 : List (Nat × Mode) := [(6, (.own (.prod (.int .i64) (.prod (.int .i64) .unit)))), (16, .any), (17, .any), (18, .any)]
noncomputable def jn86_0 : List (Nat × Mode) := [(6, .any)]
noncomputable def jn86_1 : List (Nat × Mode) := [(6, .any), (16, .any), (17, .any), (18, .any)]
noncomputable def fi86_9 : List (Nat × Mode) := [(6, .any), (16, .any), (17, .any), (18, .any)]
noncomputable def an86 : Ann := ⟨[(.lend (.prod (.int .i64) (.prod (.int .i64) .unit))), (.lend (.prod (.int .i64) (.prod (.int .i64) .unit)))], [], [], [(5, sp86_0)], [(0, jn86_0), (1, jn86_1)], [(0, sp86_0)], [(8, [⟨[], []⟩, ⟨[], []⟩, ⟨[], []⟩, ⟨[], []⟩, ⟨[114704], []⟩, ⟨[1], []⟩, ⟨[], []⟩, ⟨[], []⟩, ⟨[1], []⟩, ⟨[], []⟩, ⟨[1], []⟩, ⟨[], []⟩, ⟨[], []⟩]), (9, [⟨[1], []⟩, ⟨[], []⟩, ⟨[], []⟩, ⟨[1], []⟩, ⟨[], []⟩, ⟨[], []⟩, ⟨[1], []⟩, ⟨[], []⟩, ⟨[1], []⟩, ⟨[], []⟩, ⟨[2], []⟩, ⟨[], []⟩, ⟨[1], []⟩, ⟨[], []⟩, ⟨[], [1]⟩])], [(9, sp86_1000009)], [(9, fi86_9)]⟩
noncomputable def cd86_1000009 : Code := sel (bodyOf Try.f86) [1, 1, 1, 1, 0, 1, 0, 0, 1, 1, 0, 0, 1, 1, 1]
noncomputable def cd86_0 : Code := sel (bodyOf Try.f86) [1, 1, 1, 1, 0, 1]
noncomputable def bd86_0 : Code := sel (bodyOf Try.f86) [1, 1, 1, 1, 0, 1, 0, 0]
noncomputable def an131 : Ann := ⟨[(.lend (.prod (.int .i64) (.prod (.int .i64) .unit))), .any], [(.lend (.prod (.int .i64) (.prod (.int .i64) .unit)))], [], [], [], [], [], [], []⟩
noncomputable def sp117_1000008 : List (Nat × Mode) := [(2, .any), (4, .any), (7, .any), (8, .any), (9, .any), (10, .any), (12, .any), (24, .any), (25, .any), (26, .any), (34, .any)]
noncomputable def sp117_0 : List (Nat × Mode) := [(2, .any), (4, .any), (7, .any), (8, .any), (9, .any), (10, (.own (.prod (.int .i64) (.prod (.int .i64) .unit)))), (24, .any), (25, .any), (26, .any)]
noncomputable def sp117_1000016 : List (Nat × Mode) := [(2, .any), (4, .any), (63, .any)]
noncomputable def jn117_0 : List (Nat × Mode) := [(2, .any), (4, .any), (7, .any), (8, .any), (9, .any), (10, .any)]
noncomputable def jn117_1 : List (Nat × Mode) := [(2, .any), (4, .any), (7, .any), (8, .any), (9, .any), (10, .any), (24, .any), (25, .any), (26, .any)]
noncomputable def fi117_8 : List (Nat × Mode) := [(2, .any), (4, .any), (7, .any), (8, .any), (9, .any), (10, (.own (.prod (.int .i64) (.prod (.int .i64) .unit)))), (24, .any), (25, .any), (26, .any)]
noncomputable def fi117_16 : List (Nat × Mode) := [(2, .any), (4, .any)]
noncomputable def an117 : Ann := ⟨[(.cells [.any, .any, .any, (.lend (.int .u8)), .any, (.lend (.prod (.int .i64) (.prod (.int .i64) .unit))), .any, .any]), (.lend (.prod (.int .i64) (.prod (.int .i64) .unit)))], [(.cells [.any, .any, .any, (.lend (.int .u8)), .any, (.lend (.prod (.int .i64) (.prod (.int .i64) .unit))), .any, .any]), .any], [], [(5, sp117_0)], [(0, jn117_0), (1, jn117_1)], [(0, sp117_0)], [], [(8, sp117_1000008), (16, sp117_1000016)], [(8, fi117_8), (16, fi117_16)]⟩
noncomputable def cd117_1000008 : Code := sel (bodyOf Try.f117) [1, 1, 1, 1, 0, 1, 0, 0, 1, 1, 0, 0, 1, 1]
noncomputable def cd117_0 : Code := sel (bodyOf Try.f117) [1, 1, 1, 1, 0, 1]
noncomputable def bd117_0 : Code := sel (bodyOf Try.f117) [1, 1, 1, 1, 0, 1, 0, 0]
noncomputable def cd117_1000016 : Code := sel (bodyOf Try.f117) [1, 1, 1, 1, 1, 1, 1, 1, 1, 0, 1]
noncomputable def sp90_1000008 : List (Nat × Mode) := [(2, .any), (4, .any), (43, .any)]
noncomputable def sp90_1000006 : List (Nat × Mode) := [(2, .any), (3, .any), (4, .any), (32, .any)]
noncomputable def jn90_0 : List (Nat × Mode) := [(2, .any), (4, .any)]
noncomputable def fi90_8 : List (Nat × Mode) := [(2, (.cells [.any, .any, .any, .any, .any, (.lend (.prod (.int .i64) (.prod (.int .i64) .unit))), .any, .any])), (4, .any)]
noncomputable def fi90_6 : List (Nat × Mode) := [(2, (.cells [.any, .any, .any, .any, .any, (.lend (.prod (.int .i64) (.prod (.int .i64) .unit))), .any, .any])), (4, .any)]
noncomputable def an90 : Ann := ⟨[(.cells [.any, .any, .any, (.lend (.int .u8)), .any, (.lend (.prod (.int .i64) (.prod (.int .i64) .unit))), .any, .any]), (.cells [.any, .any, .any, .any, .any, .any, (.lend (.int .u8)), (.lend (.prod (.int .i64) (.prod (.int .i64) .unit))), .any])], [], [], [], [(0, jn90_0)], [], [], [(8, sp90_1000008), (6, sp90_1000006)], [(8, fi90_8), (6, fi90_6)]⟩
noncomputable def cd90_1000008 : Code := sel (bodyOf Try.f90) [1, 1, 0, 0, 1, 1, 1, 1, 1]
noncomputable def cd90_1000006 : Code := sel (bodyOf Try.f90) [1, 1, 0, 0, 1, 1, 1]
noncomputable def an47 : Ann := ⟨[(.cells [.any, .any, .any, (.lend (.int .u8)), .any, (.lend (.prod (.int .i64) (.prod (.int .i64) .unit))), .any, .any]), (.cells [.any, .any, .any, .any, .any, .any, (.lend (.int .u8)), (.lend (.prod (.int .i64) (.prod (.int .i64) .unit))), .any])], [(.cells [.any, .any, .any, (.lend (.int .u8)), .any, (.lend (.prod (.int .i64) (.prod (.int .i64) .unit))), .any, .any]), .any], [], [], [], [], [(7, [⟨[16384], []⟩, ⟨[], []⟩, ⟨[16392], []⟩, ⟨[131081, 131082], []⟩, ⟨[131081, 131082], []⟩, ⟨[131081, 131082], []⟩, ⟨[131081, 131082], [16400]⟩, ⟨[], []⟩])], [], []⟩
noncomputable def an72 : Ann := ⟨[.any, .any, .any], [], [], [], [], [], [], [], []⟩
noncomputable def an105 : Ann := ⟨[.any, .any, .any], [], [], [], [], [], [], [], []⟩
noncomputable def sp74_0 : List (Nat × Mode) := [(0, .any), (3, .any)]
noncomputable def jn74_0 : List (Nat × Mode) := [(0, .any)]
noncomputable def jn74_1 : List (Nat × Mode) := [(0, .any), (3, .any)]
noncomputable def an74 : Ann := ⟨[.any], [], [], [(2, sp74_0)], [(0, jn74_0), (1, jn74_1)], [(0, sp74_0)], [], [], []⟩
noncomputable def cd74_0 : Code := sel (bodyOf Try.f74) [1, 0, 1]
noncomputable def bd74_0 : Code := sel (bodyOf Try.f74) [1, 0, 1, 0, 0]
noncomputable def an78 : Ann := ⟨[.any, .any, (.lend (.int .u8))], [], [], [], [], [], [], [], []⟩
noncomputable def an106 : Ann := ⟨[], [], [], [], [], [], [], [], []⟩
noncomputable def an75 : Ann := ⟨[(.lend (.prod (.int .i64) (.prod (.int .i64) .unit)))], [], [], [], [], [], [(1, [⟨[], []⟩, ⟨[], []⟩, ⟨[], []⟩, ⟨[], []⟩, ⟨[], []⟩, ⟨[], []⟩, ⟨[], []⟩, ⟨[], []⟩, ⟨[], []⟩, ⟨[], []⟩]), (2, [⟨[], []⟩, ⟨[], []⟩, ⟨[], []⟩, ⟨[], []⟩])], [], []⟩
noncomputable def sp46_0 : List (Nat × Mode) := [(0, .any), (1, .any), (5, .any)]
noncomputable def jn46_0 : List (Nat × Mode) := []
noncomputable def jn46_1 : List (Nat × Mode) := [(0, .any), (1, .any), (5, .any)]
noncomputable def an46 : Ann := ⟨[(.lend (.prod (.int .i64) (.prod (.int .i64) .unit))), .any], [], [], [(6, sp46_0)], [(0, jn46_0), (1, jn46_1)], [(0, sp46_0)], [(10, [⟨[], []⟩, ⟨[], []⟩, ⟨[], []⟩, ⟨[], []⟩, ⟨[], []⟩, ⟨[], []⟩, ⟨[], []⟩, ⟨[], []⟩, ⟨[], []⟩, ⟨[], []⟩, ⟨[], []⟩]), (12, [⟨[], []⟩, ⟨[], []⟩, ⟨[], []⟩, ⟨[], []⟩, ⟨[], []⟩, ⟨[], []⟩, ⟨[], []⟩, ⟨[], []⟩, ⟨[], []⟩, ⟨[], []⟩, ⟨[], []⟩, ⟨[], []⟩, ⟨[], []⟩, ⟨[], []⟩, ⟨[], []⟩, ⟨[], []⟩])], [], []⟩
noncomputable def cd46_0 : Code := sel (bodyOf Try.f46) [1, 1, 1, 0, 1]
noncomputable def bd46_0 : Code := sel (bodyOf Try.f46) [1, 1, 1, 0, 1, 0, 0]
noncomputable def an31 : Ann := ⟨[(.cells [.any, .any, .any, (.lend (.int .u8)), .any, (.lend (.prod (.int .i64) (.prod (.int .i64) .unit))), .any, .any])], [], [], [], [], [], [], [], []⟩
noncomputable def an73 : Ann := ⟨[(.cells [.any, .any, .any, .any, .any, .any, (.lend (.int .u8)), (.lend (.prod (.int .i64) (.prod (.int .i64) .unit))), .any])], [], [], [], [], [], [], [], []⟩
noncomputable def sp21_1000009 : List (Nat × Mode) := [(1, .any), (17, .any), (18, .any)]
noncomputable def sp21_1000015 : List (Nat × Mode) := [(1, .any), (17, .any), (40, .any)]
noncomputable def sp21_1000010 : List (Nat × Mode) := [(1, .any), (17, .any), (18, .any)]
noncomputable def jn21_0 : List (Nat × Mode) := []
noncomputable def fi21_9 : List (Nat × Mode) := [(1, .any), (17, .any), (18, .any)]
noncomputable def fi21_15 : List (Nat × Mode) := []
noncomputable def fi21_10 : List (Nat × Mode) := []
noncomputable def an21 : Ann := ⟨[(.cells [.any, .any, .any, .any, .any, .any, (.lend (.int .u8)), (.lend (.prod (.int .i64) (.prod (.int .i64) .unit))), .any])], [], [], [], [(0, jn21_0)], [], [], [(9, sp21_1000009), (15, sp21_1000015), (10, sp21_1000010)], [(9, fi21_9), (15, fi21_15), (10, fi21_10)]⟩
noncomputable def cd21_1000009 : Code := sel (bodyOf Try.f21) [1, 1, 1, 1, 0, 1, 0, 0, 1]
noncomputable def cd21_1000015 : Code := sel (bodyOf Try.f21) [1, 1, 1, 1, 0, 1, 0, 1, 1, 1]
noncomputable def cd21_1000010 : Code := sel (bodyOf Try.f21) [1, 1, 1, 1, 0, 1, 0, 1]
noncomputable def sp89_1000006 : List (Nat × Mode) := [(0, .any), (1, .any), (5, .any), (6, .any), (7, .any), (8, .any), (42, .any)]
noncomputable def sp89_1000012 : List (Nat × Mode) := [(0, .any), (1, .any), (5, .any), (6, .any), (7, .any), (8, .any), (9, .any), (69, .any)]
noncomputable def sp89_0 : List (Nat × Mode) := [(0, .any), (1, .any), (5, (.own (.prod (.int .i64) (.prod (.int .i64) .unit)))), (6, .any), (7, .any)]
noncomputable def jn89_0 : List (Nat × Mode) := [(5, .any)]
noncomputable def jn89_1 : List (Nat × Mode) := [(0, .any), (1, .any), (5, .any), (6, .any), (7, .any)]
noncomputable def fi89_6 : List (Nat × Mode) := [(0, .any), (1, .any), (5, .any), (6, .any), (7, .any), (8, .any)]
noncomputable def fi89_12 : List (Nat × Mode) := [(0, .any), (1, .any), (5, .any), (6, .any), (7, .any)]
noncomputable def an89 : Ann := ⟨[(.lend (.prod (.int .i64) (.prod (.int .i64) .unit))), (.lend (.prod (.int .i64) (.prod (.int .i64) .unit)))], [], [], [(3, sp89_0)], [(0, jn89_0), (1, jn89_1)], [(0, sp89_0)], [(5, [⟨[], []⟩, ⟨[], []⟩, ⟨[], []⟩, ⟨[], []⟩, ⟨[], []⟩, ⟨[], []⟩, ⟨[], []⟩, ⟨[], []⟩, ⟨[], []⟩, ⟨[], []⟩, ⟨[], []⟩, ⟨[], []⟩, ⟨[], []⟩, ⟨[], []⟩, ⟨[], []⟩, ⟨[], []⟩, ⟨[], []⟩, ⟨[], []⟩, ⟨[], []⟩, ⟨[], []⟩, ⟨[], []⟩, ⟨[], []⟩, ⟨[], []⟩]), (11, [⟨[], []⟩, ⟨[], []⟩, ⟨[], []⟩, ⟨[], []⟩, ⟨[2], []⟩, ⟨[1], []⟩, ⟨[], []⟩, ⟨[], []⟩, ⟨[1], []⟩, ⟨[], []⟩, ⟨[1], []⟩, ⟨[], []⟩, ⟨[], []⟩]), (12, [⟨[1], []⟩, ⟨[], []⟩, ⟨[], []⟩, ⟨[1], []⟩, ⟨[], []⟩, ⟨[], []⟩, ⟨[1], []⟩, ⟨[], []⟩, ⟨[1], []⟩, ⟨[], []⟩, ⟨[2], []⟩, ⟨[], []⟩, ⟨[1], []⟩, ⟨[], []⟩, ⟨[], [1]⟩])], [(6, sp89_1000006), (12, sp89_1000012)], [(6, fi89_6), (12, fi89_12)]⟩
noncomputable def cd89_1000006 : Code := sel (bodyOf Try.f89) [1, 1, 1, 0, 0, 0, 1, 0, 1, 0, 1]
noncomputable def cd89_1000012 : Code := sel (bodyOf Try.f89) [1, 1, 1, 0, 0, 0, 1, 0, 1, 1, 1, 1]
noncomputable def cd89_0 : Code := sel (bodyOf Try.f89) [1, 1, 1, 0]
noncomputable def bd89_0 : Code := sel (bodyOf Try.f89) [1, 1, 1, 0, 0, 0]
noncomputable def sp118_1000003 : List (Nat × Mode) := [(1, .any), (5, .any), (6, .any)]
noncomputable def fi118_3 : List (Nat × Mode) := [(1, .any), (5, (.own (.prod (.int .i64) (.prod (.int .i64) .unit))))]
noncomputable def an118 : Ann := ⟨[.any, (.lend (.prod (.int .i64) (.prod (.int .i64) .unit)))], [], [], [], [], [], [], [(3, sp118_1000003)], [(3, fi118_3)]⟩
noncomputable def cd118_1000003 : Code := sel (bodyOf Try.f118) [1, 1, 0, 1]
noncomputable def sp91_1000012 : List (Nat × Mode) := [(2, .any), (4, .any), (6, .any), (7, .any), (8, .any), (9, .any), (10, .any), (11, .any), (58, .any)]
noncomputable def sp91_1 : List (Nat × Mode) := [(2, .any), (4, .any), (6, .any), (7, .any), (8, .any), (9, .any), (10, (.own (.prod (.int .i64) (.prod (.int .i64) .unit)))), (11, .any)]
noncomputable def sp91_1000019 : List (Nat × Mode) := [(2, .any), (4, .any), (89, .any)]
noncomputable def sp91_1000023 : List (Nat × Mode) := [(2, .any), (4, .any), (98, .any)]
noncomputable def sp91_1000025 : List (Nat × Mode) := [(2, .any), (4, .any), (100, .any)]
noncomputable def sp91_1000021 : List (Nat × Mode) := [(2, .any), (3, .any), (4, .any), (30, .any), (92, .any)]
noncomputable def sp91_1000005 : List (Nat × Mode) := [(2, .any), (3, .any), (4, .any), (30, .any), (31, .any)]
noncomputable def jn91_0 : List (Nat × Mode) := [(2, .any), (4, .any)]
noncomputable def jn91_1 : List (Nat × Mode) := [(2, .any), (4, .any), (6, .any), (7, .any), (8, .any), (10, .any)]
noncomputable def jn91_2 : List (Nat × Mode) := [(2, .any), (4, .any), (6, .any), (7, .any), (8, .any), (9, .any), (10, .any), (11, .any)]
noncomputable def fi91_12 : List (Nat × Mode) := [(2, .any), (4, .any), (6, .any), (7, .any), (8, .any), (9, .any), (10, (.own (.prod (.int .i64) (.prod (.int .i64) .unit)))), (11, .any)]
noncomputable def fi91_19 : List (Nat × Mode) := [(2, .any), (4, .any)]
noncomputable def fi91_23 : List (Nat × Mode) := [(2, .any), (4, .any)]
noncomputable def fi91_25 : List (Nat × Mode) := [(2, (.cells [.any, .any, .any, .any, .any, (.lend (.prod (.int .i64) (.prod (.int .i64) .unit))), .any, .any])), (4, .any)]
noncomputable def fi91_21 : List (Nat × Mode) := [(2, (.cells [.any, .any, .any, .any, .any, (.lend (.prod (.int .i64) (.prod (.int .i64) .unit))), .any, .any])), (4, .any)]
noncomputable def fi91_5 : List (Nat × Mode) := [(2, (.cells [.any, .any, .any, .any, .any, (.lend (.prod (.int .i64) (.prod (.int .i64) .unit))), .any, .any])), (4, .any)]
noncomputable def an91 : Ann := ⟨[(.cells [.any, .any, .any, (.lend (.int .u8)), .any, (.lend (.prod (.int .i64) (.prod (.int .i64) .unit))), .any, .any]), (.cells [.any, .any, .any, .any, .any, .any, (.lend (.int .u8)), (.lend (.prod (.int .i64) (.prod (.int .i64) .unit))), .any])], [(.cells [.any, .any, .any, (.lend (.int .u8)), .any, (.lend (.prod (.int .i64) (.prod (.int .i64) .unit))), .any, .any]), .any], [], [(9, sp91_1)], [(0, jn91_0), (1, jn91_1), (2, jn91_2)], [(1, sp91_1)], [(11, [⟨[], []⟩, ⟨[], []⟩, ⟨[], []⟩, ⟨[], []⟩, ⟨[], []⟩, ⟨[], []⟩, ⟨[1], []⟩, ⟨[], []⟩])], [(12, sp91_1000012), (19, sp91_1000019), (23, sp91_1000023), (25, sp91_1000025), (21, sp91_1000021), (5, sp91_1000005)], [(12, fi91_12), (19, fi91_19), (23, fi91_23), (25, fi91_25), (21, fi91_21), (5, fi91_5)]⟩
noncomputable def cd91_1000012 : Code := sel (bodyOf Try.f91) [1, 1, 0, 1, 0, 1, 0, 1, 1, 1, 0, 1, 0, 0, 1, 0, 0, 1]
noncomputable def cd91_1 : Code := sel (bodyOf Try.f91) [1, 1, 0, 1, 0, 1, 0, 1, 1, 1, 0, 1]
noncomputable def bd91_1 : Code := sel (bodyOf Try.f91) [1, 1, 0, 1, 0, 1, 0, 1, 1, 1, 0, 1, 0, 0]
noncomputable def cd91_1000019 : Code := sel (bodyOf Try.f91) [1, 1, 0, 1, 0, 1, 0, 1, 1, 1, 1, 1, 1, 1, 1, 1]
noncomputable def cd91_1000023 : Code := sel (bodyOf Try.f91) [1, 1, 0, 1, 0, 1, 1, 1, 0, 1, 1]
noncomputable def cd91_1000025 : Code := sel (bodyOf Try.f91) [1, 1, 0, 1, 0, 1, 1, 1, 1, 1]
noncomputable def cd91_1000021 : Code := sel (bodyOf Try.f91) [1, 1, 0, 1, 0, 1, 1, 1]
noncomputable def cd91_1000005 : Code := sel (bodyOf Try.f91) [1, 1, 0, 1, 0, 1]
noncomputable def an48 : Ann := ⟨[(.cells [.any, .any, .any, (.lend (.int .u8)), .any, (.lend (.prod (.int .i64) (.prod (.int .i64) .unit))), .any, .any]), (.cells [.any, .any, .any, .any, .any, .any, (.lend (.int .u8)), (.lend (.prod (.int .i64) (.prod (.int .i64) .unit))), .any])], [(.cells [.any, .any, .any, (.lend (.int .u8)), .any, (.lend (.prod (.int .i64) (.prod (.int .i64) .unit))), .any, .any]), .any], [], [], [], [], [], [], []⟩
noncomputable def sp49_1000007 : List (Nat × Mode) := [(1, .any), (2, .any), (17, .any)]
noncomputable def fi49_7 : List (Nat × Mode) := [(1, .any), (2, .any)]
noncomputable def an49 : Ann := ⟨[(.cells [.any, .any, .any, (.lend (.int .u8)), .any, (.lend (.prod (.int .i64) (.prod (.int .i64) .unit))), .any, .any])], [(.cells [.any, .any, .any, (.own (.int .u8)), .any, (.own (.prod (.int .i64) (.prod (.int .i64) .unit))), .any, .any]), .any], [], [], [], [], [], [(7, sp49_1000007)], [(7, fi49_7)]⟩
noncomputable def cd49_1000007 : Code := sel (bodyOf Try.f49) [1, 1, 1, 1, 0, 1]
noncomputable def sp50_1000006 : List (Nat × Mode) := [(1, .any), (2, .any), (15, .any)]
noncomputable def fi50_6 : List (Nat × Mode) := [(1, .any), (2, .any)]
noncomputable def an50 : Ann := ⟨[(.cells [.any, .any, .any, (.lend (.int .u8)), .any, (.lend (.prod (.int .i64) (.prod (.int .i64) .unit))), .any, .any])], [(.cells [.any, .any, .any, (.lend (.int .u8)), .any, (.lend (.prod (.int .i64) (.prod (.int .i64) .unit))), .any, .any]), .any], [], [], [], [], [], [(6, sp50_1000006)], [(6, fi50_6)]⟩
noncomputable def cd50_1000006 : Code := sel (bodyOf Try.f50) [1, 1, 1, 0, 1]
noncomputable def an51 : Ann := ⟨[(.lend (.int .u8)), (.lend (.int .u8))], [], [], [], [], [], [], [], []⟩
noncomputable def sp40_0 : List (Nat × Mode) := [(0, .any), (1, .any), (12, .any), (13, .any)]
noncomputable def jn40_0 : List (Nat × Mode) := []
noncomputable def jn40_1 : List (Nat × Mode) := [(0, .any), (1, .any), (12, .any), (13, .any)]
noncomputable def an40 : Ann := ⟨[(.lend (.prod (.int .i64) (.prod (.int .i64) .unit))), (.lend (.prod (.int .i64) (.prod (.int .i64) .unit)))], [], [], [(4, sp40_0)], [(0, jn40_0), (1, jn40_1)], [(0, sp40_0)], [(6, [⟨[], []⟩, ⟨[], []⟩, ⟨[], []⟩, ⟨[], []⟩, ⟨[], []⟩, ⟨[], []⟩, ⟨[], []⟩, ⟨[], []⟩, ⟨[], []⟩])], [], []⟩
noncomputable def cd40_0 : Code := sel (bodyOf Try.f40) [1, 1, 0, 1]
noncomputable def bd40_0 : Code := sel (bodyOf Try.f40) [1, 1, 0, 1, 0, 0]
noncomputable def an29 : Ann := ⟨[(.cells [.any, .any, .any, (.lend (.int .u8)), .any, (.lend (.prod (.int .i64) (.prod (.int .i64) .unit))), .any, .any]), (.cells [.any, .any, .any, (.lend (.int .u8)), .any, (.lend (.prod (.int .i64) (.prod (.int .i64) .unit))), .any, .any])], [], [], [], [], [], [], [], []⟩
noncomputable def sp64_0 : List (Nat × Mode) := [(3, .any), (6, .any), (7, .any), (8, .any)]
noncomputable def jn64_0 : List (Nat × Mode) := [(3, .any)]
noncomputable def jn64_1 : List (Nat × Mode) := [(3, .any), (6, .any), (7, .any), (8, .any)]
noncomputable def an64 : Ann := ⟨[(.lend (.int .u8))], [], [], [(3, sp64_0)], [(0, jn64_0), (1, jn64_1)], [(0, sp64_0)], [], [], []⟩
noncomputable def cd64_0 : Code := sel (bodyOf Try.f64) [1, 1, 0, 1]
noncomputable def bd64_0 : Code := sel (bodyOf Try.f64) [1, 1, 0, 1, 0, 0]
noncomputable def an18 : Ann := ⟨[(.lend (.int .u8))], [], [], [], [], [], [], [], []⟩
noncomputable def an24 : Ann := ⟨[], [], [], [], [], [], [], [], []⟩
noncomputable def an9 : Ann := ⟨[(.cells [.any, .any, .any, (.lend (.int .u8)), .any, (.lend (.prod (.int .i64) (.prod (.int .i64) .unit))), .any, .any]), (.cells [.any, .any, .any, .any, .any, .any, (.lend (.int .u8)), (.lend (.prod (.int .i64) (.prod (.int .i64) .unit))), .any])], [], [], [], [], [], [], [], []⟩
noncomputable def an22 : Ann := ⟨[.any], [], [], [], [], [], [], [], []⟩
noncomputable def an107 : Ann := ⟨[(.cells [.any, .any, .any, (.lend (.int .u8)), .any, (.lend (.prod (.int .i64) (.prod (.int .i64) .unit))), .any, .any])], [], [], [], [], [], [(1, [⟨[], []⟩, ⟨[16384], []⟩, ⟨[], []⟩, ⟨[16384], []⟩, ⟨[], []⟩, ⟨[], []⟩, ⟨[16384], []⟩, ⟨[], []⟩, ⟨[], []⟩, ⟨[], [16392]⟩])], [], []⟩
noncomputable def an128 : Ann := ⟨[(.cells [.any, .any, .any, (.lend (.int .u8)), .any, (.lend (.prod (.int .i64) (.prod (.int .i64) .unit))), .any, .any]), .any, .any], [], [], [], [], [], [(1, [⟨[], []⟩, ⟨[16384], []⟩, ⟨[], []⟩, ⟨[], []⟩, ⟨[16384], []⟩, ⟨[], []⟩, ⟨[], []⟩, ⟨[], []⟩, ⟨[], []⟩, ⟨[], []⟩, ⟨[], []⟩, ⟨[32849], []⟩, ⟨[32849], [16392]⟩])], [], []⟩
noncomputable def sp108_1000018 : List (Nat × Mode) := [(3, .any), (4, .any), (5, .any), (10, .any), (96, .any)]
noncomputable def jn108_0 : List (Nat × Mode) := [(2, .any), (3, .any), (4, .any), (5, .any)]
noncomputable def fi108_18 : List (Nat × Mode) := [(3, (.cells [.any, .any, .any, .any, .any, (.trim (.prod (.int .i64) (.prod (.int .i64) .unit))), .any, .any])), (4, .any), (5, .any), (10, .any)]
noncomputable def an108 : Ann := ⟨[.any, (.cells [.any, .any, .any, (.lend (.int .u8)), .any, (.lend (.prod (.int .i64) (.prod (.int .i64) .unit))), .any, .any])], [(.cells [.any, .any, .any, .any, .any, (.lend (.prod (.int .i64) (.prod (.int .i64) .unit))), .any, .any]), (.cells [.any, .any, .any, .any, .any, .any, (.own (.int .u8)), .any, .any])], [], [], [(0, jn108_0)], [], [(6, [⟨[16392], []⟩, ⟨[49216], []⟩, ⟨[], [16400]⟩, ⟨[], [16408]⟩]), (7, [⟨[], []⟩, ⟨[], []⟩, ⟨[], []⟩, ⟨[16392], []⟩, ⟨[], []⟩, ⟨[], []⟩, ⟨[], []⟩, ⟨[], []⟩, ⟨[], []⟩, ⟨[], []⟩]), (10, [⟨[16392, 147481], []⟩, ⟨[49216], []⟩, ⟨[147481], [16400]⟩, ⟨[], [16408]⟩]), (17, [⟨[], []⟩, ⟨[16392, 262161], []⟩, ⟨[262161], []⟩, ⟨[], []⟩, ⟨[262161], []⟩, ⟨[], []⟩, ⟨[213024], []⟩, ⟨[], []⟩]), (19, [⟨[1, 2], []⟩, ⟨[5, 6], []⟩, ⟨[2], [3]⟩, ⟨[6], [4]⟩]), (24, [⟨[16392], []⟩, ⟨[376865, 376872], []⟩, ⟨[], [16400]⟩, ⟨[376865], [16408]⟩]), (25, [⟨[], []⟩, ⟨[1], []⟩, ⟨[], []⟩, ⟨[], [2]⟩, ⟨[], []⟩, ⟨[], [2]⟩]), (26, [⟨[2], []⟩, ⟨[2], []⟩, ⟨[], []⟩, ⟨[], [3]⟩, ⟨[], [4]⟩])], [(18, sp108_1000018)], [(18, fi108_18)]⟩
noncomputable def cd108_1000018 : Code := sel (bodyOf Try.f108) [1, 1, 1, 0, 0, 1, 1, 1, 1, 1, 0, 1, 1, 1, 1, 0, 1, 1]
noncomputable def sp79_0 : List (Nat × Mode) := [(2, .any), (3, .any), (4, .any), (6, (.own (.prod (.int .i64) (.prod (.int .i64) (.prod .str (.prod (.int .i64) (.prod (.int .i64) (.prod (.int .i64) (.prod (.slice (.int .u8)) (.prod (.slice (.prod (.int .i64) (.prod (.int .i64) .unit))) (.prod .bool .unit)))))))))))]
noncomputable def jn79_0 : List (Nat × Mode) := [(3, .any), (4, .any), (6, .any)]
noncomputable def jn79_1 : List (Nat × Mode) := [(2, .any), (3, .any), (4, .any), (6, .any)]
noncomputable def an79 : Ann := ⟨[.any, (.cells [.any, .any, .any, (.lend (.int .u8)), .any, (.lend (.prod (.int .i64) (.prod (.int .i64) .unit))), .any, .any])], [.any, (.own (.prod (.int .i64) (.prod (.int .i64) (.prod .str (.prod (.int .i64) (.prod (.int .i64) (.prod (.int .i64) (.prod (.slice (.int .u8)) (.prod (.slice (.prod (.int .i64) (.prod (.int .i64) .unit))) (.prod .bool .unit))))))))))], [], [(12, sp79_0)], [(0, jn79_0), (1, jn79_1)], [(0, sp79_0)], [(7, [⟨[16392], []⟩, ⟨[], []⟩, ⟨[16392], []⟩, ⟨[], []⟩, ⟨[], []⟩, ⟨[], [16400]⟩, ⟨[131104], []⟩]), (10, [⟨[16392], []⟩, ⟨[16392], []⟩, ⟨[], []⟩, ⟨[], []⟩, ⟨[], [16400]⟩, ⟨[180248], []⟩])], [], []⟩
noncomputable def cd79_0 : Code := sel (bodyOf Try.f79) [1, 1, 1, 0]
noncomputable def bd79_0 : Code := sel (bodyOf Try.f79) [1, 1, 1, 0, 0, 0]
noncomputable def an27 : Ann := ⟨[.any, (.cells [.any, .any, .any, (.lend (.int .u8)), .any, (.lend (.prod (.int .i64) (.prod (.int .i64) .unit))), .any, .any])], [(.cells [.any, .any, .any, (.lend (.int .u8)), .any, (.lend (.prod (.int .i64) (.prod (.int .i64) .unit))), .any, .any]), (.own (.prod (.int .i64) (.prod (.int .i64) (.prod .str (.prod (.int .i64) (.prod (.int .i64) (.prod (.int .i64) (.prod (.slice (.int .u8)) (.prod (.slice (.prod (.int .i64) (.prod (.int .i64) .unit))) (.prod .bool .unit)))))))))), .any], [], [], [], [], [(7, [⟨[16384], []⟩, ⟨[16392], []⟩, ⟨[], []⟩, ⟨[131089, 131090], []⟩, ⟨[131089, 131090, 131097], []⟩, ⟨[131089, 131090], []⟩, ⟨[131089, 131090, 131097], []⟩, ⟨[131089, 131090], [16392]⟩, ⟨[131097], []⟩])], [], []⟩
noncomputable def sp10_0 : List (Nat × Mode) := [(4, .any), (5, .any), (8, .any), (9, .any), (10, .any)]
noncomputable def sp10_1000003 : List (Nat × Mode) := [(3, .any), (4, .any), (5, .any), (7, .any), (8, .any), (9, .any), (23, .any)]
noncomputable def jn10_0 : List (Nat × Mode) := [(4, .any), (5, .any), (8, .any), (9, .any)]
noncomputable def jn10_1 : List (Nat × Mode) := [(4, .any), (5, .any), (8, .any), (9, .any), (10, .any)]
noncomputable def fi10_3 : List (Nat × Mode) := [(4, .any), (5, .any), (8, .any), (9, .any)]
noncomputable def an10 : Ann := ⟨[.any, (.cells [.any, .any, .any, (.lend (.int .u8)), .any, (.lend (.prod (.int .i64) (.prod (.int .i64) .unit))), .any, .any]), (.cells [.any, .any, .any, .any, .any, .any, (.lend (.int .u8)), (.lend (.prod (.int .i64) (.prod (.int .i64) .unit))), .any])], [], [], [(6, sp10_0)], [(0, jn10_0), (1, jn10_1)], [(0, sp10_0)], [(8, [⟨[3], []⟩, ⟨[], []⟩, ⟨[3], []⟩, ⟨[3], []⟩, ⟨[], []⟩, ⟨[], []⟩, ⟨[], []⟩, ⟨[3], []⟩, ⟨[], []⟩, ⟨[3], []⟩, ⟨[], []⟩, ⟨[3], []⟩, ⟨[], []⟩, ⟨[1], []⟩, ⟨[], []⟩, ⟨[], []⟩])], [(3, sp10_1000003)], [(3, fi10_3)]⟩
noncomputable def cd10_0 : Code := sel (bodyOf Try.f10) [1, 1, 0, 1, 0, 1, 1]
noncomputable def bd10_0 : Code := sel (bodyOf Try.f10) [1, 1, 0, 1, 0, 1, 1, 0, 0]
noncomputable def cd10_1000003 : Code := sel (bodyOf Try.f10) [1, 1, 0, 1]
end Go.Proofs.Ytlcklflbhhnnhaa.PM
