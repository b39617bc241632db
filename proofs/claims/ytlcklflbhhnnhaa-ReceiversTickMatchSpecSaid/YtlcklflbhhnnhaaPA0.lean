/- Annotations, and the equations of the loops (printed by a program of this work). -/
import Derived.Test.YtlcklflbhhnnhaaPT1
import Derived.Test.YtlcklflbhhnnhaaPmZ
import Derived.Test.YtlcklflbhhnnhaaPmSh
import Derived.Test.YtlcklflbhhnnhaaProg
import Derived.KernelRfl
set_option linter.unusedVariables false
set_option linter.unusedSimpArgs false
set_option maxRecDepth 100000
namespace Go.Proofs.Ytlcklflbhhnnhaa.PM
open Go
noncomputable def T : TT := [(3, ⟨.int .i64, 1, 8, [.int .i64 0], some (.int .i64)⟩),
  (4, ⟨.bool, 1, 1, [.bool false], some .bool⟩),
  (5, ⟨.int .u8, 1, 1, [.int .u8 0], some (.int .u8)⟩),
  (9, ⟨.str, 1, 16, [.string ⟨#[]⟩], some .str⟩),
  (22, ⟨.slice 5, 1, 24, [.slice none 0 0], some (.slice (.int .u8))⟩),
  (23, ⟨.slice 59, 1, 24, [.slice none 0 0], some (.slice (.prod (.int .i64) (.prod (.int .i64) .unit)))⟩),
  (25, ⟨.struct [(3, 0), (3, 1), (9, 2), (3, 3), (3, 4), (3, 5), (22, 6), (23, 7), (4, 8)], 9, 112, [.int .i64 0, .int .i64 0, .string ⟨#[]⟩, .int .i64 0, .int .i64 0, .int .i64 0, .slice none 0 0, .slice none 0 0, .bool false], some (.prod (.int .i64) (.prod (.int .i64) (.prod .str (.prod (.int .i64) (.prod (.int .i64) (.prod (.int .i64) (.prod (.slice (.int .u8)) (.prod (.slice (.prod (.int .i64) (.prod (.int .i64) .unit))) (.prod .bool .unit)))))))))⟩),
  (27, ⟨.struct [(3, 0), (3, 1), (3, 2), (3, 3), (3, 4)], 5, 40, [.int .i64 0, .int .i64 0, .int .i64 0, .int .i64 0, .int .i64 0], some (.prod (.int .i64) (.prod (.int .i64) (.prod (.int .i64) (.prod (.int .i64) (.prod (.int .i64) .unit)))))⟩),
  (28, ⟨.int .i64, 1, 8, [.int .i64 0], some (.int .i64)⟩),
  (36, ⟨.struct [(3, 0), (3, 1), (9, 2), (22, 3), (3, 4), (23, 5), (3, 6), (3, 7)], 8, 104, [.int .i64 0, .int .i64 0, .string ⟨#[]⟩, .slice none 0 0, .int .i64 0, .slice none 0 0, .int .i64 0, .int .i64 0], some (.prod (.int .i64) (.prod (.int .i64) (.prod .str (.prod (.slice (.int .u8)) (.prod (.int .i64) (.prod (.slice (.prod (.int .i64) (.prod (.int .i64) .unit))) (.prod (.int .i64) (.prod (.int .i64) .unit))))))))⟩),
  (39, ⟨.slice 25, 1, 24, [.slice none 0 0], some (.slice (.prod (.int .i64) (.prod (.int .i64) (.prod .str (.prod (.int .i64) (.prod (.int .i64) (.prod (.int .i64) (.prod (.slice (.int .u8)) (.prod (.slice (.prod (.int .i64) (.prod (.int .i64) .unit))) (.prod .bool .unit))))))))))⟩),
  (48, ⟨.struct [(3, 0), (3, 1), (9, 2), (22, 3), (23, 4), (3, 5), (3, 6), (3, 7), (3, 8)], 9, 112, [.int .i64 0, .int .i64 0, .string ⟨#[]⟩, .slice none 0 0, .slice none 0 0, .int .i64 0, .int .i64 0, .int .i64 0, .int .i64 0], some (.prod (.int .i64) (.prod (.int .i64) (.prod .str (.prod (.slice (.int .u8)) (.prod (.slice (.prod (.int .i64) (.prod (.int .i64) .unit))) (.prod (.int .i64) (.prod (.int .i64) (.prod (.int .i64) (.prod (.int .i64) .unit)))))))))⟩),
  (59, ⟨.struct [(3, 0), (3, 1)], 2, 16, [.int .i64 0, .int .i64 0], some (.prod (.int .i64) (.prod (.int .i64) .unit))⟩),
  (123, ⟨.int .u64, 1, 8, [.int .u64 0], some (.int .u64)⟩),
  (124, ⟨.slice 28, 1, 24, [.slice none 0 0], some (.slice (.int .i64))⟩),
  (149, ⟨.slice 23, 1, 24, [.slice none 0 0], some (.slice (.slice (.prod (.int .i64) (.prod (.int .i64) .unit))))⟩)]
noncomputable def sel : Code → List Nat → Code
  | c, [] => c
  | .seq a _, 0 :: l => sel a l
  | .seq _ b, _ :: l => sel b l
  | .cond _ a _, 0 :: l => sel a l
  | .cond _ _ b, _ :: l => sel b l
  | .block _ b, _ :: l => sel b l
  | .loop b, _ :: l => sel b l
  | c, _ => c
noncomputable def bodyOf (f : Func) : Code := match f.body with | some c => c | none => .skip
noncomputable def opsOf : Code → Array Oper
  | .region _ o _ => o
  | _ => #[]
noncomputable def operAt (c : Code) (i : Nat) : Oper := (opsOf c).getD i ⟨none, .alloc 0, 0, "", #[], none⟩

noncomputable def sp64_0 : List (Nat × Mode) := [(3, .any), (6, .any), (7, .any), (8, .any)]
noncomputable def jn64_0 : List (Nat × Mode) := [(3, .any)]
noncomputable def jn64_1 : List (Nat × Mode) := [(3, .any), (6, .any), (7, .any), (8, .any)]
noncomputable def an64 : Ann := ⟨[(.lend (.int .u8))], [], [], [(3, sp64_0)], [(0, jn64_0), (1, jn64_1)], [(0, sp64_0)], [], [], []⟩
noncomputable def cd64_0 : Code := sel (bodyOf Try.f64) [1, 1, 0, 1]
noncomputable def bd64_0 : Code := sel (bodyOf Try.f64) [1, 1, 0, 1, 0, 0]
noncomputable def an18 : Ann := ⟨[(.lend (.int .u8))], [], [], [], [], [], [], [], []⟩
noncomputable def sp65_0 : List (Nat × Mode) := [(0, .any), (3, .any), (4, .any)]
noncomputable def jn65_0 : List (Nat × Mode) := [(3, .any)]
noncomputable def jn65_1 : List (Nat × Mode) := [(0, .any), (3, .any), (4, .any)]
noncomputable def an65 : Ann := ⟨[(.lend (.int .u8))], [], [], [(3, sp65_0)], [(0, jn65_0), (1, jn65_1)], [(0, sp65_0)], [], [], []⟩
noncomputable def cd65_0 : Code := sel (bodyOf Try.f65) [1, 1, 0, 1]
noncomputable def bd65_0 : Code := sel (bodyOf Try.f65) [1, 1, 0, 1, 0, 0]
noncomputable def an19 : Ann := ⟨[(.lend (.int .u8))], [], [], [], [], [], [], [], []⟩
noncomputable def an66 : Ann := ⟨[.any, .any, .any], [], [], [], [], [], [], [], []⟩
noncomputable def sp67_1000013 : List (Nat × Mode) := [(3, .any), (25, .any)]
noncomputable def sp67_1000011 : List (Nat × Mode) := [(3, .any), (8, .any), (22, .any)]
noncomputable def sp67_1000009 : List (Nat × Mode) := [(3, .any), (8, .any), (18, .any)]
noncomputable def sp67_1000007 : List (Nat × Mode) := [(3, .any), (8, .any), (14, .any)]
noncomputable def sp67_1000005 : List (Nat × Mode) := [(3, .any), (8, .any), (9, .any)]
noncomputable def jn67_0 : List (Nat × Mode) := [(3, .any)]
noncomputable def fi67_13 : List (Nat × Mode) := [(3, .any)]
noncomputable def fi67_11 : List (Nat × Mode) := [(3, (.cells [.any, .any, .any, .any, .any, .any, .any, (.lend (.prod (.int .i64) (.prod (.int .i64) .unit))), .any]))]
noncomputable def fi67_9 : List (Nat × Mode) := [(3, .any)]
noncomputable def fi67_7 : List (Nat × Mode) := [(3, (.cells [.any, .any, .any, .any, .any, .any, (.lend (.int .u8)), .any, .any]))]
noncomputable def fi67_5 : List (Nat × Mode) := [(3, .any)]
noncomputable def an67 : Ann := ⟨[(.cells [.any, .any, .any, .any, .any, .any, (.lend (.int .u8)), (.lend (.prod (.int .i64) (.prod (.int .i64) .unit))), .any])], [], [], [], [(0, jn67_0)], [], [], [(13, sp67_1000013), (11, sp67_1000011), (9, sp67_1000009), (7, sp67_1000007), (5, sp67_1000005)], [(13, fi67_13), (11, fi67_11), (9, fi67_9), (7, fi67_7), (5, fi67_5)]⟩
noncomputable def cd67_1000013 : Code := sel (bodyOf Try.f67) [1, 1, 1, 0, 1, 0, 1, 1, 1, 1, 1, 1, 1, 1, 1]
noncomputable def cd67_1000011 : Code := sel (bodyOf Try.f67) [1, 1, 1, 0, 1, 0, 1, 1, 1, 1, 1, 1, 1]
noncomputable def cd67_1000009 : Code := sel (bodyOf Try.f67) [1, 1, 1, 0, 1, 0, 1, 1, 1, 1, 1]
noncomputable def cd67_1000007 : Code := sel (bodyOf Try.f67) [1, 1, 1, 0, 1, 0, 1, 1, 1]
noncomputable def cd67_1000005 : Code := sel (bodyOf Try.f67) [1, 1, 1, 0, 1, 0, 1]
noncomputable def sp68_0 : List (Nat × Mode) := [(0, .any), (13, .any), (14, .any)]
noncomputable def jn68_0 : List (Nat × Mode) := []
noncomputable def jn68_1 : List (Nat × Mode) := [(0, .any), (13, .any), (14, .any)]
noncomputable def an68 : Ann := ⟨[.any], [], [], [(4, sp68_0)], [(0, jn68_0), (1, jn68_1)], [(0, sp68_0)], [], [], []⟩
noncomputable def cd68_0 : Code := sel (bodyOf Try.f68) [1, 1, 0, 1]
noncomputable def bd68_0 : Code := sel (bodyOf Try.f68) [1, 1, 0, 1, 0, 0]
noncomputable def an70 : Ann := ⟨[.any, .any, .any], [], [], [], [], [], [], [], []⟩
noncomputable def sp69_0 : List (Nat × Mode) := [(5, .any), (6, .any), (7, .any)]
noncomputable def jn69_0 : List (Nat × Mode) := []
noncomputable def jn69_1 : List (Nat × Mode) := [(5, .any), (6, .any), (7, .any)]
noncomputable def an69 : Ann := ⟨[(.lend (.int .i64))], [], [], [(2, sp69_0)], [(0, jn69_0), (1, jn69_1)], [(0, sp69_0)], [], [], []⟩
noncomputable def cd69_0 : Code := sel (bodyOf Try.f69) [1, 0, 1]
noncomputable def bd69_0 : Code := sel (bodyOf Try.f69) [1, 0, 1, 0, 0]
noncomputable def an104 : Ann := ⟨[], [], [], [], [], [], [], [], []⟩
noncomputable def an71 : Ann := ⟨[(.lend (.prod (.int .i64) (.prod (.int .i64) .unit)))], [], [], [], [], [], [(1, [⟨[], []⟩, ⟨[], []⟩, ⟨[], []⟩, ⟨[], []⟩, ⟨[], []⟩, ⟨[], []⟩, ⟨[], []⟩, ⟨[], []⟩, ⟨[], []⟩, ⟨[], []⟩])], [], []⟩
noncomputable def sp45_0 : List (Nat × Mode) := [(0, .any), (1, .any), (13, .any), (14, .any), (15, .any)]
noncomputable def jn45_0 : List (Nat × Mode) := []
noncomputable def jn45_1 : List (Nat × Mode) := [(0, .any), (1, .any), (13, .any), (14, .any), (15, .any)]
noncomputable def jn45_2 : List (Nat × Mode) := [(0, .any), (1, .any), (13, .any), (14, .any), (15, .any)]
noncomputable def an45 : Ann := ⟨[(.lend (.prod (.int .i64) (.prod (.int .i64) .unit))), .any], [], [], [(6, sp45_0)], [(0, jn45_0), (1, jn45_1), (2, jn45_2)], [(0, sp45_0)], [(12, [⟨[], []⟩, ⟨[], []⟩, ⟨[], []⟩, ⟨[], []⟩, ⟨[131096], []⟩, ⟨[], []⟩, ⟨[], []⟩, ⟨[], []⟩, ⟨[], []⟩, ⟨[], []⟩, ⟨[], []⟩, ⟨[], []⟩, ⟨[], []⟩, ⟨[], []⟩])], [], []⟩
noncomputable def cd45_0 : Code := sel (bodyOf Try.f45) [1, 1, 1, 0, 1]
noncomputable def bd45_0 : Code := sel (bodyOf Try.f45) [1, 1, 1, 0, 1, 0, 0]
noncomputable def sp20_1000015 : List (Nat × Mode) := [(1, .any), (16, .any), (41, .any)]
noncomputable def jn20_0 : List (Nat × Mode) := []
noncomputable def jn20_1 : List (Nat × Mode) := []
noncomputable def fi20_15 : List (Nat × Mode) := []
noncomputable def an20 : Ann := ⟨[(.cells [.any, .any, .any, .any, .any, .any, (.lend (.int .u8)), (.lend (.prod (.int .i64) (.prod (.int .i64) .unit))), .any])], [], [], [], [(0, jn20_0), (1, jn20_1)], [], [(11, [⟨[], []⟩, ⟨[16384], []⟩, ⟨[], []⟩, ⟨[], []⟩, ⟨[16384], []⟩, ⟨[], []⟩, ⟨[], []⟩, ⟨[196656], []⟩, ⟨[], []⟩]), (13, [⟨[], []⟩, ⟨[16384], []⟩, ⟨[], []⟩, ⟨[], []⟩, ⟨[16384], []⟩, ⟨[], []⟩, ⟨[], []⟩, ⟨[229424], []⟩, ⟨[], []⟩])], [(15, sp20_1000015)], [(15, fi20_15)]⟩
noncomputable def cd20_1000015 : Code := sel (bodyOf Try.f20) [1, 1, 1, 1, 0, 1, 0, 1, 1, 1, 1, 1]
noncomputable def an72 : Ann := ⟨[.any, .any, .any], [], [], [], [], [], [], [], []⟩
noncomputable def an73 : Ann := ⟨[(.cells [.any, .any, .any, .any, .any, .any, (.lend (.int .u8)), (.lend (.prod (.int .i64) (.prod (.int .i64) .unit))), .any])], [], [], [], [], [], [], [], []⟩
noncomputable def an105 : Ann := ⟨[.any, .any, .any], [], [], [], [], [], [], [], []⟩
noncomputable def sp74_0 : List (Nat × Mode) := [(0, .any), (3, .any)]
noncomputable def jn74_0 : List (Nat × Mode) := [(0, .any)]
noncomputable def jn74_1 : List (Nat × Mode) := [(0, .any), (3, .any)]
noncomputable def an74 : Ann := ⟨[.any], [], [], [(2, sp74_0)], [(0, jn74_0), (1, jn74_1)], [(0, sp74_0)], [], [], []⟩
noncomputable def cd74_0 : Code := sel (bodyOf Try.f74) [1, 0, 1]
noncomputable def bd74_0 : Code := sel (bodyOf Try.f74) [1, 0, 1, 0, 0]
noncomputable def an106 : Ann := ⟨[], [], [], [], [], [], [], [], []⟩
noncomputable def an75 : Ann := ⟨[(.lend (.prod (.int .i64) (.prod (.int .i64) .unit)))], [], [], [], [], [], [(1, [⟨[], []⟩, ⟨[], []⟩, ⟨[], []⟩, ⟨[], []⟩, ⟨[], []⟩, ⟨[], []⟩, ⟨[], []⟩, ⟨[], []⟩, ⟨[], []⟩, ⟨[], []⟩]), (2, [⟨[], []⟩, ⟨[], []⟩, ⟨[], []⟩, ⟨[], []⟩])], [], []⟩
noncomputable def sp46_0 : List (Nat × Mode) := [(0, .any), (1, .any), (5, .any)]
noncomputable def jn46_0 : List (Nat × Mode) := []
noncomputable def jn46_1 : List (Nat × Mode) := [(0, .any), (1, .any), (5, .any)]
noncomputable def an46 : Ann := ⟨[(.lend (.prod (.int .i64) (.prod (.int .i64) .unit))), .any], [], [], [(6, sp46_0)], [(0, jn46_0), (1, jn46_1)], [(0, sp46_0)], [(10, [⟨[], []⟩, ⟨[], []⟩, ⟨[], []⟩, ⟨[], []⟩, ⟨[], []⟩, ⟨[], []⟩, ⟨[], []⟩, ⟨[], []⟩, ⟨[], []⟩, ⟨[], []⟩, ⟨[], []⟩]), (12, [⟨[], []⟩, ⟨[], []⟩, ⟨[], []⟩, ⟨[], []⟩, ⟨[], []⟩, ⟨[], []⟩, ⟨[], []⟩, ⟨[], []⟩, ⟨[], []⟩, ⟨[], []⟩, ⟨[], []⟩, ⟨[], []⟩, ⟨[], []⟩, ⟨[], []⟩, ⟨[], []⟩, ⟨[], []⟩])], [], []⟩
noncomputable def cd46_0 : Code := sel (bodyOf Try.f46) [1, 1, 1, 0, 1]
noncomputable def bd46_0 : Code := sel (bodyOf Try.f46) [1, 1, 1, 0, 1, 0, 0]
noncomputable def sp21_1000009 : List (Nat × Mode) := [(1, .any), (17, .any), (18, .any)]
noncomputable def sp21_1000015 : List (Nat × Mode) := [(1, .any), (17, .any), (40, .any)]
noncomputable def sp21_1000010 : List (Nat × Mode) := [(1, .any), (17, .any), (18, .any)]
noncomputable def jn21_0 : List (Nat × Mode) := []
noncomputable def fi21_9 : List (Nat × Mode) := [(1, .any), (17, .any), (18, .any)]
noncomputable def fi21_15 : List (Nat × Mode) := []
noncomputable def fi21_10 : List (Nat × Mode) := []
noncomputable def an21 : Ann := ⟨[(.cells [.any, .any, .any, .any, .any, .any, (.lend (.int .u8)), (.lend (.prod (.int .i64) (.prod (.int .i64) .unit))), .any])], [], [], [], [(0, jn21_0)], [], [], [(9, sp21_1000009), (15, sp21_1000015), (10, sp21_1000010)], [(9, fi21_9), (15, fi21_15), (10, fi21_10)]⟩
noncomputable def cd21_1000009 : Code := sel (bodyOf Try.f21) [1, 1, 1, 1, 0, 1, 0, 0, 1]
noncomputable def cd21_1000015 : Code := sel (bodyOf Try.f21) [1, 1, 1, 1, 0, 1, 0, 1, 1, 1]
noncomputable def cd21_1000010 : Code := sel (bodyOf Try.f21) [1, 1, 1, 1, 0, 1, 0, 1]
noncomputable def an22 : Ann := ⟨[.any], [], [], [], [], [], [], [], []⟩
noncomputable def an23 : Ann := ⟨[.any], [], [], [], [], [], [], [], []⟩
noncomputable def an24 : Ann := ⟨[], [], [], [], [], [], [], [], []⟩
noncomputable def an3 : Ann := ⟨[(.lend (.int .u8)), (.cells [.any, .any, .any, .any, .any, .any, (.lend (.int .u8)), (.lend (.prod (.int .i64) (.prod (.int .i64) .unit))), .any]), .any], [], [], [], [], [], [(3, [⟨[], []⟩, ⟨[], []⟩, ⟨[], []⟩, ⟨[], []⟩, ⟨[], []⟩, ⟨[], []⟩, ⟨[], []⟩, ⟨[], []⟩, ⟨[], []⟩, ⟨[16384], []⟩, ⟨[], []⟩, ⟨[16384], []⟩, ⟨[], []⟩, ⟨[], []⟩, ⟨[], []⟩, ⟨[], []⟩, ⟨[16392], []⟩, ⟨[], []⟩, ⟨[16392], []⟩, ⟨[], []⟩, ⟨[], []⟩, ⟨[], []⟩, ⟨[], []⟩, ⟨[], []⟩, ⟨[], []⟩, ⟨[], []⟩])], [], []⟩
noncomputable def jn76_0 : List (Nat × Mode) := []
noncomputable def an76 : Ann := ⟨[.any, .any, (.lend (.int .u8))], [], [], [], [(0, jn76_0)], [], [], [], []⟩
noncomputable def an25 : Ann := ⟨[.any, .any, (.lend (.int .u8))], [(.cells [.any, .any, .any, (.own (.int .u8)), .any, .any, .any, .any]), .any], [], [], [], [], [], [], []⟩
noncomputable def an78 : Ann := ⟨[.any, .any, (.lend (.int .u8))], [], [], [], [], [], [], [], []⟩
noncomputable def an26 : Ann := ⟨[.any, .any, (.lend (.int .u8))], [(.cells [.any, .any, .any, (.own (.int .u8)), .any, .any, .any, .any]), .any], [], [], [], [], [], [], []⟩
noncomputable def an30 : Ann := ⟨[(.cells [.any, .any, .any, (.lend (.int .u8)), .any, (.lend (.prod (.int .i64) (.prod (.int .i64) .unit))), .any, .any])], [], [], [], [], [], [], [], []⟩
noncomputable def an80 : Ann := ⟨[(.cells [.any, .any, .any, (.lend (.int .u8)), .any, (.lend (.prod (.int .i64) (.prod (.int .i64) .unit))), .any, .any])], [], [], [], [], [], [(1, [⟨[], []⟩, ⟨[16384], []⟩, ⟨[], []⟩, ⟨[], []⟩, ⟨[16384], []⟩, ⟨[], []⟩, ⟨[], []⟩, ⟨[32785], [16384]⟩, ⟨[], []⟩, ⟨[32785, 32809], [16384]⟩])], [], []⟩
noncomputable def an107 : Ann := ⟨[(.cells [.any, .any, .any, (.lend (.int .u8)), .any, (.lend (.prod (.int .i64) (.prod (.int .i64) .unit))), .any, .any])], [], [], [], [], [], [(1, [⟨[], []⟩, ⟨[16384], []⟩, ⟨[], []⟩, ⟨[16384], []⟩, ⟨[], []⟩, ⟨[], []⟩, ⟨[16384], []⟩, ⟨[], []⟩, ⟨[], []⟩, ⟨[], [16392]⟩])], [], []⟩
noncomputable def an128 : Ann := ⟨[(.cells [.any, .any, .any, (.lend (.int .u8)), .any, (.lend (.prod (.int .i64) (.prod (.int .i64) .unit))), .any, .any]), .any, .any], [], [], [], [], [], [(1, [⟨[], []⟩, ⟨[16384], []⟩, ⟨[], []⟩, ⟨[], []⟩, ⟨[16384], []⟩, ⟨[], []⟩, ⟨[], []⟩, ⟨[], []⟩, ⟨[], []⟩, ⟨[], []⟩, ⟨[], []⟩, ⟨[32849], []⟩, ⟨[32849], [16392]⟩])], [], []⟩
noncomputable def sp108_1000018 : List (Nat × Mode) := [(3, .any), (4, .any), (5, .any), (10, .any), (96, .any)]
noncomputable def jn108_0 : List (Nat × Mode) := [(2, .any), (3, .any), (4, .any), (5, .any)]
noncomputable def fi108_18 : List (Nat × Mode) := [(3, (.cells [.any, .any, .any, .any, .any, (.trim (.prod (.int .i64) (.prod (.int .i64) .unit))), .any, .any])), (4, .any), (5, .any), (10, .any)]
noncomputable def an108 : Ann := ⟨[.any, (.cells [.any, .any, .any, (.lend (.int .u8)), .any, (.lend (.prod (.int .i64) (.prod (.int .i64) .unit))), .any, .any])], [(.cells [.any, .any, .any, .any, .any, (.lend (.prod (.int .i64) (.prod (.int .i64) .unit))), .any, .any]), (.cells [.any, .any, .any, .any, .any, .any, (.own (.int .u8)), .any, .any])], [], [], [(0, jn108_0)], [], [(6, [⟨[16392], []⟩, ⟨[49216], []⟩, ⟨[], [16400]⟩, ⟨[], [16408]⟩]), (7, [⟨[], []⟩, ⟨[], []⟩, ⟨[], []⟩, ⟨[16392], []⟩, ⟨[], []⟩, ⟨[], []⟩, ⟨[], []⟩, ⟨[], []⟩, ⟨[], []⟩, ⟨[], []⟩]), (10, [⟨[16392, 147481], []⟩, ⟨[49216], []⟩, ⟨[147481], [16400]⟩, ⟨[], [16408]⟩]), (17, [⟨[], []⟩, ⟨[16392, 262161], []⟩, ⟨[262161], []⟩, ⟨[], []⟩, ⟨[262161], []⟩, ⟨[], []⟩, ⟨[213024], []⟩, ⟨[], []⟩]), (19, [⟨[1, 2], []⟩, ⟨[5, 6], []⟩, ⟨[2], [3]⟩, ⟨[6], [4]⟩]), (24, [⟨[16392], []⟩, ⟨[376865, 376872], []⟩, ⟨[], [16400]⟩, ⟨[376865], [16408]⟩]), (25, [⟨[], []⟩, ⟨[1], []⟩, ⟨[], []⟩, ⟨[], [2]⟩, ⟨[], []⟩, ⟨[], [2]⟩]), (26, [⟨[2], []⟩, ⟨[2], []⟩, ⟨[], []⟩, ⟨[], [3]⟩, ⟨[], [4]⟩])], [(18, sp108_1000018)], [(18, fi108_18)]⟩
noncomputable def cd108_1000018 : Code := sel (bodyOf Try.f108) [1, 1, 1, 0, 0, 1, 1, 1, 1, 1, 0, 1, 1, 1, 1, 0, 1, 1]
noncomputable def sp79_0 : List (Nat × Mode) := [(2, .any), (3, .any), (4, .any), (6, (.own (.prod (.int .i64) (.prod (.int .i64) (.prod .str (.prod (.int .i64) (.prod (.int .i64) (.prod (.int .i64) (.prod (.slice (.int .u8)) (.prod (.slice (.prod (.int .i64) (.prod (.int .i64) .unit))) (.prod .bool .unit)))))))))))]
noncomputable def jn79_0 : List (Nat × Mode) := [(3, .any), (4, .any), (6, .any)]
noncomputable def jn79_1 : List (Nat × Mode) := [(2, .any), (3, .any), (4, .any), (6, .any)]
noncomputable def an79 : Ann := ⟨[.any, (.cells [.any, .any, .any, (.lend (.int .u8)), .any, (.lend (.prod (.int .i64) (.prod (.int .i64) .unit))), .any, .any])], [.any, (.own (.prod (.int .i64) (.prod (.int .i64) (.prod .str (.prod (.int .i64) (.prod (.int .i64) (.prod (.int .i64) (.prod (.slice (.int .u8)) (.prod (.slice (.prod (.int .i64) (.prod (.int .i64) .unit))) (.prod .bool .unit))))))))))], [], [(12, sp79_0)], [(0, jn79_0), (1, jn79_1)], [(0, sp79_0)], [(7, [⟨[16392], []⟩, ⟨[], []⟩, ⟨[16392], []⟩, ⟨[], []⟩, ⟨[], []⟩, ⟨[], [16400]⟩, ⟨[131104], []⟩]), (10, [⟨[16392], []⟩, ⟨[16392], []⟩, ⟨[], []⟩, ⟨[], []⟩, ⟨[], [16400]⟩, ⟨[180248], []⟩])], [], []⟩
noncomputable def cd79_0 : Code := sel (bodyOf Try.f79) [1, 1, 1, 0]
noncomputable def bd79_0 : Code := sel (bodyOf Try.f79) [1, 1, 1, 0, 0, 0]
noncomputable def an27 : Ann := ⟨[.any, (.cells [.any, .any, .any, (.lend (.int .u8)), .any, (.lend (.prod (.int .i64) (.prod (.int .i64) .unit))), .any, .any])], [(.cells [.any, .any, .any, (.lend (.int .u8)), .any, (.lend (.prod (.int .i64) (.prod (.int .i64) .unit))), .any, .any]), (.own (.prod (.int .i64) (.prod (.int .i64) (.prod .str (.prod (.int .i64) (.prod (.int .i64) (.prod (.int .i64) (.prod (.slice (.int .u8)) (.prod (.slice (.prod (.int .i64) (.prod (.int .i64) .unit))) (.prod .bool .unit)))))))))), .any], [], [], [], [], [(7, [⟨[16384], []⟩, ⟨[16392], []⟩, ⟨[], []⟩, ⟨[131089, 131090], []⟩, ⟨[131089, 131090, 131097], []⟩, ⟨[131089, 131090], []⟩, ⟨[131089, 131090, 131097], []⟩, ⟨[131089, 131090], [16392]⟩, ⟨[131097], []⟩])], [], []⟩
noncomputable def an31 : Ann := ⟨[(.cells [.any, .any, .any, (.lend (.int .u8)), .any, (.lend (.prod (.int .i64) (.prod (.int .i64) .unit))), .any, .any])], [], [], [], [], [], [], [], []⟩
noncomputable def an110 : Ann := ⟨[(.cells [.any, .any, .any, (.lend (.int .u8)), .any, (.lend (.prod (.int .i64) (.prod (.int .i64) .unit))), .any, .any])], [], [], [], [], [], [(1, [⟨[], []⟩, ⟨[16384], []⟩, ⟨[], []⟩, ⟨[16384], []⟩, ⟨[], []⟩, ⟨[], []⟩, ⟨[16384], []⟩, ⟨[], []⟩, ⟨[], []⟩, ⟨[], [16392]⟩])], [], []⟩
noncomputable def an129 : Ann := ⟨[(.cells [.any, .any, .any, (.lend (.int .u8)), .any, (.lend (.prod (.int .i64) (.prod (.int .i64) .unit))), .any, .any])], [], [], [], [], [], [(1, [⟨[], []⟩, ⟨[16384], []⟩, ⟨[], []⟩, ⟨[16384], []⟩, ⟨[], []⟩, ⟨[16384], []⟩, ⟨[], []⟩, ⟨[], []⟩, ⟨[16384], []⟩, ⟨[], []⟩, ⟨[], []⟩, ⟨[], [16392]⟩])], [], []⟩
noncomputable def sp118_1000003 : List (Nat × Mode) := [(1, .any), (5, .any), (6, .any)]
noncomputable def fi118_3 : List (Nat × Mode) := [(1, .any), (5, (.own (.prod (.int .i64) (.prod (.int .i64) .unit))))]
noncomputable def an118 : Ann := ⟨[.any, (.lend (.prod (.int .i64) (.prod (.int .i64) .unit)))], [], [], [], [], [], [], [(3, sp118_1000003)], [(3, fi118_3)]⟩
noncomputable def cd118_1000003 : Code := sel (bodyOf Try.f118) [1, 1, 0, 1]
noncomputable def an130 : Ann := ⟨[(.cells [.any, .any, .any, (.lend (.int .u8)), .any, (.lend (.prod (.int .i64) (.prod (.int .i64) .unit))), .any, .any]), .any, .any], [], [], [], [], [], [(2, [⟨[], []⟩, ⟨[32800], []⟩, ⟨[], []⟩, ⟨[16384], []⟩, ⟨[], []⟩, ⟨[], []⟩, ⟨[], []⟩, ⟨[], []⟩, ⟨[], []⟩, ⟨[49208], [32800]⟩])], [], []⟩
noncomputable def sp111_1000012 : List (Nat × Mode) := [(1, .any), (4, .any), (6, .any), (7, .any), (8, .any), (9, .any), (68, .any)]
noncomputable def jn111_0 : List (Nat × Mode) := [(1, .any), (2, .any), (4, .any)]
noncomputable def fi111_12 : List (Nat × Mode) := [(1, .any), (4, .any), (6, .any), (7, .any), (8, .any), (9, (.own (.prod (.int .i64) (.prod (.int .i64) .unit))))]
noncomputable def an111 : Ann := ⟨[.any, .any], [(.cells [.any, .any, .any, .any, .any, .any, (.own (.int .u8)), .any, .any]), (.cells [.any, .any, .any, .any, .any, (.lend (.prod (.int .i64) (.prod (.int .i64) .unit))), .any, .any])], [], [], [(0, jn111_0)], [], [(9, [⟨[], []⟩, ⟨[], []⟩, ⟨[], []⟩, ⟨[], []⟩, ⟨[], []⟩, ⟨[], []⟩, ⟨[], []⟩, ⟨[], []⟩, ⟨[], []⟩, ⟨[], []⟩, ⟨[], []⟩, ⟨[], []⟩, ⟨[], []⟩, ⟨[16384], []⟩, ⟨[], []⟩, ⟨[], []⟩, ⟨[], []⟩, ⟨[], []⟩]), (15, [⟨[], []⟩, ⟨[], []⟩, ⟨[], []⟩, ⟨[1], []⟩, ⟨[], []⟩, ⟨[], []⟩, ⟨[], []⟩, ⟨[1], []⟩, ⟨[], []⟩, ⟨[], []⟩, ⟨[], []⟩]), (17, [⟨[], []⟩, ⟨[], []⟩, ⟨[], []⟩, ⟨[], []⟩, ⟨[1], []⟩, ⟨[], []⟩, ⟨[], []⟩, ⟨[], []⟩, ⟨[16384], []⟩, ⟨[], []⟩, ⟨[], []⟩, ⟨[], []⟩, ⟨[], []⟩, ⟨[], [1]⟩]), (18, [⟨[], []⟩, ⟨[], []⟩, ⟨[1], []⟩, ⟨[], []⟩, ⟨[], []⟩, ⟨[], []⟩, ⟨[], []⟩, ⟨[1], []⟩, ⟨[], []⟩, ⟨[311361], [16392]⟩]), (19, [⟨[], []⟩, ⟨[], []⟩, ⟨[], []⟩, ⟨[2], []⟩, ⟨[], []⟩, ⟨[], []⟩, ⟨[], [1]⟩, ⟨[], []⟩, ⟨[], []⟩, ⟨[], [1]⟩])], [(12, sp111_1000012)], [(12, fi111_12)]⟩
noncomputable def cd111_1000012 : Code := sel (bodyOf Try.f111) [1, 1, 0, 0, 1, 1, 1, 1, 1, 0, 1, 1, 0, 1]
noncomputable def sp81_1 : List (Nat × Mode) := [(2, .any), (3, .any), (4, .any), (6, (.own (.prod (.int .i64) (.prod (.int .i64) (.prod .str (.prod (.int .i64) (.prod (.int .i64) (.prod (.int .i64) (.prod (.slice (.int .u8)) (.prod (.slice (.prod (.int .i64) (.prod (.int .i64) .unit))) (.prod .bool .unit)))))))))))]
noncomputable def sp81_1000014 : List (Nat × Mode) := [(2, .any), (3, .any), (4, .any), (6, .any), (46, .any)]
noncomputable def jn81_0 : List (Nat × Mode) := [(3, .any), (4, .any), (6, .any)]
noncomputable def jn81_1 : List (Nat × Mode) := [(3, .any), (4, .any), (6, .any)]
noncomputable def jn81_2 : List (Nat × Mode) := [(2, .any), (3, .any), (4, .any), (6, .any)]
noncomputable def fi81_14 : List (Nat × Mode) := [(3, .any), (4, .any), (6, (.own (.prod (.int .i64) (.prod (.int .i64) (.prod .str (.prod (.int .i64) (.prod (.int .i64) (.prod (.int .i64) (.prod (.slice (.int .u8)) (.prod (.slice (.prod (.int .i64) (.prod (.int .i64) .unit))) (.prod .bool .unit)))))))))))]
noncomputable def an81 : Ann := ⟨[.any, (.cells [.any, .any, .any, (.lend (.int .u8)), .any, (.lend (.prod (.int .i64) (.prod (.int .i64) .unit))), .any, .any])], [.any, (.own (.prod (.int .i64) (.prod (.int .i64) (.prod .str (.prod (.int .i64) (.prod (.int .i64) (.prod (.int .i64) (.prod (.slice (.int .u8)) (.prod (.slice (.prod (.int .i64) (.prod (.int .i64) .unit))) (.prod .bool .unit))))))))))], [], [(14, sp81_1)], [(0, jn81_0), (1, jn81_1), (2, jn81_2)], [(1, sp81_1)], [(9, [⟨[16392], []⟩, ⟨[], []⟩, ⟨[], []⟩, ⟨[16392], []⟩, ⟨[], []⟩, ⟨[], []⟩, ⟨[163880], []⟩, ⟨[], [16400]⟩, ⟨[163888], []⟩]), (12, [⟨[16392], []⟩, ⟨[], []⟩, ⟨[16392], []⟩, ⟨[], []⟩, ⟨[], []⟩, ⟨[213024], []⟩, ⟨[], [16400]⟩, ⟨[213032], []⟩])], [(14, sp81_1000014)], [(14, fi81_14)]⟩
noncomputable def cd81_1 : Code := sel (bodyOf Try.f81) [1, 1, 0, 1, 0, 1, 1, 1, 0]
noncomputable def bd81_1 : Code := sel (bodyOf Try.f81) [1, 1, 0, 1, 0, 1, 1, 1, 0, 0, 0]
noncomputable def cd81_1000014 : Code := sel (bodyOf Try.f81) [1, 1, 0, 1, 0, 1, 1, 1]
noncomputable def an28 : Ann := ⟨[.any, (.cells [.any, .any, .any, (.lend (.int .u8)), .any, (.lend (.prod (.int .i64) (.prod (.int .i64) .unit))), .any, .any])], [(.cells [.any, .any, .any, (.lend (.int .u8)), .any, (.lend (.prod (.int .i64) (.prod (.int .i64) .unit))), .any, .any]), (.own (.prod (.int .i64) (.prod (.int .i64) (.prod .str (.prod (.int .i64) (.prod (.int .i64) (.prod (.int .i64) (.prod (.slice (.int .u8)) (.prod (.slice (.prod (.int .i64) (.prod (.int .i64) .unit))) (.prod .bool .unit)))))))))), .any], [], [], [], [], [], [], []⟩
noncomputable def an51 : Ann := ⟨[(.lend (.int .u8)), (.lend (.int .u8))], [], [], [], [], [], [], [], []⟩
noncomputable def sp40_0 : List (Nat × Mode) := [(0, .any), (1, .any), (12, .any), (13, .any)]
noncomputable def jn40_0 : List (Nat × Mode) := []
noncomputable def jn40_1 : List (Nat × Mode) := [(0, .any), (1, .any), (12, .any), (13, .any)]
noncomputable def an40 : Ann := ⟨[(.lend (.prod (.int .i64) (.prod (.int .i64) .unit))), (.lend (.prod (.int .i64) (.prod (.int .i64) .unit)))], [], [], [(4, sp40_0)], [(0, jn40_0), (1, jn40_1)], [(0, sp40_0)], [(6, [⟨[], []⟩, ⟨[], []⟩, ⟨[], []⟩, ⟨[], []⟩, ⟨[], []⟩, ⟨[], []⟩, ⟨[], []⟩, ⟨[], []⟩, ⟨[], []⟩])], [], []⟩
noncomputable def cd40_0 : Code := sel (bodyOf Try.f40) [1, 1, 0, 1]
noncomputable def bd40_0 : Code := sel (bodyOf Try.f40) [1, 1, 0, 1, 0, 0]
noncomputable def an29 : Ann := ⟨[(.cells [.any, .any, .any, (.lend (.int .u8)), .any, (.lend (.prod (.int .i64) (.prod (.int .i64) .unit))), .any, .any]), (.cells [.any, .any, .any, (.lend (.int .u8)), .any, (.lend (.prod (.int .i64) (.prod (.int .i64) .unit))), .any, .any])], [], [], [], [], [], [], [], []⟩
noncomputable def an33 : Ann := ⟨[(.cells [.any, .any, .any, .any, .any, .any, (.lend (.int .u8)), (.lend (.prod (.int .i64) (.prod (.int .i64) .unit))), .any]), (.cells [.any, .any, .any, .any, .any, .any, (.lend (.int .u8)), (.lend (.prod (.int .i64) (.prod (.int .i64) .unit))), .any])], [], [], [], [], [], [], [], []⟩
noncomputable def sp32_0 : List (Nat × Mode) := [(1, .any), (2, .any), (15, .any), (16, .any), (17, .any)]
noncomputable def jn32_0 : List (Nat × Mode) := []
noncomputable def jn32_1 : List (Nat × Mode) := [(1, .any), (2, .any), (15, .any), (16, .any), (17, .any)]
noncomputable def an32 : Ann := ⟨[(.lend (.prod (.int .i64) (.prod (.int .i64) (.prod .str (.prod (.int .i64) (.prod (.int .i64) (.prod (.int .i64) (.prod (.slice (.int .u8)) (.prod (.slice (.prod (.int .i64) (.prod (.int .i64) .unit))) (.prod .bool .unit)))))))))), (.lend (.prod (.int .i64) (.prod (.int .i64) (.prod .str (.prod (.int .i64) (.prod (.int .i64) (.prod (.int .i64) (.prod (.slice (.int .u8)) (.prod (.slice (.prod (.int .i64) (.prod (.int .i64) .unit))) (.prod .bool .unit)))))))))), .any], [], [], [(4, sp32_0)], [(0, jn32_0), (1, jn32_1)], [(0, sp32_0)], [], [], []⟩
noncomputable def cd32_0 : Code := sel (bodyOf Try.f32) [1, 1, 0, 1]
noncomputable def bd32_0 : Code := sel (bodyOf Try.f32) [1, 1, 0, 1, 0, 0]
noncomputable def an4 : Ann := ⟨[.any, .any, (.lend (.int .u8)), .any, (.cells [.any, .any, .any, (.lend (.int .u8)), .any, (.lend (.prod (.int .i64) (.prod (.int .i64) .unit))), .any, .any])], [], [], [], [], [], [(5, [⟨[32793, 32824], []⟩, ⟨[49177, 49208], []⟩, ⟨[32793, 49177], []⟩, ⟨[], []⟩, ⟨[], []⟩, ⟨[], []⟩, ⟨[], []⟩, ⟨[], []⟩, ⟨[], []⟩, ⟨[16392], []⟩, ⟨[], []⟩, ⟨[16392], []⟩, ⟨[], []⟩, ⟨[], []⟩, ⟨[], []⟩, ⟨[], []⟩, ⟨[65592], []⟩, ⟨[81976], []⟩, ⟨[], []⟩, ⟨[], []⟩, ⟨[], []⟩, ⟨[65553], []⟩, ⟨[81937], []⟩, ⟨[65553, 81937], []⟩, ⟨[], []⟩, ⟨[], []⟩, ⟨[], []⟩, ⟨[], []⟩, ⟨[], []⟩, ⟨[], []⟩, ⟨[], []⟩, ⟨[], []⟩, ⟨[], []⟩, ⟨[], []⟩])], [], []⟩
noncomputable def sp87_1000007 : List (Nat × Mode) := [(1, .any), (5, .any), (6, .any), (8, .any), (9, .any), (10, .any), (11, .any), (18, .any)]
noncomputable def sp87_0 : List (Nat × Mode) := [(1, .any), (5, (.own (.prod (.int .i64) (.prod (.int .i64) .unit)))), (6, .any), (9, .any), (10, .any), (11, .any)]
noncomputable def sp87_1000011 : List (Nat × Mode) := [(1, .any), (5, .any), (6, .any), (31, .any)]
noncomputable def jn87_0 : List (Nat × Mode) := [(1, .any), (5, .any), (6, .any)]
noncomputable def jn87_1 : List (Nat × Mode) := [(1, .any), (5, .any), (6, .any), (9, .any), (10, .any), (11, .any)]
noncomputable def fi87_7 : List (Nat × Mode) := [(1, .any), (5, (.own (.prod (.int .i64) (.prod (.int .i64) .unit)))), (8, .any), (9, .any), (10, .any), (11, .any)]
noncomputable def fi87_11 : List (Nat × Mode) := [(5, .any)]
noncomputable def an87 : Ann := ⟨[(.lend (.prod (.int .i64) (.prod (.int .i64) .unit))), .any], [], [], [(4, sp87_0)], [(0, jn87_0), (1, jn87_1)], [(0, sp87_0)], [], [(7, sp87_1000007), (11, sp87_1000011)], [(7, fi87_7), (11, fi87_11)]⟩
noncomputable def cd87_1000007 : Code := sel (bodyOf Try.f87) [1, 1, 1, 0, 1, 0, 0, 1, 1, 0, 0, 1, 0, 1]
noncomputable def cd87_0 : Code := sel (bodyOf Try.f87) [1, 1, 1, 0, 1]
noncomputable def bd87_0 : Code := sel (bodyOf Try.f87) [1, 1, 1, 0, 1, 0, 0]
noncomputable def cd87_1000011 : Code := sel (bodyOf Try.f87) [1, 1, 1, 1, 0, 1]
noncomputable def sp94_1000004 : List (Nat × Mode) := [(1, .any), (3, .any), (4, .any), (13, .any)]
noncomputable def sp94_2 : List (Nat × Mode) := [(1, .any), (29, .any), (30, .any), (31, .any), (41, .any), (42, .any), (43, .any)]
noncomputable def sp94_0 : List (Nat × Mode) := [(1, .any), (29, .any), (30, .any), (31, .any)]
noncomputable def jn94_0 : List (Nat × Mode) := [(1, .any)]
noncomputable def jn94_1 : List (Nat × Mode) := [(1, .any), (29, .any), (30, .any), (31, .any)]
noncomputable def jn94_2 : List (Nat × Mode) := [(1, .any), (29, .any), (30, .any), (31, .any)]
noncomputable def jn94_3 : List (Nat × Mode) := [(1, .any), (29, .any), (30, .any), (31, .any), (41, .any), (42, .any), (43, .any)]
noncomputable def fi94_4 : List (Nat × Mode) := [(1, .any), (3, .any)]
noncomputable def an94 : Ann := ⟨[(.cells [.any, .any, .any, (.lend (.int .u8)), (.lend (.prod (.int .i64) (.prod (.int .i64) .unit))), .any, .any, .any, .any])], [], [], [(11, sp94_2), (8, sp94_0)], [(0, jn94_0), (1, jn94_1), (2, jn94_2), (3, jn94_3)], [(2, sp94_2), (0, sp94_0)], [], [(4, sp94_1000004)], [(4, fi94_4)]⟩
noncomputable def cd94_1000004 : Code := sel (bodyOf Try.f94) [1, 1, 0, 1, 1]
noncomputable def cd94_2 : Code := sel (bodyOf Try.f94) [1, 1, 1, 1, 0, 1, 0, 0, 1, 1, 0, 0, 1, 1]
noncomputable def bd94_2 : Code := sel (bodyOf Try.f94) [1, 1, 1, 1, 0, 1, 0, 0, 1, 1, 0, 0, 1, 1, 0, 0]
noncomputable def cd94_0 : Code := sel (bodyOf Try.f94) [1, 1, 1, 1, 0, 1]
noncomputable def bd94_0 : Code := sel (bodyOf Try.f94) [1, 1, 1, 1, 0, 1, 0, 0]
noncomputable def an95 : Ann := ⟨[(.cells [.any, .any, .any, (.lend (.int .u8)), (.lend (.prod (.int .i64) (.prod (.int .i64) .unit))), .any, .any, .any, .any])], [], [], [], [], [], [], [], []⟩
noncomputable def sp56_1000011 : List (Nat × Mode) := [(1, .any), (3, .any), (54, .any)]
noncomputable def jn56_0 : List (Nat × Mode) := [(1, .any)]
noncomputable def fi56_11 : List (Nat × Mode) := [(1, .any), (3, .any)]
noncomputable def an56 : Ann := ⟨[(.cells [.any, .any, .any, (.lend (.int .u8)), (.lend (.prod (.int .i64) (.prod (.int .i64) .unit))), .any, .any, .any, .any])], [], [], [], [(0, jn56_0)], [], [], [(11, sp56_1000011)], [(11, fi56_11)]⟩
noncomputable def cd56_1000011 : Code := sel (bodyOf Try.f56) [1, 1, 1, 0, 1]
noncomputable def an83 : Ann := ⟨[(.cells [.any, .any, .any, (.lend (.int .u8)), (.lend (.prod (.int .i64) (.prod (.int .i64) .unit))), .any, .any, .any, .any])], [], [], [], [], [], [(1, [⟨[], []⟩, ⟨[16384], []⟩, ⟨[], []⟩, ⟨[], []⟩, ⟨[16384], []⟩, ⟨[], []⟩, ⟨[], []⟩, ⟨[32785], [16384]⟩, ⟨[], []⟩, ⟨[32785, 32809], [16384]⟩])], [], []⟩
noncomputable def sp132_1000002 : List (Nat × Mode) := [(0, .any), (1, .any), (6, .any)]
noncomputable def sp132_1000005 : List (Nat × Mode) := [(0, .any), (1, .any), (16, .any)]
noncomputable def fi132_2 : List (Nat × Mode) := [(0, .any), (1, .any)]
noncomputable def fi132_5 : List (Nat × Mode) := [(0, (.trim (.prod (.int .i64) (.prod (.int .i64) .unit))))]
noncomputable def an132 : Ann := ⟨[.any, .any], [], [], [], [], [], [], [(2, sp132_1000002), (5, sp132_1000005)], [(2, fi132_2), (5, fi132_5)]⟩
noncomputable def cd132_1000002 : Code := sel (bodyOf Try.f132) [1, 0, 1]
noncomputable def cd132_1000005 : Code := sel (bodyOf Try.f132) [1, 1, 0, 1, 1]
noncomputable def sp114_1000007 : List (Nat × Mode) := [(0, .any), (3, .any), (9, .any), (10, .any), (11, .any), (20, .any)]
noncomputable def sp114_0 : List (Nat × Mode) := [(0, .any), (3, .any), (9, .any), (10, .any), (11, .any)]
noncomputable def sp114_2 : List (Nat × Mode) := [(6, .any), (25, .any), (26, .any), (27, .any)]
noncomputable def jn114_0 : List (Nat × Mode) := [(0, .any), (3, .any)]
noncomputable def jn114_1 : List (Nat × Mode) := [(0, .any), (3, .any), (9, .any), (10, .any), (11, .any)]
noncomputable def jn114_2 : List (Nat × Mode) := [(6, .any)]
noncomputable def jn114_3 : List (Nat × Mode) := [(6, .any), (25, .any), (26, .any), (27, .any)]
noncomputable def fi114_7 : List (Nat × Mode) := [(0, .any), (3, .any), (9, .any), (10, .any), (11, .any)]
noncomputable def an114 : Ann := ⟨[(.lend (.slice (.prod (.int .i64) (.prod (.int .i64) .unit))))], [], [], [(3, sp114_0), (11, sp114_2)], [(0, jn114_0), (1, jn114_1), (2, jn114_2), (3, jn114_3)], [(0, sp114_0), (2, sp114_2)], [], [(7, sp114_1000007)], [(7, fi114_7)]⟩
noncomputable def cd114_1000007 : Code := sel (bodyOf Try.f114) [1, 1, 0, 1, 0, 0, 1, 1, 0, 0, 1, 1, 1]
noncomputable def cd114_0 : Code := sel (bodyOf Try.f114) [1, 1, 0, 1]
noncomputable def bd114_0 : Code := sel (bodyOf Try.f114) [1, 1, 0, 1, 0, 0]
noncomputable def cd114_2 : Code := sel (bodyOf Try.f114) [1, 1, 1, 1, 0, 1]
noncomputable def bd114_2 : Code := sel (bodyOf Try.f114) [1, 1, 1, 1, 0, 1, 0, 0]
noncomputable def an131 : Ann := ⟨[(.lend (.prod (.int .i64) (.prod (.int .i64) .unit))), .any], [(.lend (.prod (.int .i64) (.prod (.int .i64) .unit)))], [], [], [], [], [], [], []⟩
noncomputable def an112 : Ann := ⟨[(.cells [.any, .any, .any, (.lend (.int .u8)), (.lend (.prod (.int .i64) (.prod (.int .i64) .unit))), .any, .any, .any, .any])], [(.lend (.prod (.int .i64) (.prod (.int .i64) .unit))), .any], [], [], [], [], [], [], []⟩
noncomputable def an82 : Ann := ⟨[.any, (.cells [.any, .any, .any, (.lend (.int .u8)), (.lend (.prod (.int .i64) (.prod (.int .i64) .unit))), .any, .any, .any, .any])], [(.cells [.any, .any, .any, (.lend (.int .u8)), (.lend (.prod (.int .i64) (.prod (.int .i64) .unit))), .any, .any, .any, .any]), (.tie (.own (.prod (.int .i64) (.prod (.int .i64) (.prod .str (.prod (.int .i64) (.prod (.int .i64) (.prod (.int .i64) (.prod (.slice (.int .u8)) (.prod (.slice (.prod (.int .i64) (.prod (.int .i64) .unit))) (.prod .bool .unit))))))))))), .any], [], [], [], [], [(8, [⟨[16392], []⟩, ⟨[], []⟩, ⟨[16392], []⟩, ⟨[], []⟩, ⟨[], []⟩, ⟨[], [16400]⟩, ⟨[147488], []⟩, ⟨[], []⟩]), (14, [⟨[16392], []⟩, ⟨[], []⟩, ⟨[16392], []⟩, ⟨[], []⟩, ⟨[], []⟩, ⟨[], []⟩, ⟨[], [16400]⟩, ⟨[245800], []⟩, ⟨[], []⟩])], [], []⟩
noncomputable def an34 : Ann := ⟨[.any, (.cells [.any, .any, .any, (.lend (.int .u8)), (.lend (.prod (.int .i64) (.prod (.int .i64) .unit))), .any, .any, .any, .any])], [(.cells [.any, .any, .any, (.lend (.int .u8)), (.lend (.prod (.int .i64) (.prod (.int .i64) .unit))), .any, .any, .any, .any]), (.tie (.own (.prod (.int .i64) (.prod (.int .i64) (.prod .str (.prod (.int .i64) (.prod (.int .i64) (.prod (.int .i64) (.prod (.slice (.int .u8)) (.prod (.slice (.prod (.int .i64) (.prod (.int .i64) .unit))) (.prod .bool .unit))))))))))), .any], [], [], [], [], [(7, [⟨[16384], []⟩, ⟨[16392], []⟩, ⟨[], []⟩, ⟨[131089, 131090], []⟩, ⟨[131089, 131090], []⟩, ⟨[131089, 131090, 131097], []⟩, ⟨[131089, 131090], []⟩, ⟨[131089, 131090], [16400]⟩, ⟨[131097], []⟩, ⟨[], []⟩])], [], []⟩
noncomputable def an96 : Ann := ⟨[(.lend (.prod (.int .i64) (.prod (.int .i64) .unit)))], [], [], [], [], [], [], [], []⟩
noncomputable def sp97_0 : List (Nat × Mode) := [(0, .any), (1, .any), (5, .any)]
noncomputable def jn97_0 : List (Nat × Mode) := []
noncomputable def jn97_1 : List (Nat × Mode) := [(0, .any), (1, .any), (5, .any)]
noncomputable def an97 : Ann := ⟨[(.lend (.prod (.int .i64) (.prod (.int .i64) .unit))), .any], [], [], [(2, sp97_0)], [(0, jn97_0), (1, jn97_1)], [(0, sp97_0)], [], [], []⟩
noncomputable def cd97_0 : Code := sel (bodyOf Try.f97) [1, 0, 1]
noncomputable def bd97_0 : Code := sel (bodyOf Try.f97) [1, 0, 1, 0, 0]
noncomputable def sp88_1000007 : List (Nat × Mode) := [(0, .any), (1, .any), (5, .any), (6, .any), (7, .any), (20, .any)]
noncomputable def sp88_0 : List (Nat × Mode) := [(0, .any), (1, .any), (5, (.own (.prod (.int .i64) (.prod (.int .i64) .unit)))), (6, .any), (7, .any)]
noncomputable def sp88_1000010 : List (Nat × Mode) := [(1, .any), (5, .any), (6, .any), (38, .any)]
noncomputable def jn88_0 : List (Nat × Mode) := [(1, .any), (5, .any), (6, .any)]
noncomputable def jn88_1 : List (Nat × Mode) := [(0, .any), (1, .any), (5, .any), (6, .any), (7, .any)]
noncomputable def fi88_7 : List (Nat × Mode) := [(0, .any), (1, .any), (5, (.own (.prod (.int .i64) (.prod (.int .i64) .unit)))), (7, .any)]
noncomputable def fi88_10 : List (Nat × Mode) := [(5, .any)]
noncomputable def an88 : Ann := ⟨[(.lend (.prod (.int .i64) (.prod (.int .i64) .unit))), .any], [], [], [(4, sp88_0)], [(0, jn88_0), (1, jn88_1)], [(0, sp88_0)], [], [(7, sp88_1000007), (10, sp88_1000010)], [(7, fi88_7), (10, fi88_10)]⟩
noncomputable def cd88_1000007 : Code := sel (bodyOf Try.f88) [1, 1, 1, 0, 1, 0, 0, 1, 0, 0, 0, 1]
noncomputable def cd88_0 : Code := sel (bodyOf Try.f88) [1, 1, 1, 0, 1]
noncomputable def bd88_0 : Code := sel (bodyOf Try.f88) [1, 1, 1, 0, 1, 0, 0]
noncomputable def cd88_1000010 : Code := sel (bodyOf Try.f88) [1, 1, 1, 1, 0, 1]
noncomputable def an113 : Ann := ⟨[(.cells [.any, .any, .any, (.lend (.int .u8)), (.lend (.prod (.int .i64) (.prod (.int .i64) .unit))), .any, .any, .any, .any])], [(.own (.prod (.int .i64) (.prod (.int .i64) .unit))), .any], [], [], [], [], [(3, [⟨[], []⟩, ⟨[16384], []⟩, ⟨[], []⟩, ⟨[], []⟩, ⟨[16384], []⟩, ⟨[], []⟩, ⟨[16384], []⟩, ⟨[], []⟩, ⟨[65593], []⟩, ⟨[65601], []⟩, ⟨[], []⟩])], [], []⟩
noncomputable def an98 : Ann := ⟨[(.cells [.any, .any, .any, (.lend (.int .u8)), (.lend (.prod (.int .i64) (.prod (.int .i64) .unit))), .any, .any, .any, .any])], [], [], [], [], [], [], [], []⟩
noncomputable def sp57_1000011 : List (Nat × Mode) := [(1, .any), (3, .any), (49, .any)]
noncomputable def sp57_0 : List (Nat × Mode) := [(1, .any), (5, .any)]
noncomputable def jn57_0 : List (Nat × Mode) := [(1, .any)]
noncomputable def jn57_1 : List (Nat × Mode) := [(1, .any), (5, .any)]
noncomputable def fi57_11 : List (Nat × Mode) := [(1, .any), (3, .any)]
noncomputable def an57 : Ann := ⟨[(.cells [.any, .any, .any, (.lend (.int .u8)), (.lend (.prod (.int .i64) (.prod (.int .i64) .unit))), .any, .any, .any, .any])], [], [], [(18, sp57_0)], [(0, jn57_0), (1, jn57_1)], [(0, sp57_0)], [(15, [⟨[], []⟩, ⟨[1], []⟩, ⟨[], []⟩, ⟨[], []⟩, ⟨[1], []⟩, ⟨[], []⟩, ⟨[], []⟩])], [(11, sp57_1000011)], [(11, fi57_11)]⟩
noncomputable def cd57_1000011 : Code := sel (bodyOf Try.f57) [1, 1, 1, 1, 1, 1, 0, 1]
noncomputable def cd57_0 : Code := sel (bodyOf Try.f57) [1, 1, 1, 1, 1, 1, 1, 1, 1, 0, 1]
noncomputable def bd57_0 : Code := sel (bodyOf Try.f57) [1, 1, 1, 1, 1, 1, 1, 1, 1, 0, 1, 0, 0]
noncomputable def an84 : Ann := ⟨[.any, (.cells [.any, .any, .any, (.lend (.int .u8)), (.lend (.prod (.int .i64) (.prod (.int .i64) .unit))), .any, .any, .any, .any])], [], [], [], [], [], [], [], []⟩
noncomputable def an85 : Ann := ⟨[.any, (.cells [.any, .any, .any, (.lend (.int .u8)), (.lend (.prod (.int .i64) (.prod (.int .i64) .unit))), .any, .any, .any, .any])], [(.cells [.any, .any, .any, (.lend (.int .u8)), (.lend (.prod (.int .i64) (.prod (.int .i64) .unit))), .any, .any, .any, .any]), (.own (.prod (.int .i64) (.prod (.int .i64) (.prod .str (.prod (.int .i64) (.prod (.int .i64) (.prod (.int .i64) (.prod (.slice (.int .u8)) (.prod (.slice (.prod (.int .i64) (.prod (.int .i64) .unit))) (.prod .bool .unit)))))))))), .any], [], [], [], [], [(8, [⟨[16392], []⟩, ⟨[], []⟩, ⟨[16392], []⟩, ⟨[], []⟩, ⟨[], []⟩, ⟨[], [16400]⟩, ⟨[147488], []⟩, ⟨[], []⟩]), (15, [⟨[16392], []⟩, ⟨[], []⟩, ⟨[16392], []⟩, ⟨[163849], []⟩, ⟨[163849], []⟩, ⟨[163849], []⟩, ⟨[], [16400]⟩, ⟨[262184], []⟩, ⟨[], []⟩])], [], []⟩
noncomputable def an35 : Ann := ⟨[.any, (.cells [.any, .any, .any, (.lend (.int .u8)), (.lend (.prod (.int .i64) (.prod (.int .i64) .unit))), .any, .any, .any, .any])], [(.cells [.any, .any, .any, (.lend (.int .u8)), (.lend (.prod (.int .i64) (.prod (.int .i64) .unit))), .any, .any, .any, .any]), (.own (.prod (.int .i64) (.prod (.int .i64) (.prod .str (.prod (.int .i64) (.prod (.int .i64) (.prod (.int .i64) (.prod (.slice (.int .u8)) (.prod (.slice (.prod (.int .i64) (.prod (.int .i64) .unit))) (.prod .bool .unit)))))))))), .any], [], [], [], [], [], [], []⟩
noncomputable def sp36_1000007 : List (Nat × Mode) := [(1, .any), (2, .any), (17, .any)]
noncomputable def fi36_7 : List (Nat × Mode) := [(1, .any), (2, .any)]
noncomputable def an36 : Ann := ⟨[(.cells [.any, .any, .any, (.lend (.int .u8)), (.lend (.prod (.int .i64) (.prod (.int .i64) .unit))), .any, .any, .any, .any])], [(.cells [.any, .any, .any, (.own (.int .u8)), (.own (.prod (.int .i64) (.prod (.int .i64) .unit))), .any, .any, .any, .any]), .any], [], [], [], [], [], [(7, sp36_1000007)], [(7, fi36_7)]⟩
noncomputable def cd36_1000007 : Code := sel (bodyOf Try.f36) [1, 1, 1, 1, 0, 1]
noncomputable def sp37_1000006 : List (Nat × Mode) := [(1, .any), (2, .any), (15, .any)]
noncomputable def fi37_6 : List (Nat × Mode) := [(1, .any), (2, .any)]
noncomputable def an37 : Ann := ⟨[(.cells [.any, .any, .any, (.lend (.int .u8)), (.lend (.prod (.int .i64) (.prod (.int .i64) .unit))), .any, .any, .any, .any])], [(.cells [.any, .any, .any, (.lend (.int .u8)), (.lend (.prod (.int .i64) (.prod (.int .i64) .unit))), .any, .any, .any, .any]), .any], [], [], [], [], [], [(6, sp37_1000006)], [(6, fi37_6)]⟩
noncomputable def cd37_1000006 : Code := sel (bodyOf Try.f37) [1, 1, 1, 0, 1]
noncomputable def an38 : Ann := ⟨[(.cells [.any, .any, .any, (.lend (.int .u8)), (.lend (.prod (.int .i64) (.prod (.int .i64) .unit))), .any, .any, .any, .any]), (.cells [.any, .any, .any, (.lend (.int .u8)), (.lend (.prod (.int .i64) (.prod (.int .i64) .unit))), .any, .any, .any, .any])], [], [], [], [], [], [], [], []⟩
noncomputable def an5 : Ann := ⟨[.any, (.cells [.any, .any, .any, (.lend (.int .u8)), (.lend (.prod (.int .i64) (.prod (.int .i64) .unit))), .any, .any, .any, .any])], [], [], [], [], [], [], [], []⟩
end Go.Proofs.Ytlcklflbhhnnhaa.PM
