/- Annotations, and the equations of the loops (printed by a program of this work). -/
import Derived.Test.YtadkplikobhckaaPT0
import Derived.Test.YtadkplikobhckaaPmZ
import Derived.Test.YtadkplikobhckaaPmSh
import Derived.Test.YtadkplikobhckaaProg
import Derived.KernelRfl
set_option linter.unusedVariables false
set_option linter.unusedSimpArgs false
set_option maxRecDepth 100000
namespace Go.Proofs.Ytadkplikobhckaa.PM
open Go
noncomputable def T : TT := [(3, ⟨.int .i64, 1, 8, [.int .i64 0], some (.int .i64)⟩),
  (4, ⟨.bool, 1, 1, [.bool false], some .bool⟩),
  (5, ⟨.int .u8, 1, 1, [.int .u8 0], some (.int .u8)⟩),
  (22, ⟨.slice 5, 1, 24, [.slice none 0 0], some (.slice (.int .u8))⟩),
  (25, ⟨.int .i64, 1, 8, [.int .i64 0], some (.int .i64)⟩),
  (30, ⟨.struct [(3, 0), (4, 1), (4, 2), (4, 3)], 4, 16, [.int .i64 0, .bool false, .bool false, .bool false], some (.prod (.int .i64) (.prod .bool (.prod .bool (.prod .bool .unit))))⟩),
  (49, ⟨.slice 22, 1, 24, [.slice none 0 0], some (.slice (.slice (.int .u8)))⟩),
  (73, ⟨.slice 3, 1, 24, [.slice none 0 0], some (.slice (.int .i64))⟩),
  (75, ⟨.struct [(3, 0), (3, 1), (73, 2)], 3, 40, [.int .i64 0, .int .i64 0, .slice none 0 0], some (.prod (.int .i64) (.prod (.int .i64) (.prod (.slice (.int .i64)) .unit)))⟩),
  (92, ⟨.slice 4, 1, 24, [.slice none 0 0], some (.slice .bool)⟩),
  (113, ⟨.int .u64, 1, 8, [.int .u64 0], some (.int .u64)⟩),
  (118, ⟨.slice 25, 1, 24, [.slice none 0 0], some (.slice (.int .i64))⟩)]
noncomputable def sel : Code → List Nat → Code
  | c, [] => c
  | .seq a _, 0 :: l => sel a l
  | .seq _ b, _ :: l => sel b l
  | .cond _ a _, 0 :: l => sel a l
  | .cond _ _ b, _ :: l => sel b l
  | .block _ b, _ :: l => sel b l
  | .loop b, _ :: l => sel b l
  | c, _ => c
noncomputable def bodyOf (f : Func) : Code := match f.body with | some c => c | none => .skip
noncomputable def opsOf : Code → Array Oper
  | .region _ o _ => o
  | _ => #[]
noncomputable def operAt (c : Code) (i : Nat) : Oper := (opsOf c).getD i ⟨none, .alloc 0, 0, "", #[], none⟩

noncomputable def an62 : Ann := ⟨[.any, .any, .any], [], [], [], [], [], [], [], []⟩
noncomputable def sp48_1 : List (Nat × Mode) := [(1, .any), (22, .any), (23, .any), (24, .any)]
noncomputable def jn48_0 : List (Nat × Mode) := [(1, .any)]
noncomputable def jn48_1 : List (Nat × Mode) := []
noncomputable def jn48_2 : List (Nat × Mode) := [(1, .any), (22, .any), (23, .any), (24, .any)]
noncomputable def jn48_3 : List (Nat × Mode) := [(1, .any), (22, .any), (23, .any), (24, .any)]
noncomputable def an48 : Ann := ⟨[(.cells [.any, .any, (.lend (.int .i64))])], [], [], [(6, sp48_1)], [(0, jn48_0), (1, jn48_1), (2, jn48_2), (3, jn48_3)], [(1, sp48_1)], [], [], []⟩
noncomputable def cd48_1 : Code := sel (bodyOf Try.f48) [1, 1, 0, 1]
noncomputable def bd48_1 : Code := sel (bodyOf Try.f48) [1, 1, 0, 1, 0, 0]
noncomputable def sp25_1000008 : List (Nat × Mode) := [(1, .any), (4, .any), (5, .any), (17, .any), (18, .any), (19, .any), (24, .any)]
noncomputable def sp25_0 : List (Nat × Mode) := [(1, .any), (4, .any), (17, .any), (18, .any), (19, .any)]
noncomputable def jn25_0 : List (Nat × Mode) := [(1, .any), (4, .any)]
noncomputable def jn25_1 : List (Nat × Mode) := [(1, .any), (4, .any), (17, .any), (18, .any), (19, .any)]
noncomputable def fi25_8 : List (Nat × Mode) := [(1, .any), (4, .any), (17, .any), (18, .any), (19, .any)]
noncomputable def an25 : Ann := ⟨[.any], [(.own (.int .u8)), .any], [], [(5, sp25_0)], [(0, jn25_0), (1, jn25_1)], [(0, sp25_0)], [], [(8, sp25_1000008)], [(8, fi25_8)]⟩
noncomputable def cd25_1000008 : Code := sel (bodyOf Try.f25) [1, 1, 1, 0, 1, 0, 0, 1, 1, 0, 0, 1, 1]
noncomputable def cd25_0 : Code := sel (bodyOf Try.f25) [1, 1, 1, 0, 1]
noncomputable def bd25_0 : Code := sel (bodyOf Try.f25) [1, 1, 1, 0, 1, 0, 0]
noncomputable def sp24_0 : List (Nat × Mode) := [(0, .any), (1, .any), (12, .any), (13, .any)]
noncomputable def jn24_0 : List (Nat × Mode) := []
noncomputable def jn24_1 : List (Nat × Mode) := [(0, .any), (1, .any), (12, .any), (13, .any)]
noncomputable def an24 : Ann := ⟨[(.lend (.int .u8)), (.lend (.int .u8))], [], [], [(4, sp24_0)], [(0, jn24_0), (1, jn24_1)], [(0, sp24_0)], [(6, [⟨[], []⟩, ⟨[], []⟩, ⟨[], []⟩, ⟨[], []⟩, ⟨[], []⟩, ⟨[], []⟩, ⟨[], []⟩, ⟨[], []⟩, ⟨[], []⟩])], [], []⟩
noncomputable def cd24_0 : Code := sel (bodyOf Try.f24) [1, 1, 0, 1]
noncomputable def bd24_0 : Code := sel (bodyOf Try.f24) [1, 1, 0, 1, 0, 0]
noncomputable def an21 : Ann := ⟨[], [], [], [], [], [], [], [], []⟩
noncomputable def an74 : Ann := ⟨[.any, .any, .any], [], [], [], [], [], [], [], []⟩
noncomputable def jn70_0 : List (Nat × Mode) := []
noncomputable def an70 : Ann := ⟨[(.lend (.int .u8))], [], [], [], [(0, jn70_0)], [], [], [], []⟩
noncomputable def sp65_0 : List (Nat × Mode) := [(5, .any), (6, .any), (7, .any)]
noncomputable def jn65_0 : List (Nat × Mode) := []
noncomputable def jn65_1 : List (Nat × Mode) := [(5, .any), (6, .any), (7, .any)]
noncomputable def an65 : Ann := ⟨[(.lend (.int .i64))], [], [], [(2, sp65_0)], [(0, jn65_0), (1, jn65_1)], [(0, sp65_0)], [], [], []⟩
noncomputable def cd65_0 : Code := sel (bodyOf Try.f65) [1, 0, 1]
noncomputable def bd65_0 : Code := sel (bodyOf Try.f65) [1, 0, 1, 0, 0]
noncomputable def sp82_0 : List (Nat × Mode) := [(0, .any), (3, (.own (.int .u8))), (4, .any)]
noncomputable def jn82_0 : List (Nat × Mode) := [(3, .any)]
noncomputable def jn82_1 : List (Nat × Mode) := [(0, .any), (3, .any), (4, .any)]
noncomputable def an82 : Ann := ⟨[.any], [], [], [(3, sp82_0)], [(0, jn82_0), (1, jn82_1)], [(0, sp82_0)], [], [], []⟩
noncomputable def cd82_0 : Code := sel (bodyOf Try.f82) [1, 1, 0, 1]
noncomputable def bd82_0 : Code := sel (bodyOf Try.f82) [1, 1, 0, 1, 0, 0]
noncomputable def sp101_1000002 : List (Nat × Mode) := [(0, .any), (1, .any), (6, .any)]
noncomputable def sp101_1000005 : List (Nat × Mode) := [(0, .any), (1, .any), (16, .any)]
noncomputable def fi101_2 : List (Nat × Mode) := [(0, .any), (1, .any)]
noncomputable def fi101_5 : List (Nat × Mode) := [(0, (.trim (.int .u8)))]
noncomputable def an101 : Ann := ⟨[.any, .any], [], [], [], [], [], [], [(2, sp101_1000002), (5, sp101_1000005)], [(2, fi101_2), (5, fi101_5)]⟩
noncomputable def cd101_1000002 : Code := sel (bodyOf Try.f101) [1, 0, 1]
noncomputable def cd101_1000005 : Code := sel (bodyOf Try.f101) [1, 1, 0, 1, 1]
noncomputable def sp96_1000007 : List (Nat × Mode) := [(0, .any), (3, .any), (9, .any), (10, .any), (11, .any), (20, .any)]
noncomputable def sp96_0 : List (Nat × Mode) := [(0, .any), (3, .any), (9, .any), (10, .any), (11, .any)]
noncomputable def sp96_2 : List (Nat × Mode) := [(6, .any), (25, .any), (26, .any), (27, .any)]
noncomputable def jn96_0 : List (Nat × Mode) := [(0, .any), (3, .any)]
noncomputable def jn96_1 : List (Nat × Mode) := [(0, .any), (3, .any), (9, .any), (10, .any), (11, .any)]
noncomputable def jn96_2 : List (Nat × Mode) := [(6, .any)]
noncomputable def jn96_3 : List (Nat × Mode) := [(6, .any), (25, .any), (26, .any), (27, .any)]
noncomputable def fi96_7 : List (Nat × Mode) := [(0, .any), (3, .any), (9, .any), (10, .any), (11, .any)]
noncomputable def an96 : Ann := ⟨[(.lend (.slice (.int .u8)))], [], [], [(3, sp96_0), (11, sp96_2)], [(0, jn96_0), (1, jn96_1), (2, jn96_2), (3, jn96_3)], [(0, sp96_0), (2, sp96_2)], [], [(7, sp96_1000007)], [(7, fi96_7)]⟩
noncomputable def cd96_1000007 : Code := sel (bodyOf Try.f96) [1, 1, 0, 1, 0, 0, 1, 1, 0, 0, 1, 1, 1]
noncomputable def cd96_0 : Code := sel (bodyOf Try.f96) [1, 1, 0, 1]
noncomputable def bd96_0 : Code := sel (bodyOf Try.f96) [1, 1, 0, 1, 0, 0]
noncomputable def cd96_2 : Code := sel (bodyOf Try.f96) [1, 1, 1, 1, 0, 1]
noncomputable def bd96_2 : Code := sel (bodyOf Try.f96) [1, 1, 1, 1, 0, 1, 0, 0]
noncomputable def sp83_0 : List (Nat × Mode) := [(6, .any), (16, .any), (17, .any), (18, .any)]
noncomputable def jn83_0 : List (Nat × Mode) := [(6, .any)]
noncomputable def jn83_1 : List (Nat × Mode) := [(6, .any), (16, .any), (17, .any), (18, .any)]
noncomputable def an83 : Ann := ⟨[.any, (.lend (.int .u8))], [], [], [(4, sp83_0)], [(0, jn83_0), (1, jn83_1)], [(0, sp83_0)], [], [], []⟩
noncomputable def cd83_0 : Code := sel (bodyOf Try.f83) [1, 1, 1, 0, 1]
noncomputable def bd83_0 : Code := sel (bodyOf Try.f83) [1, 1, 1, 0, 1, 0, 0]
noncomputable def an49 : Ann := ⟨[.any, .any, (.lend (.int .u8))], [(.own (.int .u8)), .any], [], [], [], [], [], [], []⟩
noncomputable def sp97_0 : List (Nat × Mode) := [(3, .any), (7, .any), (8, .any), (9, .any)]
noncomputable def jn97_0 : List (Nat × Mode) := [(3, .any)]
noncomputable def jn97_1 : List (Nat × Mode) := [(3, .any), (7, .any), (8, .any), (9, .any)]
noncomputable def an97 : Ann := ⟨[(.lend (.int .u8))], [], [], [(3, sp97_0)], [(0, jn97_0), (1, jn97_1)], [(0, sp97_0)], [], [], []⟩
noncomputable def cd97_0 : Code := sel (bodyOf Try.f97) [1, 1, 0, 1]
noncomputable def bd97_0 : Code := sel (bodyOf Try.f97) [1, 1, 0, 1, 0, 0]
noncomputable def sp85_0 : List (Nat × Mode) := [(0, .any), (1, .any), (7, .any), (8, .any)]
noncomputable def jn85_0 : List (Nat × Mode) := []
noncomputable def jn85_1 : List (Nat × Mode) := [(0, .any), (1, .any), (7, .any), (8, .any)]
noncomputable def an85 : Ann := ⟨[(.lend (.int .i64)), .any], [], [], [(2, sp85_0)], [(0, jn85_0), (1, jn85_1)], [(0, sp85_0)], [], [], []⟩
noncomputable def cd85_0 : Code := sel (bodyOf Try.f85) [1, 0, 1]
noncomputable def bd85_0 : Code := sel (bodyOf Try.f85) [1, 0, 1, 0, 0]
noncomputable def an51 : Ann := ⟨[(.lend (.int .i64)), .any], [], [], [], [], [], [], [], []⟩
noncomputable def sp98_0 : List (Nat × Mode) := [(2, .any), (4, .any), (5, (.trim (.int .i64)))]
noncomputable def jn98_0 : List (Nat × Mode) := [(2, .any), (4, .any), (5, .any)]
noncomputable def jn98_1 : List (Nat × Mode) := [(2, .any), (4, .any), (5, .any)]
noncomputable def an98 : Ann := ⟨[(.cells [.any, .any, (.lend (.int .i64))]), .any], [], [], [(3, sp98_0)], [(0, jn98_0), (1, jn98_1)], [(0, sp98_0)], [(3, [⟨[3], []⟩, ⟨[3], []⟩, ⟨[], []⟩, ⟨[], []⟩, ⟨[3], []⟩, ⟨[3], []⟩, ⟨[3], []⟩, ⟨[], []⟩, ⟨[1], []⟩, ⟨[], []⟩, ⟨[], []⟩]), (4, [⟨[], []⟩, ⟨[1], []⟩, ⟨[], []⟩, ⟨[3], []⟩, ⟨[3], []⟩, ⟨[], []⟩, ⟨[], [1]⟩, ⟨[3], []⟩])], [], []⟩
noncomputable def cd98_0 : Code := sel (bodyOf Try.f98) [1, 1, 1, 0]
noncomputable def bd98_0 : Code := sel (bodyOf Try.f98) [1, 1, 1, 0, 0, 0]
noncomputable def jn84_0 : List (Nat × Mode) := [(1, .any), (2, .any), (4, .any)]
noncomputable def jn84_1 : List (Nat × Mode) := [(1, .any), (2, .any), (4, .any), (8, .any), (10, .any)]
noncomputable def an84 : Ann := ⟨[(.cells [.any, .any, (.lend (.int .i64))]), (.lend (.int .u8))], [(.cells [.any, .any, (.own (.int .i64))]), (.own (.int .u8)), .any, .any], [], [], [(0, jn84_0), (1, jn84_1)], [], [(6, [⟨[], []⟩, ⟨[1], []⟩, ⟨[], []⟩, ⟨[], []⟩, ⟨[], []⟩, ⟨[], []⟩, ⟨[], []⟩, ⟨[], []⟩, ⟨[], []⟩, ⟨[], []⟩, ⟨[], []⟩]), (16, [⟨[1], []⟩, ⟨[], []⟩, ⟨[], []⟩, ⟨[], []⟩, ⟨[], []⟩, ⟨[], []⟩, ⟨[], []⟩, ⟨[], []⟩, ⟨[278545], [2]⟩, ⟨[278577], []⟩, ⟨[], []⟩, ⟨[], []⟩])], [], []⟩
noncomputable def an50 : Ann := ⟨[(.cells [.any, .any, (.lend (.int .i64))]), (.lend (.int .u8))], [(.cells [.any, .any, (.own (.int .i64))]), (.own (.int .u8)), .any, .any], [], [], [], [], [], [], []⟩
noncomputable def an12 : Ann := ⟨[(.cells [.any, .any, (.lend (.int .i64))]), .any, (.lend (.int .u8))], [], [], [], [], [], [], [], []⟩
noncomputable def sp47_1000003 : List (Nat × Mode) := [(0, .any), (1, .any), (9, .any)]
noncomputable def fi47_3 : List (Nat × Mode) := [(0, .any)]
noncomputable def an47 : Ann := ⟨[.any, .any], [], [], [], [], [], [], [(3, sp47_1000003)], [(3, fi47_3)]⟩
noncomputable def cd47_1000003 : Code := sel (bodyOf Try.f47) [1, 1, 0, 1]
noncomputable def sp52_1000014 : List (Nat × Mode) := [(2, .any), (4, .any), (9, .any), (10, .any), (13, .any), (14, .any), (16, .any), (31, .any), (32, .any), (33, .any), (46, .any)]
noncomputable def sp52_0 : List (Nat × Mode) := [(2, .any), (4, .any), (9, (.own (.slice (.int .u8)))), (10, (.own (.int .i64))), (31, .any), (32, .any), (33, .any)]
noncomputable def jn52_0 : List (Nat × Mode) := [(2, .any), (4, .any), (9, .any), (10, .any)]
noncomputable def jn52_1 : List (Nat × Mode) := [(2, .any), (4, .any), (9, .any), (10, .any), (31, .any), (32, .any), (33, .any)]
noncomputable def fi52_14 : List (Nat × Mode) := [(2, .any), (4, .any), (9, (.own (.slice (.int .u8)))), (10, .any), (16, .any), (31, .any), (32, .any), (33, .any)]
noncomputable def an52 : Ann := ⟨[(.cells [.any, .any, (.lend (.int .i64))]), (.lend (.slice (.int .u8)))], [(.cells [.any, .any, (.own (.int .i64))]), (.own (.slice (.int .u8))), (.own (.int .i64)), .any], [], [(10, sp52_0)], [(0, jn52_0), (1, jn52_1)], [(0, sp52_0)], [], [(14, sp52_1000014)], [(14, fi52_14)]⟩
noncomputable def cd52_1000014 : Code := sel (bodyOf Try.f52) [1, 1, 1, 1, 1, 1, 0, 1, 0, 0, 1, 1, 0, 0, 1, 1, 0, 1]
noncomputable def cd52_0 : Code := sel (bodyOf Try.f52) [1, 1, 1, 1, 1, 1, 0, 1]
noncomputable def bd52_0 : Code := sel (bodyOf Try.f52) [1, 1, 1, 1, 1, 1, 0, 1, 0, 0]
noncomputable def sp13_1000012 : List (Nat × Mode) := [(2, .any), (5, .any), (6, .any), (8, .any), (9, .any), (22, .any), (23, .any), (24, .any), (47, .any)]
noncomputable def sp13_0 : List (Nat × Mode) := [(2, .any), (5, (.own (.slice (.int .u8)))), (6, (.own (.int .i64))), (22, .any), (23, .any), (24, .any)]
noncomputable def sp13_3 : List (Nat × Mode) := [(2, .any), (6, .any), (12, .any), (15, .any), (74, .any), (75, .any), (76, .any)]
noncomputable def sp13_2 : List (Nat × Mode) := [(2, .any), (6, .any), (12, .any), (15, (.own (.int .i64))), (74, .any), (75, .any), (76, .any)]
noncomputable def jn13_0 : List (Nat × Mode) := [(2, .any), (5, .any), (6, .any)]
noncomputable def jn13_1 : List (Nat × Mode) := [(2, .any), (5, .any), (6, .any), (22, .any), (23, .any), (24, .any)]
noncomputable def jn13_2 : List (Nat × Mode) := [(12, .any), (15, .any)]
noncomputable def jn13_3 : List (Nat × Mode) := [(2, .any), (6, .any), (12, .any), (15, (.own (.int .i64))), (74, .any), (75, .any), (76, .any)]
noncomputable def fi13_12 : List (Nat × Mode) := [(2, .any), (5, (.own (.slice (.int .u8)))), (6, (.own (.int .i64))), (22, .any), (23, .any), (24, .any)]
noncomputable def an13 : Ann := ⟨[(.cells [.any, .any, (.lend (.int .i64))]), (.lend (.int .i64))], [], [], [(6, sp13_0), (19, sp13_2)], [(0, jn13_0), (1, jn13_1), (2, jn13_2), (3, jn13_3)], [(0, sp13_0), (3, sp13_3), (2, sp13_2)], [(9, [⟨[], []⟩, ⟨[1], []⟩, ⟨[], []⟩, ⟨[], []⟩, ⟨[], []⟩, ⟨[], []⟩]), (22, [⟨[4], []⟩, ⟨[2], []⟩, ⟨[], []⟩, ⟨[2], []⟩, ⟨[2], []⟩, ⟨[4], []⟩, ⟨[], []⟩, ⟨[], []⟩, ⟨[1], []⟩, ⟨[2], []⟩, ⟨[], []⟩, ⟨[2], []⟩, ⟨[2], []⟩, ⟨[], []⟩, ⟨[], []⟩])], [(12, sp13_1000012)], [(12, fi13_12)]⟩
noncomputable def cd13_1000012 : Code := sel (bodyOf Try.f13) [1, 1, 1, 1, 0, 1, 0, 0, 1, 1, 0, 0, 1, 1, 1, 1, 1]
noncomputable def cd13_0 : Code := sel (bodyOf Try.f13) [1, 1, 1, 1, 0, 1]
noncomputable def bd13_0 : Code := sel (bodyOf Try.f13) [1, 1, 1, 1, 0, 1, 0, 0]
noncomputable def cd13_3 : Code := sel (bodyOf Try.f13) [1, 1, 1, 1, 1, 1, 1, 1, 0, 1, 0, 0, 1, 1, 0]
noncomputable def cd13_2 : Code := sel (bodyOf Try.f13) [1, 1, 1, 1, 1, 1, 1, 1, 0, 1]
noncomputable def bd13_2 : Code := sel (bodyOf Try.f13) [1, 1, 1, 1, 1, 1, 1, 1, 0, 1, 0, 0]
noncomputable def an63 : Ann := ⟨[.any, .any, .any], [], [], [], [], [], [], [], []⟩
noncomputable def sp57_0 : List (Nat × Mode) := [(1, .any), (20, .any), (21, .any), (22, .any)]
noncomputable def jn57_0 : List (Nat × Mode) := []
noncomputable def jn57_1 : List (Nat × Mode) := [(1, .any), (20, .any), (21, .any), (22, .any)]
noncomputable def an57 : Ann := ⟨[(.cells [.any, .any, (.lend (.int .i64))])], [], [], [(6, sp57_0)], [(0, jn57_0), (1, jn57_1)], [(0, sp57_0)], [], [], []⟩
noncomputable def cd57_0 : Code := sel (bodyOf Try.f57) [1, 1, 1, 0, 1]
noncomputable def bd57_0 : Code := sel (bodyOf Try.f57) [1, 1, 1, 0, 1, 0, 0]
noncomputable def sp88_0 : List (Nat × Mode) := [(0, .any), (3, .any), (7, .any), (8, .any)]
noncomputable def jn88_0 : List (Nat × Mode) := [(3, .any)]
noncomputable def jn88_1 : List (Nat × Mode) := [(0, .any), (3, .any), (7, .any), (8, .any)]
noncomputable def an88 : Ann := ⟨[.any], [], [], [(3, sp88_0)], [(0, jn88_0), (1, jn88_1)], [(0, sp88_0)], [], [], []⟩
noncomputable def cd88_0 : Code := sel (bodyOf Try.f88) [1, 1, 0, 1]
noncomputable def bd88_0 : Code := sel (bodyOf Try.f88) [1, 1, 0, 1, 0, 0]
noncomputable def sp89_0 : List (Nat × Mode) := [(5, .any), (16, .any), (17, .any), (18, .any)]
noncomputable def jn89_0 : List (Nat × Mode) := [(5, .any)]
noncomputable def jn89_1 : List (Nat × Mode) := [(5, .any), (16, .any), (17, .any), (18, .any)]
noncomputable def an89 : Ann := ⟨[.any, (.lend (.int .u8))], [], [], [(4, sp89_0)], [(0, jn89_0), (1, jn89_1)], [(0, sp89_0)], [], [], []⟩
noncomputable def cd89_0 : Code := sel (bodyOf Try.f89) [1, 1, 1, 0, 1]
noncomputable def bd89_0 : Code := sel (bodyOf Try.f89) [1, 1, 1, 0, 1, 0, 0]
noncomputable def sp99_0 : List (Nat × Mode) := [(3, .any), (7, .any), (8, .any), (9, .any)]
noncomputable def jn99_0 : List (Nat × Mode) := [(3, .any)]
noncomputable def jn99_1 : List (Nat × Mode) := [(3, .any), (7, .any), (8, .any), (9, .any)]
noncomputable def an99 : Ann := ⟨[(.lend (.int .u8))], [], [], [(3, sp99_0)], [(0, jn99_0), (1, jn99_1)], [(0, sp99_0)], [], [], []⟩
noncomputable def cd99_0 : Code := sel (bodyOf Try.f99) [1, 1, 0, 1]
noncomputable def bd99_0 : Code := sel (bodyOf Try.f99) [1, 1, 0, 1, 0, 0]
noncomputable def sp100_0 : List (Nat × Mode) := [(1, .any), (2, .any), (4, .any), (5, .any), (6, .any)]
noncomputable def sp100_2 : List (Nat × Mode) := [(2, .any), (4, .any), (5, (.trim (.int .i64)))]
noncomputable def jn100_0 : List (Nat × Mode) := [(1, .any), (2, .any), (4, .any), (5, .any), (6, .any)]
noncomputable def jn100_1 : List (Nat × Mode) := [(1, .any), (2, .any), (4, .any), (5, .any), (6, .any)]
noncomputable def jn100_2 : List (Nat × Mode) := [(2, .any), (4, .any), (5, .any)]
noncomputable def jn100_3 : List (Nat × Mode) := [(2, .any), (4, .any), (5, .any)]
noncomputable def an100 : Ann := ⟨[(.cells [.any, .any, (.lend (.int .i64))]), .any], [], [], [(3, sp100_0), (6, sp100_2)], [(0, jn100_0), (1, jn100_1), (2, jn100_2), (3, jn100_3)], [(0, sp100_0), (2, sp100_2)], [(6, [⟨[3], []⟩, ⟨[3], []⟩, ⟨[], []⟩, ⟨[], []⟩, ⟨[3], []⟩, ⟨[3], []⟩, ⟨[3], []⟩, ⟨[], []⟩, ⟨[1], []⟩, ⟨[], []⟩, ⟨[], []⟩])], [], []⟩
noncomputable def cd100_0 : Code := sel (bodyOf Try.f100) [1, 1, 1, 0]
noncomputable def bd100_0 : Code := sel (bodyOf Try.f100) [1, 1, 1, 0, 0, 0]
noncomputable def cd100_2 : Code := sel (bodyOf Try.f100) [1, 1, 1, 1, 1, 0]
noncomputable def bd100_2 : Code := sel (bodyOf Try.f100) [1, 1, 1, 1, 1, 0, 0, 0]
noncomputable def an87 : Ann := ⟨[(.cells [.any, .any, (.lend (.int .i64))]), (.lend (.int .u8))], [(.cells [.any, .any, (.own (.int .i64))]), (.own (.int .u8)), .any, .any], [], [], [], [], [(6, [⟨[], []⟩, ⟨[16384], []⟩, ⟨[], []⟩, ⟨[], []⟩, ⟨[], []⟩, ⟨[], []⟩, ⟨[], []⟩, ⟨[], []⟩, ⟨[], []⟩, ⟨[], []⟩, ⟨[], []⟩]), (16, [⟨[16384], []⟩, ⟨[], []⟩, ⟨[], []⟩, ⟨[], []⟩, ⟨[], []⟩, ⟨[], []⟩, ⟨[], []⟩, ⟨[278545], [16392]⟩, ⟨[278569], []⟩, ⟨[], []⟩, ⟨[], []⟩])], [], []⟩
noncomputable def sp53_1000014 : List (Nat × Mode) := [(2, .any), (4, .any), (9, .any), (10, .any), (13, .any), (14, .any), (27, .any), (28, .any), (29, .any), (46, .any)]
noncomputable def sp53_0 : List (Nat × Mode) := [(2, .any), (4, .any), (9, (.own (.slice (.int .u8)))), (10, (.own (.int .i64))), (27, .any), (28, .any), (29, .any)]
noncomputable def jn53_0 : List (Nat × Mode) := [(2, .any), (4, .any), (9, .any), (10, .any)]
noncomputable def jn53_1 : List (Nat × Mode) := [(2, .any), (4, .any), (9, .any), (10, .any), (27, .any), (28, .any), (29, .any)]
noncomputable def fi53_14 : List (Nat × Mode) := [(2, (.cells [.any, .any, (.lend (.int .i64))])), (4, .any), (9, (.own (.slice (.int .u8)))), (10, .any), (27, .any), (28, .any), (29, .any)]
noncomputable def an53 : Ann := ⟨[(.cells [.any, .any, (.lend (.int .i64))]), (.lend (.slice (.int .u8)))], [(.cells [.any, .any, (.own (.int .i64))]), (.own (.slice (.int .u8))), (.own (.int .i64)), .any], [], [(9, sp53_0)], [(0, jn53_0), (1, jn53_1)], [(0, sp53_0)], [(14, [⟨[4, 5, 6], []⟩, ⟨[3], []⟩, ⟨[6, 7], []⟩, ⟨[6, 7], []⟩, ⟨[6, 7, 245784], [3]⟩, ⟨[5, 6], [1]⟩, ⟨[245792], []⟩])], [(14, sp53_1000014)], [(14, fi53_14)]⟩
noncomputable def cd53_1000014 : Code := sel (bodyOf Try.f53) [1, 1, 1, 1, 1, 0, 1, 0, 0, 1, 1, 0, 0, 1, 1, 1, 1]
noncomputable def cd53_0 : Code := sel (bodyOf Try.f53) [1, 1, 1, 1, 1, 0, 1]
noncomputable def bd53_0 : Code := sel (bodyOf Try.f53) [1, 1, 1, 1, 1, 0, 1, 0, 0]
noncomputable def sp54_0 : List (Nat × Mode) := [(0, .any), (1, .any), (12, .any), (13, .any)]
noncomputable def jn54_0 : List (Nat × Mode) := []
noncomputable def jn54_1 : List (Nat × Mode) := [(0, .any), (1, .any), (12, .any), (13, .any)]
noncomputable def an54 : Ann := ⟨[(.lend (.int .i64)), (.lend (.int .i64))], [], [], [(4, sp54_0)], [(0, jn54_0), (1, jn54_1)], [(0, sp54_0)], [(6, [⟨[], []⟩, ⟨[], []⟩, ⟨[], []⟩, ⟨[], []⟩, ⟨[], []⟩, ⟨[], []⟩, ⟨[], []⟩, ⟨[], []⟩, ⟨[], []⟩])], [], []⟩
noncomputable def cd54_0 : Code := sel (bodyOf Try.f54) [1, 1, 0, 1]
noncomputable def bd54_0 : Code := sel (bodyOf Try.f54) [1, 1, 0, 1, 0, 0]
noncomputable def sp46_0 : List (Nat × Mode) := [(0, .any), (1, .any), (12, .any), (13, .any)]
noncomputable def jn46_0 : List (Nat × Mode) := []
noncomputable def jn46_1 : List (Nat × Mode) := [(0, .any), (1, .any), (12, .any), (13, .any)]
noncomputable def an46 : Ann := ⟨[(.lend (.slice (.int .u8))), (.lend (.slice (.int .u8)))], [], [], [(4, sp46_0)], [(0, jn46_0), (1, jn46_1)], [(0, sp46_0)], [(6, [⟨[], []⟩, ⟨[], []⟩, ⟨[], []⟩, ⟨[], []⟩, ⟨[], []⟩, ⟨[], []⟩, ⟨[], []⟩, ⟨[], []⟩, ⟨[], []⟩, ⟨[], []⟩])], [], []⟩
noncomputable def cd46_0 : Code := sel (bodyOf Try.f46) [1, 1, 0, 1]
noncomputable def bd46_0 : Code := sel (bodyOf Try.f46) [1, 1, 0, 1, 0, 0]
noncomputable def an55 : Ann := ⟨[(.cells [.any, .any, (.lend (.int .i64))]), (.cells [.any, .any, (.lend (.int .i64))])], [], [], [], [], [], [], [], []⟩
noncomputable def an14 : Ann := ⟨[(.cells [.any, .any, (.lend (.int .i64))]), (.lend (.slice (.int .u8)))], [], [], [], [], [], [], [], []⟩
noncomputable def an72 : Ann := ⟨[(.lend (.int .u8))], [], [], [], [], [], [], [], []⟩
noncomputable def an56 : Ann := ⟨[.any, .any, (.lend (.int .u8))], [(.own (.int .u8)), .any], [], [], [], [], [], [], []⟩
noncomputable def an58 : Ann := ⟨[(.cells [.any, .any, (.lend (.int .i64))]), (.lend (.int .u8))], [(.cells [.any, .any, (.own (.int .i64))]), (.own (.int .u8)), .any, .any], [], [], [], [], [], [], []⟩
noncomputable def an15 : Ann := ⟨[.any, .any, (.lend (.int .u8)), (.cells [.any, .any, (.lend (.int .i64))]), (.lend (.int .u8))], [], [], [], [], [], [(3, [⟨[16384], []⟩, ⟨[], []⟩, ⟨[16384], []⟩, ⟨[], []⟩, ⟨[], []⟩, ⟨[], []⟩, ⟨[], []⟩, ⟨[], []⟩, ⟨[], []⟩, ⟨[], []⟩, ⟨[], []⟩, ⟨[32793], []⟩, ⟨[49177], []⟩, ⟨[32793, 49177], []⟩, ⟨[], []⟩, ⟨[], []⟩])], [], []⟩
end Go.Proofs.Ytadkplikobhckaa.PM
