/- Annotations, and the equations of the loops (printed by a program of this work). -/
import Derived.Test.YtadkplikobhckaaPT0
import Derived.Test.YtadkplikobhckaaPmZ
import Derived.Test.YtadkplikobhckaaPmSh
import Derived.Test.YtadkplikobhckaaProg
import Derived.KernelRfl
set_option linter.unusedVariables false
set_option linter.unusedSimpArgs false
set_option maxRecDepth 100000
namespace Go.Proofs.Ytadkplikobhckaa.PM
open Go
noncomputable def T : TT := [(3, ⟨.int .i64, 1, 8, [.int .i64 0], some (.int .i64)⟩),
  (4, ⟨.bool, 1, 1, [.bool false], some .bool⟩),
  (5, ⟨.int .u8, 1, 1, [.int .u8 0], some (.int .u8)⟩),
  (22, ⟨.slice 5, 1, 24, [.slice none 0 0], some (.slice (.int .u8))⟩),
  (24, ⟨.struct [(3, 0), (3, 1), (22, 2)], 3, 40, [.int .i64 0, .int .i64 0, .slice none 0 0], some (.prod (.int .i64) (.prod (.int .i64) (.prod (.slice (.int .u8)) .unit)))⟩),
  (25, ⟨.int .i64, 1, 8, [.int .i64 0], some (.int .i64)⟩),
  (30, ⟨.struct [(3, 0), (4, 1), (4, 2), (4, 3)], 4, 16, [.int .i64 0, .bool false, .bool false, .bool false], some (.prod (.int .i64) (.prod .bool (.prod .bool (.prod .bool .unit))))⟩),
  (41, ⟨.struct [(3, 0), (3, 1), (4, 2), (4, 3), (4, 4), (3, 5)], 6, 32, [.int .i64 0, .int .i64 0, .bool false, .bool false, .bool false, .int .i64 0], some (.prod (.int .i64) (.prod (.int .i64) (.prod .bool (.prod .bool (.prod .bool (.prod (.int .i64) .unit))))))⟩),
  (42, ⟨.slice 24, 1, 24, [.slice none 0 0], some (.slice (.prod (.int .i64) (.prod (.int .i64) (.prod (.slice (.int .u8)) .unit))))⟩),
  (49, ⟨.slice 22, 1, 24, [.slice none 0 0], some (.slice (.slice (.int .u8)))⟩),
  (51, ⟨.struct [(3, 0), (3, 1), (49, 2), (3, 3), (4, 4)], 5, 56, [.int .i64 0, .int .i64 0, .slice none 0 0, .int .i64 0, .bool false], some (.prod (.int .i64) (.prod (.int .i64) (.prod (.slice (.slice (.int .u8))) (.prod (.int .i64) (.prod .bool .unit)))))⟩),
  (63, ⟨.slice 70, 1, 24, [.slice none 0 0], some (.slice (.prod .bool (.prod .bool (.prod .bool (.prod .bool (.prod (.int .i64) .unit))))))⟩),
  (70, ⟨.struct [(4, 0), (4, 1), (4, 2), (4, 3), (3, 4)], 5, 16, [.bool false, .bool false, .bool false, .bool false, .int .i64 0], some (.prod .bool (.prod .bool (.prod .bool (.prod .bool (.prod (.int .i64) .unit)))))⟩),
  (92, ⟨.slice 4, 1, 24, [.slice none 0 0], some (.slice .bool)⟩),
  (108, ⟨.struct [(41, 0), (51, 6), (49, 11)], 12, 112, [.int .i64 0, .int .i64 0, .bool false, .bool false, .bool false, .int .i64 0, .int .i64 0, .int .i64 0, .slice none 0 0, .int .i64 0, .bool false, .slice none 0 0], some (.prod (.prod (.int .i64) (.prod (.int .i64) (.prod .bool (.prod .bool (.prod .bool (.prod (.int .i64) .unit)))))) (.prod (.prod (.int .i64) (.prod (.int .i64) (.prod (.slice (.slice (.int .u8))) (.prod (.int .i64) (.prod .bool .unit))))) (.prod (.slice (.slice (.int .u8))) .unit)))⟩),
  (118, ⟨.slice 25, 1, 24, [.slice none 0 0], some (.slice (.int .i64))⟩)]
noncomputable def sel : Code → List Nat → Code
  | c, [] => c
  | .seq a _, 0 :: l => sel a l
  | .seq _ b, _ :: l => sel b l
  | .cond _ a _, 0 :: l => sel a l
  | .cond _ _ b, _ :: l => sel b l
  | .block _ b, _ :: l => sel b l
  | .loop b, _ :: l => sel b l
  | c, _ => c
noncomputable def bodyOf (f : Func) : Code := match f.body with | some c => c | none => .skip
noncomputable def opsOf : Code → Array Oper
  | .region _ o _ => o
  | _ => #[]
noncomputable def operAt (c : Code) (i : Nat) : Oper := (opsOf c).getD i ⟨none, .alloc 0, 0, "", #[], none⟩

noncomputable def an62 : Ann := ⟨[.any, .any, .any], [], [], [], [], [], [], [], []⟩
noncomputable def jn70_0 : List (Nat × Mode) := []
noncomputable def an70 : Ann := ⟨[(.lend (.int .u8))], [], [], [], [(0, jn70_0)], [], [], [], []⟩
noncomputable def jn60_0 : List (Nat × Mode) := []
noncomputable def an60 : Ann := ⟨[(.cells [.any, .any, (.lend (.int .u8))])], [], [], [], [(0, jn60_0)], [], [], [], []⟩
noncomputable def an16 : Ann := ⟨[(.lend (.int .u8))], [(.cells [.any, .any, (.own (.int .u8))]), .any], [], [], [], [], [(3, [⟨[], []⟩, ⟨[], []⟩, ⟨[], []⟩, ⟨[], []⟩, ⟨[], []⟩, ⟨[], []⟩, ⟨[], []⟩, ⟨[], []⟩, ⟨[], []⟩, ⟨[], []⟩, ⟨[], []⟩, ⟨[65617], []⟩, ⟨[], []⟩, ⟨[65617], [65632]⟩])], [], []⟩
noncomputable def an63 : Ann := ⟨[.any, .any, .any], [], [], [], [], [], [], [], []⟩
noncomputable def an90 : Ann := ⟨[.any], [], [], [], [], [], [], [], []⟩
noncomputable def an91 : Ann := ⟨[.any], [], [], [], [], [], [], [], []⟩
noncomputable def an72 : Ann := ⟨[(.lend (.int .u8))], [], [], [], [], [], [], [], []⟩
noncomputable def jn61_0 : List (Nat × Mode) := []
noncomputable def an61 : Ann := ⟨[(.cells [.any, .any, (.lend (.int .u8))])], [], [], [], [(0, jn61_0)], [], [], [], []⟩
noncomputable def an17 : Ann := ⟨[(.lend (.int .u8))], [(.cells [.any, .any, (.own (.int .u8))]), .any], [], [], [], [], [(3, [⟨[], []⟩, ⟨[], []⟩, ⟨[], []⟩, ⟨[], []⟩, ⟨[], []⟩, ⟨[], []⟩, ⟨[], []⟩, ⟨[], []⟩, ⟨[], []⟩, ⟨[], []⟩, ⟨[], []⟩, ⟨[65617], []⟩, ⟨[], []⟩, ⟨[65617], [65632]⟩])], [], []⟩
noncomputable def sp24_0 : List (Nat × Mode) := [(0, .any), (1, .any), (12, .any), (13, .any)]
noncomputable def jn24_0 : List (Nat × Mode) := []
noncomputable def jn24_1 : List (Nat × Mode) := [(0, .any), (1, .any), (12, .any), (13, .any)]
noncomputable def an24 : Ann := ⟨[(.lend (.int .u8)), (.lend (.int .u8))], [], [], [(4, sp24_0)], [(0, jn24_0), (1, jn24_1)], [(0, sp24_0)], [(6, [⟨[], []⟩, ⟨[], []⟩, ⟨[], []⟩, ⟨[], []⟩, ⟨[], []⟩, ⟨[], []⟩, ⟨[], []⟩, ⟨[], []⟩, ⟨[], []⟩])], [], []⟩
noncomputable def cd24_0 : Code := sel (bodyOf Try.f24) [1, 1, 0, 1]
noncomputable def bd24_0 : Code := sel (bodyOf Try.f24) [1, 1, 0, 1, 0, 0]
noncomputable def an18 : Ann := ⟨[(.cells [.any, .any, (.lend (.int .u8))]), (.cells [.any, .any, (.lend (.int .u8))])], [], [], [], [], [], [], [], []⟩
noncomputable def an19 : Ann := ⟨[(.lend (.int .u8))], [], [], [], [], [], [(3, [⟨[], []⟩, ⟨[], []⟩, ⟨[], []⟩, ⟨[], []⟩, ⟨[], []⟩, ⟨[], []⟩, ⟨[], []⟩, ⟨[], []⟩, ⟨[], []⟩, ⟨[], []⟩, ⟨[], []⟩, ⟨[], []⟩, ⟨[], []⟩, ⟨[], []⟩, ⟨[], []⟩, ⟨[], []⟩, ⟨[], []⟩, ⟨[], []⟩, ⟨[], []⟩, ⟨[], []⟩, ⟨[], [16384]⟩, ⟨[], []⟩])], [], []⟩
noncomputable def an20 : Ann := ⟨[(.lend (.int .u8))], [], [], [], [], [], [(3, [⟨[], []⟩, ⟨[], []⟩, ⟨[], []⟩, ⟨[], []⟩, ⟨[], []⟩, ⟨[], []⟩, ⟨[], []⟩, ⟨[], []⟩, ⟨[], []⟩, ⟨[], []⟩, ⟨[], []⟩, ⟨[], []⟩, ⟨[], []⟩, ⟨[], []⟩, ⟨[], []⟩, ⟨[], []⟩, ⟨[], []⟩, ⟨[], []⟩, ⟨[], []⟩, ⟨[], []⟩, ⟨[], [16384]⟩, ⟨[], []⟩])], [], []⟩
noncomputable def sp25_1000008 : List (Nat × Mode) := [(1, .any), (4, .any), (5, .any), (17, .any), (18, .any), (19, .any), (24, .any)]
noncomputable def sp25_0 : List (Nat × Mode) := [(1, .any), (4, .any), (17, .any), (18, .any), (19, .any)]
noncomputable def jn25_0 : List (Nat × Mode) := [(1, .any), (4, .any)]
noncomputable def jn25_1 : List (Nat × Mode) := [(1, .any), (4, .any), (17, .any), (18, .any), (19, .any)]
noncomputable def fi25_8 : List (Nat × Mode) := [(1, .any), (4, .any), (17, .any), (18, .any), (19, .any)]
noncomputable def an25 : Ann := ⟨[.any], [(.own (.int .u8)), .any], [], [(5, sp25_0)], [(0, jn25_0), (1, jn25_1)], [(0, sp25_0)], [], [(8, sp25_1000008)], [(8, fi25_8)]⟩
noncomputable def cd25_1000008 : Code := sel (bodyOf Try.f25) [1, 1, 1, 0, 1, 0, 0, 1, 1, 0, 0, 1, 1]
noncomputable def cd25_0 : Code := sel (bodyOf Try.f25) [1, 1, 1, 0, 1]
noncomputable def bd25_0 : Code := sel (bodyOf Try.f25) [1, 1, 1, 0, 1, 0, 0]
noncomputable def an21 : Ann := ⟨[], [], [], [], [], [], [], [], []⟩
noncomputable def an3 : Ann := ⟨[(.lend (.int .u8))], [], [], [], [], [], [], [], []⟩
noncomputable def an22 : Ann := ⟨[(.cells [.any, .any, (.lend (.int .u8))])], [(.own (.int .u8)), .any], [], [], [], [], [], [], []⟩
noncomputable def an23 : Ann := ⟨[(.cells [.any, .any, (.lend (.int .u8))])], [(.own (.int .u8)), .any], [], [], [], [], [], [], []⟩
noncomputable def an64 : Ann := ⟨[.any, .any], [], [], [], [], [], [], [], []⟩
noncomputable def an26 : Ann := ⟨[.any], [(.own (.int .u8)), .any], [], [], [], [], [(3, [⟨[], []⟩, ⟨[16384], []⟩, ⟨[], []⟩, ⟨[], []⟩, ⟨[16384], []⟩, ⟨[], []⟩, ⟨[], []⟩, ⟨[16384], []⟩, ⟨[], []⟩, ⟨[], []⟩, ⟨[], []⟩, ⟨[16384], []⟩, ⟨[], []⟩, ⟨[], []⟩, ⟨[], []⟩, ⟨[], []⟩, ⟨[65656], []⟩, ⟨[], []⟩])], [], []⟩
noncomputable def sp4_1000006 : List (Nat × Mode) := [(2, .any), (3, .any), (5, .any), (36, .any)]
noncomputable def fi4_6 : List (Nat × Mode) := [(3, .any)]
noncomputable def an4 : Ann := ⟨[(.cells [.any, .any, (.lend (.int .u8))]), .any], [], [], [], [], [], [], [(6, sp4_1000006)], [(6, fi4_6)]⟩
noncomputable def cd4_1000006 : Code := sel (bodyOf Try.f4) [1, 1, 1, 1, 0, 1]
noncomputable def an29 : Ann := ⟨[.any], [], [], [], [], [], [], [], []⟩
noncomputable def sp65_0 : List (Nat × Mode) := [(5, .any), (6, .any), (7, .any)]
noncomputable def jn65_0 : List (Nat × Mode) := []
noncomputable def jn65_1 : List (Nat × Mode) := [(5, .any), (6, .any), (7, .any)]
noncomputable def an65 : Ann := ⟨[(.lend (.int .i64))], [], [], [(2, sp65_0)], [(0, jn65_0), (1, jn65_1)], [(0, sp65_0)], [], [], []⟩
noncomputable def cd65_0 : Code := sel (bodyOf Try.f65) [1, 0, 1]
noncomputable def bd65_0 : Code := sel (bodyOf Try.f65) [1, 0, 1, 0, 0]
noncomputable def an92 : Ann := ⟨[.any, .any], [], [], [], [], [], [], [], []⟩
noncomputable def jn66_0 : List (Nat × Mode) := [(2, .any), (4, .any)]
noncomputable def an66 : Ann := ⟨[.any, .any], [], [], [], [(0, jn66_0)], [], [(9, [⟨[], []⟩, ⟨[], []⟩, ⟨[16384], []⟩, ⟨[], []⟩, ⟨[], []⟩, ⟨[16384], []⟩, ⟨[], []⟩, ⟨[], []⟩, ⟨[], []⟩]), (12, [⟨[], []⟩, ⟨[16384], []⟩, ⟨[], []⟩, ⟨[], []⟩, ⟨[], []⟩, ⟨[16384], []⟩, ⟨[], []⟩, ⟨[], []⟩, ⟨[], []⟩])], [], []⟩
noncomputable def sp27_1000016 : List (Nat × Mode) := [(2, .any), (3, .any), (4, .any), (8, .any), (45, .any)]
noncomputable def sp27_1000015 : List (Nat × Mode) := [(2, .any), (3, .any), (4, .any), (8, .any), (42, .any)]
noncomputable def sp27_1000013 : List (Nat × Mode) := [(2, .any), (3, .any), (4, .any), (8, .any), (20, .any), (37, .any)]
noncomputable def sp27_1000010 : List (Nat × Mode) := [(2, .any), (3, .any), (4, .any), (8, .any), (20, .any), (31, .any)]
noncomputable def sp27_1000008 : List (Nat × Mode) := [(2, .any), (3, .any), (4, .any), (8, .any), (20, .any), (22, .any)]
noncomputable def jn27_0 : List (Nat × Mode) := [(2, .any), (4, .any), (8, .any)]
noncomputable def fi27_16 : List (Nat × Mode) := [(2, .any), (4, .any), (8, .any)]
noncomputable def fi27_15 : List (Nat × Mode) := [(2, .any), (4, .any), (8, .any)]
noncomputable def fi27_13 : List (Nat × Mode) := [(2, .any), (4, .any), (8, .any)]
noncomputable def fi27_10 : List (Nat × Mode) := [(2, .any), (4, .any), (8, .any)]
noncomputable def fi27_8 : List (Nat × Mode) := [(2, .any), (4, .any), (8, .any)]
noncomputable def an27 : Ann := ⟨[.any, (.cells [.any, .any, (.lend (.int .u8))])], [], [], [], [(0, jn27_0)], [], [(1, [⟨[16384], []⟩, ⟨[], []⟩, ⟨[16392], []⟩, ⟨[], []⟩, ⟨[], []⟩, ⟨[32800], []⟩, ⟨[], []⟩])], [(16, sp27_1000016), (15, sp27_1000015), (13, sp27_1000013), (10, sp27_1000010), (8, sp27_1000008)], [(16, fi27_16), (15, fi27_15), (13, fi27_13), (10, fi27_10), (8, fi27_8)]⟩
noncomputable def cd27_1000016 : Code := sel (bodyOf Try.f27) [1, 1, 1, 0, 1, 0, 1, 1, 1, 1, 1, 1, 1, 0, 1]
noncomputable def cd27_1000015 : Code := sel (bodyOf Try.f27) [1, 1, 1, 0, 1, 0, 1, 1, 1, 1, 1, 1, 1]
noncomputable def cd27_1000013 : Code := sel (bodyOf Try.f27) [1, 1, 1, 0, 1, 0, 1, 1, 1, 1, 1]
noncomputable def cd27_1000010 : Code := sel (bodyOf Try.f27) [1, 1, 1, 0, 1, 0, 1, 1, 1]
noncomputable def cd27_1000008 : Code := sel (bodyOf Try.f27) [1, 1, 1, 0, 1, 0, 1]
noncomputable def sp5_1000009 : List (Nat × Mode) := [(2, .any), (5, .any), (7, .any), (8, .any), (9, .any), (13, .any), (14, .any), (15, .any), (37, .any)]
noncomputable def sp5_1000013 : List (Nat × Mode) := [(2, .any), (5, .any), (7, .any), (8, .any), (13, .any), (14, .any), (15, .any), (59, .any)]
noncomputable def sp5_1 : List (Nat × Mode) := [(2, .any), (5, .any), (13, .any), (14, .any), (15, .any)]
noncomputable def sp5_0 : List (Nat × Mode) := [(2, .any), (5, .any), (13, .any), (14, .any), (15, .any)]
noncomputable def jn5_0 : List (Nat × Mode) := []
noncomputable def jn5_1 : List (Nat × Mode) := [(2, .any), (5, .any), (13, .any), (14, .any), (15, .any)]
noncomputable def fi5_9 : List (Nat × Mode) := [(2, .any), (5, .any), (7, .any), (8, .any), (9, .any), (13, .any), (14, .any), (15, .any)]
noncomputable def fi5_13 : List (Nat × Mode) := [(2, .any), (5, .any), (8, .any), (13, .any), (14, .any), (15, .any)]
noncomputable def an5 : Ann := ⟨[.any, (.lend (.prod (.int .i64) (.prod (.int .i64) (.prod (.slice (.int .u8)) .unit))))], [], [], [(3, sp5_0)], [(0, jn5_0), (1, jn5_1)], [(1, sp5_1), (0, sp5_0)], [], [(9, sp5_1000009), (13, sp5_1000013)], [(9, fi5_9), (13, fi5_13)]⟩
noncomputable def cd5_1000009 : Code := sel (bodyOf Try.f5) [1, 1, 0, 1, 0, 0, 1, 1, 0, 0, 1, 1, 1, 1, 0, 1]
noncomputable def cd5_1000013 : Code := sel (bodyOf Try.f5) [1, 1, 0, 1, 0, 0, 1, 1, 0, 0, 1, 1, 1, 1, 1, 0, 1]
noncomputable def cd5_1 : Code := sel (bodyOf Try.f5) [1, 1, 0, 1, 0, 0, 1, 1, 0]
noncomputable def cd5_0 : Code := sel (bodyOf Try.f5) [1, 1, 0, 1]
noncomputable def bd5_0 : Code := sel (bodyOf Try.f5) [1, 1, 0, 1, 0, 0]
noncomputable def an30 : Ann := ⟨[.any], [], [], [], [], [], [], [], []⟩
noncomputable def an94 : Ann := ⟨[.any, .any], [], [], [], [], [], [], [], []⟩
noncomputable def jn93_0 : List (Nat × Mode) := [(2, .any), (4, .any)]
noncomputable def an93 : Ann := ⟨[.any, (.cells [.any, .any, (.lend (.int .u8))])], [], [], [], [(0, jn93_0)], [], [(14, [⟨[], []⟩, ⟨[16384], []⟩, ⟨[], []⟩, ⟨[16392], []⟩, ⟨[], []⟩, ⟨[], []⟩, ⟨[16384], []⟩, ⟨[], []⟩, ⟨[], []⟩, ⟨[], []⟩])], [], []⟩
noncomputable def sp67_1000014 : List (Nat × Mode) := [(2, .any), (4, .any), (36, .any)]
noncomputable def sp67_1000010 : List (Nat × Mode) := [(2, .any), (3, .any), (4, .any), (7, .any), (27, .any)]
noncomputable def sp67_1000008 : List (Nat × Mode) := [(2, .any), (3, .any), (4, .any), (7, .any), (22, .any)]
noncomputable def jn67_0 : List (Nat × Mode) := [(2, .any), (4, .any)]
noncomputable def fi67_14 : List (Nat × Mode) := [(2, .any), (4, .any)]
noncomputable def fi67_10 : List (Nat × Mode) := [(2, .any), (4, .any)]
noncomputable def fi67_8 : List (Nat × Mode) := [(2, .any), (4, .any)]
noncomputable def an67 : Ann := ⟨[.any, (.cells [.any, .any, (.lend (.int .u8))])], [], [], [], [(0, jn67_0)], [], [], [(14, sp67_1000014), (10, sp67_1000010), (8, sp67_1000008)], [(14, fi67_14), (10, fi67_10), (8, fi67_8)]⟩
noncomputable def cd67_1000014 : Code := sel (bodyOf Try.f67) [1, 0, 1, 0, 1, 1, 1, 1, 1, 1, 1, 1, 1]
noncomputable def cd67_1000010 : Code := sel (bodyOf Try.f67) [1, 0, 1, 0, 1, 1, 1, 1, 1, 1, 1]
noncomputable def cd67_1000008 : Code := sel (bodyOf Try.f67) [1, 0, 1, 0, 1, 1, 1, 1, 1]
noncomputable def an28 : Ann := ⟨[.any, (.cells [.any, .any, (.lend (.int .u8))])], [], [], [], [], [], [], [], []⟩
noncomputable def an68 : Ann := ⟨[.any], [], [], [], [], [], [], [], []⟩
noncomputable def an31 : Ann := ⟨[.any], [], [], [], [], [], [], [], []⟩
noncomputable def an69 : Ann := ⟨[.any], [], [], [], [], [], [], [], []⟩
noncomputable def an32 : Ann := ⟨[.any], [], [], [], [], [], [], [], []⟩
noncomputable def an6 : Ann := ⟨[.any, (.cells [.any, .any, (.lend (.int .u8))])], [], [], [], [], [], [(3, [⟨[16384], []⟩, ⟨[], []⟩, ⟨[16384], []⟩, ⟨[], []⟩, ⟨[], []⟩, ⟨[], []⟩, ⟨[], []⟩, ⟨[], []⟩, ⟨[], []⟩, ⟨[], []⟩, ⟨[], []⟩, ⟨[], []⟩, ⟨[], []⟩, ⟨[], []⟩, ⟨[], []⟩, ⟨[], []⟩, ⟨[32824], []⟩, ⟨[49208], []⟩, ⟨[], []⟩, ⟨[], []⟩])], [], []⟩
noncomputable def an74 : Ann := ⟨[.any, .any, .any], [], [], [], [], [], [], [], []⟩
noncomputable def sp35_1 : List (Nat × Mode) := [(1, .any), (23, .any), (24, .any), (25, .any)]
noncomputable def jn35_0 : List (Nat × Mode) := [(1, .any)]
noncomputable def jn35_1 : List (Nat × Mode) := [(1, .any)]
noncomputable def jn35_2 : List (Nat × Mode) := [(1, .any), (23, .any), (24, .any), (25, .any)]
noncomputable def an35 : Ann := ⟨[(.cells [.any, .any, (.lend (.slice (.int .u8))), .any, .any])], [], [], [(6, sp35_1)], [(0, jn35_0), (1, jn35_1), (2, jn35_2)], [(1, sp35_1)], [], [], []⟩
noncomputable def cd35_1 : Code := sel (bodyOf Try.f35) [1, 1, 0, 1]
noncomputable def bd35_1 : Code := sel (bodyOf Try.f35) [1, 1, 0, 1, 0, 0]
noncomputable def sp71_0 : List (Nat × Mode) := [(1, .any), (2, .any), (10, .any), (11, .any), (12, .any)]
noncomputable def jn71_0 : List (Nat × Mode) := [(1, .any), (2, .any)]
noncomputable def jn71_1 : List (Nat × Mode) := [(1, .any), (2, .any), (10, .any), (11, .any), (12, .any)]
noncomputable def an71 : Ann := ⟨[(.cells [.any, .any, (.lend (.slice (.int .u8))), .any, .any])], [], [], [(3, sp71_0)], [(0, jn71_0), (1, jn71_1)], [(0, sp71_0)], [(5, [⟨[], []⟩, ⟨[1, 2], []⟩, ⟨[], []⟩, ⟨[], []⟩, ⟨[], []⟩, ⟨[2], []⟩, ⟨[98337], [2]⟩])], [], []⟩
noncomputable def cd71_0 : Code := sel (bodyOf Try.f71) [1, 1, 0, 1]
noncomputable def bd71_0 : Code := sel (bodyOf Try.f71) [1, 1, 0, 1, 0, 0]
noncomputable def an33 : Ann := ⟨[(.cells [.any, .any, (.lend (.slice (.int .u8))), .any, .any]), (.lend (.int .u8))], [(.cells [.any, .any, (.tie (.own (.slice (.int .u8)))), .any, .any]), .any], [], [], [], [], [(10, [⟨[], []⟩, ⟨[16384, 163849], []⟩, ⟨[], []⟩, ⟨[], []⟩, ⟨[180249], []⟩, ⟨[180249, 180256], [163849]⟩, ⟨[], []⟩, ⟨[180264], [16384]⟩])], [], []⟩
noncomputable def sp36_0 : List (Nat × Mode) := [(1, .any), (21, .any), (22, .any), (23, .any)]
noncomputable def jn36_0 : List (Nat × Mode) := [(1, .any)]
noncomputable def jn36_1 : List (Nat × Mode) := [(1, .any), (21, .any), (22, .any), (23, .any)]
noncomputable def an36 : Ann := ⟨[(.cells [.any, .any, (.lend (.slice (.int .u8))), .any, .any])], [], [], [(6, sp36_0)], [(0, jn36_0), (1, jn36_1)], [(0, sp36_0)], [], [], []⟩
noncomputable def cd36_0 : Code := sel (bodyOf Try.f36) [1, 1, 1, 0, 1]
noncomputable def bd36_0 : Code := sel (bodyOf Try.f36) [1, 1, 1, 0, 1, 0, 0]
noncomputable def an34 : Ann := ⟨[(.cells [.any, .any, (.lend (.slice (.int .u8))), .any, .any]), (.lend (.int .u8))], [(.cells [.any, .any, (.tie (.own (.slice (.int .u8)))), .any, .any]), .any], [], [], [], [], [], [], []⟩
noncomputable def sp46_0 : List (Nat × Mode) := [(0, .any), (1, .any), (12, .any), (13, .any)]
noncomputable def jn46_0 : List (Nat × Mode) := []
noncomputable def jn46_1 : List (Nat × Mode) := [(0, .any), (1, .any), (12, .any), (13, .any)]
noncomputable def an46 : Ann := ⟨[(.lend (.slice (.int .u8))), (.lend (.slice (.int .u8)))], [], [], [(4, sp46_0)], [(0, jn46_0), (1, jn46_1)], [(0, sp46_0)], [(6, [⟨[], []⟩, ⟨[], []⟩, ⟨[], []⟩, ⟨[], []⟩, ⟨[], []⟩, ⟨[], []⟩, ⟨[], []⟩, ⟨[], []⟩, ⟨[], []⟩, ⟨[], []⟩])], [], []⟩
noncomputable def cd46_0 : Code := sel (bodyOf Try.f46) [1, 1, 0, 1]
noncomputable def bd46_0 : Code := sel (bodyOf Try.f46) [1, 1, 0, 1, 0, 0]
noncomputable def an37 : Ann := ⟨[(.cells [.any, .any, (.lend (.slice (.int .u8))), .any, .any]), (.cells [.any, .any, (.lend (.slice (.int .u8))), .any, .any])], [], [], [], [], [], [], [], []⟩
noncomputable def an75 : Ann := ⟨[(.cells [.any, .any, (.lend (.slice (.int .u8))), .any, .any])], [.any, (.cells [.any, .any, (.own (.int .u8))]), .any], [], [], [], [], [(3, [⟨[], []⟩, ⟨[16384], []⟩, ⟨[], []⟩, ⟨[16384], []⟩, ⟨[], []⟩, ⟨[], []⟩, ⟨[], []⟩, ⟨[16384], []⟩, ⟨[], []⟩, ⟨[16384], []⟩, ⟨[], []⟩, ⟨[], []⟩, ⟨[], []⟩, ⟨[65633], []⟩, ⟨[], []⟩, ⟨[65633], [65648]⟩]), (5, [⟨[16384], []⟩, ⟨[65633, 65648], []⟩, ⟨[], [16392]⟩, ⟨[65633], [16400]⟩, ⟨[], []⟩])], [], []⟩
noncomputable def an38 : Ann := ⟨[(.cells [.any, .any, (.lend (.slice (.int .u8))), .any, .any])], [(.cells [.any, .any, (.lend (.slice (.int .u8))), .any, .any]), (.cells [.any, .any, (.own (.int .u8))]), .any, .any], [], [], [], [], [(5, [⟨[16384, 81929], []⟩, ⟨[81937, 81976], []⟩, ⟨[], []⟩, ⟨[81929], [16392]⟩, ⟨[81937], [16400]⟩, ⟨[], []⟩, ⟨[], []⟩])], [], []⟩
noncomputable def an76 : Ann := ⟨[(.cells [.any, .any, (.lend (.slice (.int .u8))), .any, .any])], [.any, (.cells [.any, .any, (.own (.int .u8))]), .any], [], [], [], [], [(3, [⟨[], []⟩, ⟨[16384], []⟩, ⟨[], []⟩, ⟨[16384], []⟩, ⟨[], []⟩, ⟨[], []⟩, ⟨[], []⟩, ⟨[16384], []⟩, ⟨[], []⟩, ⟨[16384], []⟩, ⟨[], []⟩, ⟨[], []⟩, ⟨[], []⟩, ⟨[65633], []⟩, ⟨[], []⟩, ⟨[65633], [65648]⟩]), (5, [⟨[16384], []⟩, ⟨[65633, 65648], []⟩, ⟨[], [16392]⟩, ⟨[65633], [16400]⟩, ⟨[], []⟩])], [], []⟩
noncomputable def an39 : Ann := ⟨[(.cells [.any, .any, (.lend (.slice (.int .u8))), .any, .any])], [(.cells [.any, .any, (.lend (.slice (.int .u8))), .any, .any]), (.cells [.any, .any, (.own (.int .u8))]), .any, .any], [], [], [], [], [(5, [⟨[16384], []⟩, ⟨[81929, 81968], []⟩, ⟨[], []⟩, ⟨[], [16392]⟩, ⟨[81929], [16400]⟩, ⟨[], []⟩, ⟨[], []⟩])], [], []⟩
noncomputable def sp77_1000006 : List (Nat × Mode) := [(2, .any), (3, .any), (4, .any), (5, .any), (18, .any)]
noncomputable def sp77_1000009 : List (Nat × Mode) := [(2, .any), (4, .any), (37, .any)]
noncomputable def fi77_6 : List (Nat × Mode) := [(2, .any), (3, .any), (4, .any)]
noncomputable def fi77_9 : List (Nat × Mode) := [(2, .any), (4, .any)]
noncomputable def an77 : Ann := ⟨[(.cells [.any, .any, (.lend (.slice (.int .u8))), .any, .any]), .any], [], [], [], [], [], [(6, [⟨[], []⟩, ⟨[1], []⟩, ⟨[], []⟩, ⟨[], []⟩, ⟨[], []⟩, ⟨[1], []⟩, ⟨[], []⟩, ⟨[], []⟩, ⟨[], []⟩, ⟨[], []⟩, ⟨[1], []⟩, ⟨[], []⟩, ⟨[], []⟩, ⟨[], []⟩, ⟨[], [1]⟩, ⟨[], []⟩, ⟨[], [1]⟩, ⟨[], []⟩, ⟨[], [1]⟩])], [(6, sp77_1000006), (9, sp77_1000009)], [(6, fi77_6), (9, fi77_9)]⟩
noncomputable def cd77_1000006 : Code := sel (bodyOf Try.f77) [1, 1, 0, 1, 1]
noncomputable def cd77_1000009 : Code := sel (bodyOf Try.f77) [1, 1, 1, 0, 1]
noncomputable def an40 : Ann := ⟨[(.cells [.any, .any, (.lend (.slice (.int .u8))), .any, .any]), .any], [(.cells [.any, .any, (.tie (.own (.slice (.int .u8)))), .any, .any]), .any], [], [], [], [], [(1, [⟨[16384], []⟩, ⟨[], []⟩, ⟨[], []⟩, ⟨[16392], []⟩, ⟨[], []⟩, ⟨[], []⟩, ⟨[32808], []⟩, ⟨[], []⟩])], [], []⟩
noncomputable def sp78_1000006 : List (Nat × Mode) := [(2, .any), (3, .any), (4, .any), (5, .any), (18, .any)]
noncomputable def sp78_1000009 : List (Nat × Mode) := [(2, .any), (4, .any), (35, .any)]
noncomputable def fi78_6 : List (Nat × Mode) := [(2, (.cells [.any, .any, (.lend (.slice (.int .u8))), .any, .any])), (3, .any), (4, .any)]
noncomputable def fi78_9 : List (Nat × Mode) := [(2, .any), (4, .any)]
noncomputable def an78 : Ann := ⟨[(.cells [.any, .any, (.lend (.slice (.int .u8))), .any, .any]), .any], [], [], [], [], [], [(7, [⟨[], []⟩, ⟨[1], []⟩, ⟨[], []⟩, ⟨[], []⟩, ⟨[], []⟩, ⟨[], []⟩, ⟨[2], []⟩, ⟨[], []⟩, ⟨[1], []⟩, ⟨[], []⟩, ⟨[], []⟩, ⟨[], []⟩, ⟨[131105], [1]⟩, ⟨[], []⟩, ⟨[131105], [1]⟩, ⟨[], []⟩, ⟨[131105], [1]⟩])], [(6, sp78_1000006), (9, sp78_1000009)], [(6, fi78_6), (9, fi78_9)]⟩
noncomputable def cd78_1000006 : Code := sel (bodyOf Try.f78) [1, 1, 1, 0, 1]
noncomputable def cd78_1000009 : Code := sel (bodyOf Try.f78) [1, 1, 1, 1, 0, 1]
noncomputable def an41 : Ann := ⟨[(.cells [.any, .any, (.lend (.slice (.int .u8))), .any, .any]), .any], [(.cells [.any, .any, (.lend (.slice (.int .u8))), .any, .any]), .any], [], [], [], [], [], [], []⟩
noncomputable def an7 : Ann := ⟨[(.cells [.any, .any, (.lend (.slice (.int .u8))), .any, .any]), (.lend (.int .u8)), .any], [], [], [], [], [], [(3, [⟨[16384], []⟩, ⟨[], []⟩, ⟨[16384], []⟩, ⟨[], []⟩, ⟨[], []⟩, ⟨[], []⟩, ⟨[], []⟩, ⟨[], []⟩, ⟨[], []⟩, ⟨[], []⟩, ⟨[], []⟩, ⟨[32785, 32816], []⟩, ⟨[49169, 49200], []⟩, ⟨[32785, 49169], []⟩, ⟨[], []⟩, ⟨[], []⟩])], [], []⟩
noncomputable def sp79_1000010 : List (Nat × Mode) := [(0, .any), (3, .any), (6, .any), (50, .any)]
noncomputable def sp79_1000005 : List (Nat × Mode) := [(0, .any), (3, .any), (6, .any), (31, .any)]
noncomputable def sp79_1000002 : List (Nat × Mode) := [(0, .any), (3, .any), (12, .any)]
noncomputable def sp79_1000012 : List (Nat × Mode) := [(0, .any), (3, .any), (64, .any)]
noncomputable def sp79_1000014 : List (Nat × Mode) := [(0, .any), (78, .any)]
noncomputable def fi79_10 : List (Nat × Mode) := [(0, (.cells [.any, .any, .any, .any, .any, .any, .any, .any, .any, .any, .any, (.move (.slice (.int .u8)))])), (3, (.drop 2 .any))]
noncomputable def fi79_5 : List (Nat × Mode) := [(0, (.cells [.any, .any, .any, .any, .any, .any, .any, .any, .any, .any, .any, (.move (.slice (.int .u8)))])), (3, (.drop 2 .any))]
noncomputable def fi79_2 : List (Nat × Mode) := [(0, (.cells [.any, .any, .any, .any, .any, .any, .any, .any, (.lend (.slice (.int .u8))), .any, .any, (.move (.slice (.int .u8)))])), (3, (.drop 2 .any))]
noncomputable def fi79_12 : List (Nat × Mode) := [(0, .any), (3, .any)]
noncomputable def fi79_14 : List (Nat × Mode) := []
noncomputable def an79 : Ann := ⟨[(.cells [.any, .any, .any, .any, .any, .any, .any, .any, (.lend (.slice (.int .u8))), .any, .any, (.own (.slice (.int .u8)))]), .any], [.any, (.cells [.any, .any, .any, .any, .any, .any, .any, .any, .any, .any, .any, (.move (.slice (.int .u8)))]), (.drop 2 .any)], [], [], [], [], [(5, [⟨[], []⟩, ⟨[], []⟩, ⟨[], []⟩, ⟨[1], []⟩, ⟨[4, 5], []⟩, ⟨[5], []⟩, ⟨[], []⟩, ⟨[], []⟩, ⟨[], []⟩, ⟨[], []⟩, ⟨[], []⟩, ⟨[], [98384]⟩, ⟨[], []⟩, ⟨[], []⟩]), (10, [⟨[], []⟩, ⟨[], []⟩, ⟨[], []⟩, ⟨[], []⟩, ⟨[1, 2], []⟩, ⟨[], []⟩, ⟨[4, 5], []⟩, ⟨[5], []⟩, ⟨[5, 180280], [2]⟩, ⟨[], []⟩, ⟨[], []⟩, ⟨[2, 180288], [1]⟩]), (14, [⟨[], []⟩, ⟨[], []⟩, ⟨[], []⟩, ⟨[], []⟩, ⟨[1, 2], []⟩, ⟨[], []⟩, ⟨[], []⟩, ⟨[], []⟩, ⟨[1], []⟩, ⟨[], []⟩, ⟨[2], []⟩, ⟨[], []⟩, ⟨[], []⟩, ⟨[2, 3], [1]⟩])], [(10, sp79_1000010), (5, sp79_1000005), (2, sp79_1000002), (12, sp79_1000012), (14, sp79_1000014)], [(10, fi79_10), (5, fi79_5), (2, fi79_2), (12, fi79_12), (14, fi79_14)]⟩
noncomputable def cd79_1000010 : Code := sel (bodyOf Try.f79) [1, 0, 1, 0, 1, 1, 1, 0, 1, 1, 1, 1]
noncomputable def cd79_1000005 : Code := sel (bodyOf Try.f79) [1, 0, 1, 0, 1, 1, 1]
noncomputable def cd79_1000002 : Code := sel (bodyOf Try.f79) [1, 0, 1]
noncomputable def cd79_1000012 : Code := sel (bodyOf Try.f79) [1, 1, 0, 1]
noncomputable def cd79_1000014 : Code := sel (bodyOf Try.f79) [1, 1, 1, 0, 1]
noncomputable def sp42_0 : List (Nat × Mode) := [(2, .any), (10, (.cells [.any, .any, .any, .any, .any, .any, .any, .any, (.lend (.slice (.int .u8))), .any, .any, (.own (.slice (.int .u8)))])), (11, .any)]
noncomputable def jn42_0 : List (Nat × Mode) := [(6, .any), (7, .any), (8, .any)]
noncomputable def jn42_1 : List (Nat × Mode) := [(2, .any), (10, .any), (11, .any)]
noncomputable def an42 : Ann := ⟨[.any, (.cells [.any, .any, (.lend (.slice (.int .u8))), .any, .any]), .any], [], [], [(7, sp42_0)], [(0, jn42_0), (1, jn42_1)], [(0, sp42_0)], [(1, [⟨[16384], []⟩, ⟨[], []⟩, ⟨[16392], []⟩, ⟨[], []⟩, ⟨[], []⟩, ⟨[], []⟩, ⟨[], []⟩, ⟨[32816], []⟩, ⟨[], []⟩]), (4, [⟨[16384], []⟩, ⟨[16392], []⟩, ⟨[], []⟩, ⟨[81937], []⟩, ⟨[81937], []⟩, ⟨[], []⟩])], [], []⟩
noncomputable def cd42_0 : Code := sel (bodyOf Try.f42) [1, 1, 1, 1]
noncomputable def bd42_0 : Code := sel (bodyOf Try.f42) [1, 1, 1, 1, 0, 0]
noncomputable def sp45_0 : List (Nat × Mode) := [(2, .any), (3, .any), (4, .any), (6, .any), (7, .any), (39, .any), (40, .any), (41, .any)]
noncomputable def sp45_1000029 : List (Nat × Mode) := [(3, .any), (4, .any), (6, .any), (7, .any), (14, .any), (16, .any), (17, .any), (52, .any), (53, .any), (54, .any), (84, .any)]
noncomputable def sp45_1000024 : List (Nat × Mode) := [(3, .any), (4, .any), (6, .any), (7, .any), (14, .any), (16, .any), (17, .any), (52, .any), (53, .any), (54, .any), (71, .any)]
noncomputable def sp45_1000020 : List (Nat × Mode) := [(3, .any), (4, .any), (6, .any), (7, .any), (14, .any), (16, .any), (52, .any), (53, .any), (54, .any), (59, .any)]
noncomputable def sp45_1000031 : List (Nat × Mode) := [(3, .any), (4, .any), (6, .any), (7, .any), (14, .any), (16, .any), (52, .any), (53, .any), (54, .any), (92, .any)]
noncomputable def sp45_1000033 : List (Nat × Mode) := [(3, .any), (4, .any), (6, .any), (7, .any), (14, .any), (52, .any), (53, .any), (54, .any), (103, .any)]
noncomputable def sp45_2 : List (Nat × Mode) := [(3, .any), (4, .any), (6, .any), (7, .any), (14, (.own (.slice (.int .u8)))), (52, .any), (53, .any), (54, .any)]
noncomputable def jn45_0 : List (Nat × Mode) := [(2, .any), (3, .any), (4, .any), (6, .any), (7, .any)]
noncomputable def jn45_1 : List (Nat × Mode) := [(2, .any), (3, .any), (4, .any), (6, .any), (7, .any), (39, .any), (40, .any), (41, .any)]
noncomputable def jn45_2 : List (Nat × Mode) := [(3, .any), (4, .any), (6, .any), (7, .any), (14, .any)]
noncomputable def jn45_3 : List (Nat × Mode) := [(3, .any), (4, .any), (6, .any), (7, .any), (14, .any), (52, .any), (53, .any), (54, .any)]
noncomputable def fi45_29 : List (Nat × Mode) := [(3, .any), (4, .any), (6, .any), (7, .any), (14, (.own (.slice (.int .u8)))), (16, .any), (52, .any), (53, .any), (54, .any)]
noncomputable def fi45_24 : List (Nat × Mode) := [(3, .any), (4, .any), (6, .any), (7, .any), (14, (.own (.slice (.int .u8)))), (16, .any), (52, .any), (53, .any), (54, .any)]
noncomputable def fi45_20 : List (Nat × Mode) := [(3, .any), (4, .any), (6, .any), (7, .any), (14, (.own (.slice (.int .u8)))), (16, .any), (52, .any), (53, .any), (54, .any)]
noncomputable def fi45_31 : List (Nat × Mode) := [(3, .any), (4, .any), (6, .any), (7, .any), (14, .any), (16, .any), (52, .any), (53, .any), (54, .any)]
noncomputable def fi45_33 : List (Nat × Mode) := [(3, .any), (4, .any), (6, .any), (7, .any), (14, .any), (52, .any), (53, .any), (54, .any)]
noncomputable def an45 : Ann := ⟨[.any, (.cells [.any, .any, (.lend (.slice (.int .u8))), .any, .any]), (.lend (.prod .bool (.prod .bool (.prod .bool (.prod .bool (.prod (.int .i64) .unit))))))], [.any, (.cells [.any, .any, (.lend (.slice (.int .u8))), .any, .any]), (.own (.slice (.int .u8))), .any], [], [(10, sp45_0), (17, sp45_2)], [(0, jn45_0), (1, jn45_1), (2, jn45_2), (3, jn45_3)], [(0, sp45_0), (2, sp45_2)], [(33, [⟨[2], []⟩, ⟨[1], []⟩, ⟨[], []⟩, ⟨[], []⟩, ⟨[], [2]⟩]), (35, [⟨[1], []⟩, ⟨[2], []⟩, ⟨[5], []⟩, ⟨[], [3]⟩, ⟨[], [4]⟩, ⟨[5], []⟩, ⟨[], []⟩])], [(29, sp45_1000029), (24, sp45_1000024), (20, sp45_1000020), (31, sp45_1000031), (33, sp45_1000033)], [(29, fi45_29), (24, fi45_24), (20, fi45_20), (31, fi45_31), (33, fi45_33)]⟩
noncomputable def cd45_0 : Code := sel (bodyOf Try.f45) [1, 1, 1, 1, 0, 1]
noncomputable def bd45_0 : Code := sel (bodyOf Try.f45) [1, 1, 1, 1, 0, 1, 0, 0]
noncomputable def cd45_1000029 : Code := sel (bodyOf Try.f45) [1, 1, 1, 1, 1, 1, 0, 1, 0, 0, 1, 1, 0, 0, 1, 0, 1, 0, 1, 1, 1, 1, 0, 1, 1, 1, 1]
noncomputable def cd45_1000024 : Code := sel (bodyOf Try.f45) [1, 1, 1, 1, 1, 1, 0, 1, 0, 0, 1, 1, 0, 0, 1, 0, 1, 0, 1, 1, 1, 1]
noncomputable def cd45_1000020 : Code := sel (bodyOf Try.f45) [1, 1, 1, 1, 1, 1, 0, 1, 0, 0, 1, 1, 0, 0, 1, 0, 1]
noncomputable def cd45_1000031 : Code := sel (bodyOf Try.f45) [1, 1, 1, 1, 1, 1, 0, 1, 0, 0, 1, 1, 0, 0, 1, 1, 0, 1]
noncomputable def cd45_1000033 : Code := sel (bodyOf Try.f45) [1, 1, 1, 1, 1, 1, 0, 1, 0, 0, 1, 1, 0, 0, 1, 1, 1, 1]
noncomputable def cd45_2 : Code := sel (bodyOf Try.f45) [1, 1, 1, 1, 1, 1, 0, 1]
noncomputable def bd45_2 : Code := sel (bodyOf Try.f45) [1, 1, 1, 1, 1, 1, 0, 1, 0, 0]
noncomputable def sp43_0 : List (Nat × Mode) := [(2, .any), (3, .any), (4, .any), (11, .any)]
noncomputable def jn43_0 : List (Nat × Mode) := [(6, .any), (7, .any), (8, .any)]
noncomputable def jn43_1 : List (Nat × Mode) := [(2, .any), (3, .any), (4, .any), (11, .any)]
noncomputable def an43 : Ann := ⟨[.any, (.cells [.any, .any, (.lend (.slice (.int .u8))), .any, .any]), .any], [], [], [(11, sp43_0)], [(0, jn43_0), (1, jn43_1)], [(0, sp43_0)], [], [], []⟩
noncomputable def cd43_0 : Code := sel (bodyOf Try.f43) [1, 1, 1, 1, 1]
noncomputable def bd43_0 : Code := sel (bodyOf Try.f43) [1, 1, 1, 1, 1, 0, 0]
noncomputable def an8 : Ann := ⟨[.any, (.cells [.any, .any, (.lend (.slice (.int .u8))), .any, .any]), .any], [], [], [], [], [], [], [], []⟩
noncomputable def an81 : Ann := ⟨[.any], [], [], [], [], [], [], [], []⟩
noncomputable def sp95_0 : List (Nat × Mode) := [(0, .any), (1, .any), (7, .any), (8, .any)]
noncomputable def jn95_0 : List (Nat × Mode) := []
noncomputable def jn95_1 : List (Nat × Mode) := [(0, .any), (1, .any), (7, .any), (8, .any)]
noncomputable def an95 : Ann := ⟨[(.lend (.prod .bool (.prod .bool (.prod .bool (.prod .bool (.prod (.int .i64) .unit)))))), .any], [], [], [(2, sp95_0)], [(0, jn95_0), (1, jn95_1)], [(0, sp95_0)], [], [], []⟩
noncomputable def cd95_0 : Code := sel (bodyOf Try.f95) [1, 0, 1]
noncomputable def bd95_0 : Code := sel (bodyOf Try.f95) [1, 0, 1, 0, 0]
noncomputable def an80 : Ann := ⟨[(.lend (.prod .bool (.prod .bool (.prod .bool (.prod .bool (.prod (.int .i64) .unit)))))), .any], [], [], [], [], [], [], [], []⟩
noncomputable def sp44_1000003 : List (Nat × Mode) := [(2, .any), (3, .any), (4, .any), (6, .any), (7, .any), (10, .any), (25, .any)]
noncomputable def sp44_1000005 : List (Nat × Mode) := [(2, .any), (3, .any), (4, .any), (6, .any), (7, .any), (10, .any), (31, .any)]
noncomputable def sp44_0 : List (Nat × Mode) := [(2, .any), (6, .any), (7, .any), (10, .any), (11, (.cells [.any, .any, .any, .any, .any, .any, .any, .any, (.lend (.slice (.int .u8))), .any, .any, (.own (.slice (.int .u8)))])), (12, .any)]
noncomputable def jn44_0 : List (Nat × Mode) := [(6, .any), (7, .any), (10, .any), (11, .any)]
noncomputable def jn44_1 : List (Nat × Mode) := [(2, .any), (6, .any), (7, .any), (10, .any), (11, .any), (12, .any)]
noncomputable def fi44_3 : List (Nat × Mode) := [(2, .any), (3, .any), (4, .any), (6, .any), (7, .any), (10, .any)]
noncomputable def fi44_5 : List (Nat × Mode) := [(2, .any), (3, .any), (4, .any), (6, .any), (7, .any), (10, .any)]
noncomputable def an44 : Ann := ⟨[.any, (.cells [.any, .any, (.lend (.slice (.int .u8))), .any, .any]), (.lend (.prod .bool (.prod .bool (.prod .bool (.prod .bool (.prod (.int .i64) .unit))))))], [.any, (.cells [.any, .any, (.tie (.own (.slice (.int .u8)))), .any, .any]), (.own (.slice (.int .u8))), .any], [], [(8, sp44_0)], [(0, jn44_0), (1, jn44_1)], [(0, sp44_0)], [(1, [⟨[16384], []⟩, ⟨[], []⟩, ⟨[16392], []⟩, ⟨[], []⟩, ⟨[], []⟩, ⟨[32800], []⟩, ⟨[], []⟩]), (6, [⟨[1], []⟩, ⟨[2], []⟩, ⟨[], []⟩, ⟨[114705], []⟩, ⟨[114705], []⟩, ⟨[], []⟩]), (13, [⟨[], []⟩, ⟨[], []⟩, ⟨[], []⟩, ⟨[3], []⟩, ⟨[], []⟩, ⟨[], []⟩, ⟨[], []⟩, ⟨[3], []⟩, ⟨[], []⟩, ⟨[], []⟩, ⟨[], []⟩, ⟨[], []⟩, ⟨[3, 4], []⟩, ⟨[], [1]⟩, ⟨[229441], [2]⟩, ⟨[4], []⟩, ⟨[], []⟩])], [(3, sp44_1000003), (5, sp44_1000005)], [(3, fi44_3), (5, fi44_5)]⟩
noncomputable def cd44_1000003 : Code := sel (bodyOf Try.f44) [1, 1, 0, 1]
noncomputable def cd44_1000005 : Code := sel (bodyOf Try.f44) [1, 1, 1, 0, 1]
noncomputable def cd44_0 : Code := sel (bodyOf Try.f44) [1, 1, 1, 1, 1, 0, 1]
noncomputable def bd44_0 : Code := sel (bodyOf Try.f44) [1, 1, 1, 1, 1, 0, 1, 0, 0]
noncomputable def an9 : Ann := ⟨[.any, (.cells [.any, .any, (.lend (.slice (.int .u8))), .any, .any]), (.lend (.prod .bool (.prod .bool (.prod .bool (.prod .bool (.prod (.int .i64) .unit))))))], [], [], [], [], [], [], [], []⟩
noncomputable def sp47_1000003 : List (Nat × Mode) := [(0, .any), (1, .any), (9, .any)]
noncomputable def fi47_3 : List (Nat × Mode) := [(0, .any)]
noncomputable def an47 : Ann := ⟨[.any, .any], [], [], [], [], [], [], [(3, sp47_1000003)], [(3, fi47_3)]⟩
noncomputable def cd47_1000003 : Code := sel (bodyOf Try.f47) [1, 1, 0, 1]
noncomputable def sp10_1000007 : List (Nat × Mode) := [(4, .any), (11, .any), (12, .any), (14, .any), (39, .any), (40, .any), (41, .any), (57, .any)]
noncomputable def sp10_0 : List (Nat × Mode) := [(4, .any), (11, .any), (12, (.cells [.any, .any, (.tie (.own (.slice (.int .u8)))), .any, .any])), (39, .any), (40, .any), (41, .any)]
noncomputable def sp10_1000014 : List (Nat × Mode) := [(11, .any), (12, .any), (15, .any), (17, .any), (65, .any), (66, .any), (67, .any), (73, .any)]
noncomputable def sp10_2 : List (Nat × Mode) := [(11, .any), (12, .any), (15, (.own (.prod .bool (.prod .bool (.prod .bool (.prod .bool (.prod (.int .i64) .unit))))))), (65, .any), (66, .any), (67, .any)]
noncomputable def jn10_0 : List (Nat × Mode) := [(4, .any), (11, .any), (12, .any)]
noncomputable def jn10_1 : List (Nat × Mode) := [(4, .any), (11, .any), (12, .any), (39, .any), (40, .any), (41, .any)]
noncomputable def jn10_2 : List (Nat × Mode) := [(11, .any), (12, .any), (15, .any)]
noncomputable def jn10_3 : List (Nat × Mode) := [(11, .any), (12, .any), (15, .any), (65, .any), (66, .any), (67, .any)]
noncomputable def fi10_7 : List (Nat × Mode) := [(4, .any), (11, .any), (12, (.cells [.any, .any, (.tie (.own (.slice (.int .u8)))), .any, .any])), (39, .any), (40, .any), (41, .any)]
noncomputable def fi10_14 : List (Nat × Mode) := [(11, .any), (12, .any), (15, (.own (.prod .bool (.prod .bool (.prod .bool (.prod .bool (.prod (.int .i64) .unit))))))), (65, .any), (66, .any), (67, .any)]
noncomputable def an10 : Ann := ⟨[.any, .any, (.lend (.slice (.int .u8))), .any, (.lend (.prod .bool (.prod .bool (.prod .bool (.prod .bool (.prod (.int .i64) .unit))))))], [], [], [(4, sp10_0), (11, sp10_2)], [(0, jn10_0), (1, jn10_1), (2, jn10_2), (3, jn10_3)], [(0, sp10_0), (2, sp10_2)], [(2, [⟨[], []⟩, ⟨[32824], []⟩, ⟨[], []⟩, ⟨[], []⟩, ⟨[32824], []⟩, ⟨[], []⟩, ⟨[], []⟩, ⟨[], []⟩, ⟨[], []⟩, ⟨[], []⟩, ⟨[], []⟩, ⟨[], [49232]⟩])], [(7, sp10_1000007), (14, sp10_1000014)], [(7, fi10_7), (14, fi10_14)]⟩
noncomputable def cd10_1000007 : Code := sel (bodyOf Try.f10) [1, 1, 1, 0, 1, 0, 0, 1, 1, 0, 0, 1, 1]
noncomputable def cd10_0 : Code := sel (bodyOf Try.f10) [1, 1, 1, 0, 1]
noncomputable def bd10_0 : Code := sel (bodyOf Try.f10) [1, 1, 1, 0, 1, 0, 0]
noncomputable def cd10_1000014 : Code := sel (bodyOf Try.f10) [1, 1, 1, 1, 1, 0, 1, 0, 0, 1, 1, 0, 0, 1, 1]
noncomputable def cd10_2 : Code := sel (bodyOf Try.f10) [1, 1, 1, 1, 1, 0, 1]
noncomputable def bd10_2 : Code := sel (bodyOf Try.f10) [1, 1, 1, 1, 1, 0, 1, 0, 0]
noncomputable def sp11_1000007 : List (Nat × Mode) := [(9, .any), (10, .any), (12, .any), (38, .any), (39, .any), (40, .any), (56, .any)]
noncomputable def sp11_0 : List (Nat × Mode) := [(9, .any), (10, (.cells [.any, .any, (.tie (.own (.slice (.int .u8)))), .any, .any])), (38, .any), (39, .any), (40, .any)]
noncomputable def sp11_2 : List (Nat × Mode) := [(9, .any), (10, .any), (16, .any), (87, .any), (88, .any)]
noncomputable def jn11_0 : List (Nat × Mode) := [(9, .any), (10, .any)]
noncomputable def jn11_1 : List (Nat × Mode) := [(9, .any), (10, .any), (38, .any), (39, .any), (40, .any)]
noncomputable def jn11_2 : List (Nat × Mode) := [(9, .any), (10, .any), (16, .any)]
noncomputable def jn11_3 : List (Nat × Mode) := [(9, .any), (10, .any), (16, .any), (87, .any), (88, .any)]
noncomputable def fi11_7 : List (Nat × Mode) := [(9, .any), (10, (.cells [.any, .any, (.tie (.own (.slice (.int .u8)))), .any, .any])), (38, .any), (39, .any), (40, .any)]
noncomputable def an11 : Ann := ⟨[.any, .any, (.lend (.slice (.int .u8))), .any], [], [], [(4, sp11_0), (14, sp11_2)], [(0, jn11_0), (1, jn11_1), (2, jn11_2), (3, jn11_3)], [(0, sp11_0), (2, sp11_2)], [(2, [⟨[], []⟩, ⟨[32824], []⟩, ⟨[], []⟩, ⟨[], []⟩, ⟨[32824], []⟩, ⟨[], []⟩, ⟨[], []⟩, ⟨[], []⟩, ⟨[], []⟩, ⟨[], []⟩, ⟨[], []⟩, ⟨[], [49232]⟩])], [(7, sp11_1000007)], [(7, fi11_7)]⟩
noncomputable def cd11_1000007 : Code := sel (bodyOf Try.f11) [1, 1, 1, 0, 1, 0, 0, 1, 1, 0, 0, 1, 1]
noncomputable def cd11_0 : Code := sel (bodyOf Try.f11) [1, 1, 1, 0, 1]
noncomputable def bd11_0 : Code := sel (bodyOf Try.f11) [1, 1, 1, 0, 1, 0, 0]
noncomputable def cd11_2 : Code := sel (bodyOf Try.f11) [1, 1, 1, 1, 1, 1, 1, 0, 1]
noncomputable def bd11_2 : Code := sel (bodyOf Try.f11) [1, 1, 1, 1, 1, 1, 1, 0, 1, 0, 0]
end Go.Proofs.Ytadkplikobhckaa.PM
