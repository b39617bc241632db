/- Annotations, and the equations of the loops (printed by a program of this work). -/
import Derived.Test.YtlcklflbhhnnhaaPT1
import Derived.Test.YtlcklflbhhnnhaaPmZ
import Derived.Test.YtlcklflbhhnnhaaPmSh
import Derived.Test.YtlcklflbhhnnhaaProg
import Derived.KernelRfl
set_option linter.unusedVariables false
set_option linter.unusedSimpArgs false
set_option maxRecDepth 100000
namespace Go.Proofs.Ytlcklflbhhnnhaa.PM
open Go
abbrev zA : Mode := .any
abbrev zM5 : Mode := .cells [zA, zA, zA, zA, zA, (.lend zP1), zA, zA]
abbrev zM4 : Mode := .cells [zA, zA, zA, (.lend (.int .u8)), zA, (.lend zP1), zA, zA]
abbrev zM3 : Mode := .cells [zA, zA, zA, zA, zA, zA, (.lend (.int .u8)), (.lend zP1), zA]
abbrev zM2 : Mode := .cells [zA, zA, zA, (.lend (.int .u8)), (.lend zP1), zA, zA, zA, zA]
abbrev zM1 : Mode := .cells [zA, zA, zA, zA, zA, zA, zA, zA, zA, zA, zA, zA, zA, zA, zA, zA, zA, zA, zA, zA, zA, zA, zA, zA, (.tie (.move zP2)), zA, zA, (.tie (.move zP2)), zA]
abbrev zM0 : Mode := .cells [zA, zA, zA, zA, zA, zA, zA, zA, (.lend (.int .u8)), zA, (.lend zP1), zA, zA, zA, zA, zA, (.lend (.int .u8)), (.lend zP1), zA, zA, zA, zA, zA, zA, (.tie (.own zP2)), zA, zA, (.tie (.own zP2)), zA]
abbrev zv : Sh := .val [] (.int .i64)
abbrev zr0 (b0 : (List ((.int .u8) : Ty).D)) : RowS := ⟨0, .arr [] (.int .u8) b0⟩
abbrev zr1 (b0 b1 b2 b3 b4 b5 b6 : Int) (b7 : ByteArray) (b8 : (zT2 : Ty).D) (b9 : Int) (b10 : (zT1 : Ty).D) (b11 b12 b13 b14 : Int) (b15 : ByteArray) (b16 : (zT2 : Ty).D) (b17 : (zT1 : Ty).D) (b18 b19 b20 b21 : Int) (b22 : (zT3 : Ty).D) (b23 : Int) (b24 : (zT3 : Ty).D) (b25 b26 : Int) : RowS := ⟨0, .vars [zi b0, zi b1, zi b2, zi b3, zi b4, zi b5, zi b6, .val [] .str b7, .val [(0, 0)] zT2 b8, zi b9, .val [(0, 0)] zT1 b10, zi b11, zi b12, zi b13, zi b14, .val [] .str b15, .val [(0, 0)] zT2 b16, .val [(0, 0)] zT1 b17, zi b18, zi b19, zi b20, zi b21, .val [(0, 0)] zT3 b22, zi b23, .rw 4, .val [(0, 0)] zT3 b24, zi b25, .rw 5, zi b26]⟩
abbrev zr2 (b0 : (List (zP2 : Ty).D)) : RowS := ⟨0, .arr [(0, 0)] zP2 b0⟩
abbrev zr3 (b0 : (List (zP0 : Ty).D)) : RowS := ⟨0, .arr [(0, 0)] zP0 b0⟩
abbrev zr4 (b0 : (List (zP1 : Ty).D)) : RowS := ⟨0, .arr [] zP1 b0⟩
abbrev zr5 (b0 b1 : Int) (b2 : ByteArray) (b3 b4 b5 : Int) (b6 : (zT2 : Ty).D) (b7 : (zT1 : Ty).D) (b8 : Bool) : RowS := ⟨0, .vars [zi b0, zi b1, .val [] .str b2, zi b3, zi b4, zi b5, .val [(0, 0)] zT2 b6, .val [(0, 0)] zT1 b7, .val [] .bool b8]⟩
abbrev zr6 (b0 b1 : Int) (b2 : ByteArray) (b3 b4 b5 b6 : Int) : RowS := ⟨0, .vars [zi b0, zi b1, .val [] .str b2, .nils, .nils, zi b3, zi b4, zi b5, zi b6]⟩
abbrev zr7 (b0 b1 : Int) (b2 : ByteArray) (b3 : (zT2 : Ty).D) (b4 : (zT1 : Ty).D) (b5 b6 b7 b8 : Int) : RowS := ⟨0, .vars [zi b0, zi b1, .val [] .str b2, .val [(0, 0)] zT2 b3, .val [(0, 0)] zT1 b4, zi b5, zi b6, zi b7, zi b8]⟩
abbrev zr8 (b0 b1 : Int) (b2 : ByteArray) (b3 : (zT2 : Ty).D) (b4 : Int) (b5 : (zT1 : Ty).D) (b6 b7 : Int) : RowS := ⟨0, .vars [zi b0, zi b1, .val [] .str b2, .val [(0, 0)] zT2 b3, zi b4, .val [(0, 0)] zT1 b5, zi b6, zi b7]⟩
abbrev zr9 (b0 b1 : Int) (b2 : ByteArray) (b3 b4 b5 : Int) : RowS := ⟨0, .vars [zi b0, zi b1, .val [] .str b2, .nils, zi b3, .nils, zi b4, zi b5]⟩
abbrev zs0 : RSh := .vars [zv, zv, zv, zv, zv, zv, zv, .val [] .str, .val [(0, 0)] zT2, zv, .val [(0, 0)] zT1, zv, zv, zv, zv, .val [] .str, .val [(0, 0)] zT2, .val [(0, 0)] zT1, zv, zv, zv, zv, .val [(0, 0)] zT3, zv, .rw 2, .val [(0, 0)] zT3, zv, .rw 3, zv]
abbrev zs1 : RSh := .vars [zv, zv, zv, zv, zv, zv, zv, .val [] .str, .val [(0, 0)] zT2, zv, .val [(0, 0)] zT1, zv, zv, zv, zv, .val [] .str, .val [(0, 0)] zT2, .val [(0, 0)] zT1, zv, zv, zv, zv, .val [(0, 0)] zT3, zv, .rw 4, .val [(0, 0)] zT3, zv, .rw 5, zv]
abbrev zs2 : RSh := .vars [zv, zv, zv, zv, zv]
abbrev zs3 : RSh := .vars [zv, zv, .val [] .str, zv, zv, zv, .val [(0, 0)] zT2, .val [(0, 0)] zT1, .val [] .bool]
abbrev zs4 : RSh := .vars [zv, zv, .val [] .str, .nils, .nils, zv, zv, zv, zv]
abbrev zs5 : RSh := .vars [zv, zv, .val [] .str, .val [(0, 0)] zT2, .val [(0, 0)] zT1, zv, zv, zv, zv]
abbrev zs6 : RSh := .vars [zv, zv, .val [] .str, .val [(0, 0)] zT2, zv, .val [(0, 0)] zT1, zv, zv]
abbrev zs7 : RSh := .vars [zv, zv, .val [] .str, .nils, zv, .nils, zv, zv]
noncomputable def T : TT := [(3, ⟨.int .i64, 1, 8, [.int .i64 0], some (.int .i64)⟩),
  (4, ⟨.bool, 1, 1, [.bool false], some .bool⟩),
  (5, ⟨.int .u8, 1, 1, [.int .u8 0], some (.int .u8)⟩),
  (9, ⟨.str, 1, 16, [.string ⟨#[]⟩], some .str⟩),
  (22, ⟨.slice 5, 1, 24, [.slice none 0 0], some zT2⟩),
  (23, ⟨.slice 59, 1, 24, [.slice none 0 0], some zT1⟩),
  (25, ⟨.struct [(3, 0), (3, 1), (9, 2), (3, 3), (3, 4), (3, 5), (22, 6), (23, 7), (4, 8)], 9, 112, [.int .i64 0, .int .i64 0, .string ⟨#[]⟩, .int .i64 0, .int .i64 0, .int .i64 0, .slice none 0 0, .slice none 0 0, .bool false], some zP0⟩),
  (27, ⟨.struct [(3, 0), (3, 1), (3, 2), (3, 3), (3, 4)], 5, 40, [.int .i64 0, .int .i64 0, .int .i64 0, .int .i64 0, .int .i64 0], some (.prod (.int .i64) (.prod (.int .i64) (.prod (.int .i64) zP1)))⟩),
  (36, ⟨.struct [(3, 0), (3, 1), (9, 2), (22, 3), (3, 4), (23, 5), (3, 6), (3, 7)], 8, 104, [.int .i64 0, .int .i64 0, .string ⟨#[]⟩, .slice none 0 0, .int .i64 0, .slice none 0 0, .int .i64 0, .int .i64 0], some (.prod (.int .i64) (.prod (.int .i64) (.prod .str (.prod zT2 (.prod (.int .i64) (.prod zT1 zP1))))))⟩),
  (39, ⟨.slice 25, 1, 24, [.slice none 0 0], some (.slice zP0)⟩),
  (48, ⟨.struct [(3, 0), (3, 1), (9, 2), (22, 3), (23, 4), (3, 5), (3, 6), (3, 7), (3, 8)], 9, 112, [.int .i64 0, .int .i64 0, .string ⟨#[]⟩, .slice none 0 0, .slice none 0 0, .int .i64 0, .int .i64 0, .int .i64 0, .int .i64 0], some (.prod (.int .i64) (.prod (.int .i64) (.prod .str (.prod zT2 (.prod zT1 (.prod (.int .i64) (.prod (.int .i64) zP1)))))))⟩),
  (59, ⟨.struct [(3, 0), (3, 1)], 2, 16, [.int .i64 0, .int .i64 0], some zP1⟩),
  (76, ⟨.slice 4, 1, 24, [.slice none 0 0], some zT3⟩),
  (77, ⟨.slice 3, 1, 24, [.slice none 0 0], some (.slice (.int .i64))⟩),
  (110, ⟨.slice 155, 1, 24, [.slice none 0 0], some (.slice zP2)⟩),
  (112, ⟨.struct [(76, 0), (3, 1), (110, 2)], 3, 56, [.slice none 0 0, .int .i64 0, .slice none 0 0], some (.prod zT3 (.prod (.int .i64) (.prod (.slice zP2) .unit)))⟩),
  (114, ⟨.struct [(27, 0), (36, 5), (48, 13), (112, 22), (112, 25), (3, 28)], 29, 376, [.int .i64 0, .int .i64 0, .int .i64 0, .int .i64 0, .int .i64 0, .int .i64 0, .int .i64 0, .string ⟨#[]⟩, .slice none 0 0, .int .i64 0, .slice none 0 0, .int .i64 0, .int .i64 0, .int .i64 0, .int .i64 0, .string ⟨#[]⟩, .slice none 0 0, .slice none 0 0, .int .i64 0, .int .i64 0, .int .i64 0, .int .i64 0, .slice none 0 0, .int .i64 0, .slice none 0 0, .slice none 0 0, .int .i64 0, .slice none 0 0, .int .i64 0], some (.prod (.prod (.int .i64) (.prod (.int .i64) (.prod (.int .i64) zP1))) (.prod (.prod (.int .i64) (.prod (.int .i64) (.prod .str (.prod zT2 (.prod (.int .i64) (.prod zT1 zP1)))))) (.prod (.prod (.int .i64) (.prod (.int .i64) (.prod .str (.prod zT2 (.prod zT1 (.prod (.int .i64) (.prod (.int .i64) zP1))))))) (.prod (.prod zT3 (.prod (.int .i64) (.prod (.slice zP2) .unit))) (.prod (.prod zT3 (.prod (.int .i64) (.prod (.slice zP2) .unit))) (.prod (.int .i64) .unit))))))⟩),
  (149, ⟨.slice 23, 1, 24, [.slice none 0 0], some (.slice zT1)⟩),
  (155, ⟨.struct [(3, 0), (25, 1)], 10, 120, [.int .i64 0, .int .i64 0, .int .i64 0, .string ⟨#[]⟩, .int .i64 0, .int .i64 0, .int .i64 0, .slice none 0 0, .slice none 0 0, .bool false], some zP2⟩)]
noncomputable def sel : Code → List Nat → Code
  | c, [] => c
  | .seq a _, 0 :: l => sel a l
  | .seq _ b, _ :: l => sel b l
  | .cond _ a _, 0 :: l => sel a l
  | .cond _ _ b, _ :: l => sel b l
  | .block _ b, _ :: l => sel b l
  | .loop b, _ :: l => sel b l
  | c, _ => c
noncomputable def bodyOf (f : Func) : Code := match f.body with | some c => c | none => .skip
noncomputable def opsOf : Code → Array Oper
  | .region _ o _ => o
  | _ => #[]
noncomputable def operAt (c : Code) (i : Nat) : Oper := (opsOf c).getD i ⟨none, .alloc 0, 0, "", #[], none⟩

noncomputable def sp64_0 : List (Nat × Mode) := [(3, zA), (6, zA), (7, zA), (8, zA)]
noncomputable def jn64_0 : List (Nat × Mode) := [(3, zA)]
noncomputable def jn64_1 : List (Nat × Mode) := [(3, zA), (6, zA), (7, zA), (8, zA)]
noncomputable def an64 : Ann := ⟨[(.lend (.int .u8))], [], [], [(3, sp64_0)], [(0, jn64_0), (1, jn64_1)], [(0, sp64_0)], [], [], []⟩
noncomputable def cd64_0 : Code := sel (bodyOf Try.f64) [1, 1, 0, 1]
noncomputable def bd64_0 : Code := sel (bodyOf Try.f64) [1, 1, 0, 1, 0, 0]
noncomputable def an18 : Ann := ⟨[(.lend (.int .u8))], [], [], [], [], [], [], [], []⟩
noncomputable def an24 : Ann := ⟨[], [], [], [], [], [], [], [], []⟩
noncomputable def an66 : Ann := ⟨[zA, zA, zA], [], [], [], [], [], [], [], []⟩
noncomputable def an22 : Ann := ⟨[zA], [], [], [], [], [], [], [], []⟩
noncomputable def sp68_0 : List (Nat × Mode) := [(0, zA), (13, zA), (14, zA)]
noncomputable def jn68_0 : List (Nat × Mode) := []
noncomputable def jn68_1 : List (Nat × Mode) := [(0, zA), (13, zA), (14, zA)]
noncomputable def an68 : Ann := ⟨[zA], [], [], [(4, sp68_0)], [(0, jn68_0), (1, jn68_1)], [(0, sp68_0)], [], [], []⟩
noncomputable def cd68_0 : Code := sel (bodyOf Try.f68) [1, 1, 0, 1]
noncomputable def bd68_0 : Code := sel (bodyOf Try.f68) [1, 1, 0, 1, 0, 0]
noncomputable def jn76_0 : List (Nat × Mode) := []
noncomputable def an76 : Ann := ⟨[zA, zA, (.lend (.int .u8))], [], [], [], [(0, jn76_0)], [], [], [], []⟩
noncomputable def an25 : Ann := ⟨[zA, zA, (.lend (.int .u8))], [(.cells [zA, zA, zA, (.own (.int .u8)), zA, zA, zA, zA]), zA], [], [], [], [], [], [], []⟩
noncomputable def an53 : Ann := ⟨[zA], [], [], [], [], [], [], [], []⟩
noncomputable def sp123_0 : List (Nat × Mode) := [(0, (.cells [zA, zA, zA, zA, zA, zA, zA, zA, zA, zA, zA, zA, zA, zA, zA, zA, zA, zA, zA, zA, zA, zA, zA, zA, (.move zP2), zA, zA, (.move zP2), zA])), (1, zA), (5, (.tie (.own zP0)))]
noncomputable def jn123_0 : List (Nat × Mode) := [(5, zA)]
noncomputable def jn123_1 : List (Nat × Mode) := [(0, zA), (1, zA), (5, zA)]
noncomputable def an123 : Ann := ⟨[zA, zA], [], [], [(2, sp123_0)], [(0, jn123_0), (1, jn123_1)], [(0, sp123_0)], [], [], []⟩
noncomputable def cd123_0 : Code := sel (bodyOf Try.f123) [1, 1, 0]
noncomputable def bd123_0 : Code := sel (bodyOf Try.f123) [1, 1, 0, 0, 0]
noncomputable def an119 : Ann := ⟨[zM2, zM3], [], [], [], [], [], [], [], []⟩
noncomputable def sp87_1000007 : List (Nat × Mode) := [(1, zA), (5, zA), (6, zA), (8, zA), (9, zA), (10, zA), (11, zA), (18, zA)]
noncomputable def sp87_0 : List (Nat × Mode) := [(1, zA), (5, (.own zP1)), (6, zA), (9, zA), (10, zA), (11, zA)]
noncomputable def sp87_1000011 : List (Nat × Mode) := [(1, zA), (5, zA), (6, zA), (31, zA)]
noncomputable def jn87_0 : List (Nat × Mode) := [(1, zA), (5, zA), (6, zA)]
noncomputable def jn87_1 : List (Nat × Mode) := [(1, zA), (5, zA), (6, zA), (9, zA), (10, zA), (11, zA)]
noncomputable def fi87_7 : List (Nat × Mode) := [(1, zA), (5, (.own zP1)), (8, zA), (9, zA), (10, zA), (11, zA)]
noncomputable def fi87_11 : List (Nat × Mode) := [(5, zA)]
noncomputable def an87 : Ann := ⟨[(.lend zP1), zA], [], [], [(4, sp87_0)], [(0, jn87_0), (1, jn87_1)], [(0, sp87_0)], [], [(7, sp87_1000007), (11, sp87_1000011)], [(7, fi87_7), (11, fi87_11)]⟩
noncomputable def cd87_1000007 : Code := sel (bodyOf Try.f87) [1, 1, 1, 0, 1, 0, 0, 1, 1, 0, 0, 1, 0, 1]
noncomputable def cd87_0 : Code := sel (bodyOf Try.f87) [1, 1, 1, 0, 1]
noncomputable def bd87_0 : Code := sel (bodyOf Try.f87) [1, 1, 1, 0, 1, 0, 0]
noncomputable def cd87_1000011 : Code := sel (bodyOf Try.f87) [1, 1, 1, 1, 0, 1]
noncomputable def sp132_1000002 : List (Nat × Mode) := [(0, zA), (1, zA), (6, zA)]
noncomputable def sp132_1000005 : List (Nat × Mode) := [(0, zA), (1, zA), (16, zA)]
noncomputable def fi132_2 : List (Nat × Mode) := [(0, zA), (1, zA)]
noncomputable def fi132_5 : List (Nat × Mode) := [(0, (.trim zP1))]
noncomputable def an132 : Ann := ⟨[zA, zA], [], [], [], [], [], [], [(2, sp132_1000002), (5, sp132_1000005)], [(2, fi132_2), (5, fi132_5)]⟩
noncomputable def cd132_1000002 : Code := sel (bodyOf Try.f132) [1, 0, 1]
noncomputable def cd132_1000005 : Code := sel (bodyOf Try.f132) [1, 1, 0, 1, 1]
noncomputable def sp114_1000007 : List (Nat × Mode) := [(0, zA), (3, zA), (9, zA), (10, zA), (11, zA), (20, zA)]
noncomputable def sp114_0 : List (Nat × Mode) := [(0, zA), (3, zA), (9, zA), (10, zA), (11, zA)]
noncomputable def sp114_2 : List (Nat × Mode) := [(6, zA), (25, zA), (26, zA), (27, zA)]
noncomputable def jn114_0 : List (Nat × Mode) := [(0, zA), (3, zA)]
noncomputable def jn114_1 : List (Nat × Mode) := [(0, zA), (3, zA), (9, zA), (10, zA), (11, zA)]
noncomputable def jn114_2 : List (Nat × Mode) := [(6, zA)]
noncomputable def jn114_3 : List (Nat × Mode) := [(6, zA), (25, zA), (26, zA), (27, zA)]
noncomputable def fi114_7 : List (Nat × Mode) := [(0, zA), (3, zA), (9, zA), (10, zA), (11, zA)]
noncomputable def an114 : Ann := ⟨[(.lend zT1)], [], [], [(3, sp114_0), (11, sp114_2)], [(0, jn114_0), (1, jn114_1), (2, jn114_2), (3, jn114_3)], [(0, sp114_0), (2, sp114_2)], [], [(7, sp114_1000007)], [(7, fi114_7)]⟩
noncomputable def cd114_1000007 : Code := sel (bodyOf Try.f114) [1, 1, 0, 1, 0, 0, 1, 1, 0, 0, 1, 1, 1]
noncomputable def cd114_0 : Code := sel (bodyOf Try.f114) [1, 1, 0, 1]
noncomputable def bd114_0 : Code := sel (bodyOf Try.f114) [1, 1, 0, 1, 0, 0]
noncomputable def cd114_2 : Code := sel (bodyOf Try.f114) [1, 1, 1, 1, 0, 1]
noncomputable def bd114_2 : Code := sel (bodyOf Try.f114) [1, 1, 1, 1, 0, 1, 0, 0]
noncomputable def sp86_1000009 : List (Nat × Mode) := [(6, zA), (8, zA), (9, zA), (16, zA), (17, zA), (18, zA), (36, zA)]
noncomputable def sp86_0 : List (Nat × Mode) := [(6, (.own zP1)), (16, zA), (17, zA), (18, zA)]
noncomputable def jn86_0 : List (Nat × Mode) := [(6, zA)]
noncomputable def jn86_1 : List (Nat × Mode) := [(6, zA), (16, zA), (17, zA), (18, zA)]
noncomputable def fi86_9 : List (Nat × Mode) := [(6, zA), (16, zA), (17, zA), (18, zA)]
noncomputable def an86 : Ann := ⟨[(.lend zP1), (.lend zP1)], [], [], [(5, sp86_0)], [(0, jn86_0), (1, jn86_1)], [(0, sp86_0)], [(8, [⟨[], []⟩, ⟨[], []⟩, ⟨[], []⟩, ⟨[], []⟩, ⟨[114704], []⟩, ⟨[1], []⟩, ⟨[], []⟩, ⟨[], []⟩, ⟨[1], []⟩, ⟨[], []⟩, ⟨[1], []⟩, ⟨[], []⟩, ⟨[], []⟩]), (9, [⟨[1], []⟩, ⟨[], []⟩, ⟨[], []⟩, ⟨[1], []⟩, ⟨[], []⟩, ⟨[], []⟩, ⟨[1], []⟩, ⟨[], []⟩, ⟨[1], []⟩, ⟨[], []⟩, ⟨[2], []⟩, ⟨[], []⟩, ⟨[1], []⟩, ⟨[], []⟩, ⟨[], [1]⟩])], [(9, sp86_1000009)], [(9, fi86_9)]⟩
noncomputable def cd86_1000009 : Code := sel (bodyOf Try.f86) [1, 1, 1, 1, 0, 1, 0, 0, 1, 1, 0, 0, 1, 1, 1]
noncomputable def cd86_0 : Code := sel (bodyOf Try.f86) [1, 1, 1, 1, 0, 1]
noncomputable def bd86_0 : Code := sel (bodyOf Try.f86) [1, 1, 1, 1, 0, 1, 0, 0]
noncomputable def sp120_1000004 : List (Nat × Mode) := [(0, zA), (1, zA), (2, zA), (3, zA), (11, zA), (12, zA), (27, zA)]
noncomputable def sp120_1000011 : List (Nat × Mode) := [(1, zA), (2, zA), (3, zA), (11, zA), (12, zA), (13, zA), (16, zA), (17, zA), (41, zA), (42, zA), (43, zA), (57, zA)]
noncomputable def sp120_0 : List (Nat × Mode) := [(1, zA), (2, zA), (3, zA), (11, zA), (12, zA), (13, zA), (41, zA), (42, zA), (43, zA)]
noncomputable def jn120_0 : List (Nat × Mode) := [(1, zA), (2, zA), (11, zA), (12, zA), (13, zA)]
noncomputable def jn120_1 : List (Nat × Mode) := [(1, zA), (2, zA), (3, zA), (11, zA), (12, zA), (13, zA), (41, zA), (42, zA), (43, zA)]
noncomputable def fi120_4 : List (Nat × Mode) := [(0, zA), (1, zA), (2, zA), (3, zA), (11, zA), (12, zA)]
noncomputable def fi120_11 : List (Nat × Mode) := [(1, zA), (2, zA), (3, zA), (11, zA), (12, zA), (13, zA), (41, zA), (42, zA), (43, zA)]
noncomputable def an120 : Ann := ⟨[(.lend (.int .u8)), (.lend zP1), zA, (.lend (.int .u8))], [], [], [(7, sp120_0)], [(0, jn120_0), (1, jn120_1)], [(0, sp120_0)], [(9, [⟨[], []⟩, ⟨[147472], []⟩, ⟨[], []⟩, ⟨[], []⟩, ⟨[], []⟩, ⟨[147472], []⟩, ⟨[], []⟩, ⟨[], []⟩, ⟨[], []⟩, ⟨[], []⟩]), (11, [⟨[1], []⟩, ⟨[], []⟩, ⟨[], []⟩, ⟨[1], []⟩, ⟨[], []⟩, ⟨[], []⟩, ⟨[], []⟩, ⟨[], []⟩, ⟨[], []⟩, ⟨[], []⟩, ⟨[], []⟩, ⟨[], []⟩, ⟨[], [1]⟩])], [(4, sp120_1000004), (11, sp120_1000011)], [(4, fi120_4), (11, fi120_11)]⟩
noncomputable def cd120_1000004 : Code := sel (bodyOf Try.f120) [1, 1, 1, 0, 1]
noncomputable def cd120_1000011 : Code := sel (bodyOf Try.f120) [1, 1, 1, 1, 1, 0, 1, 0, 0, 1, 1, 0, 0, 1, 1, 1]
noncomputable def cd120_0 : Code := sel (bodyOf Try.f120) [1, 1, 1, 1, 1, 0, 1]
noncomputable def bd120_0 : Code := sel (bodyOf Try.f120) [1, 1, 1, 1, 1, 0, 1, 0, 0]
noncomputable def an95 : Ann := ⟨[zM2], [], [], [], [], [], [], [], []⟩
noncomputable def an104 : Ann := ⟨[], [], [], [], [], [], [], [], []⟩
noncomputable def an131 : Ann := ⟨[(.lend zP1), zA], [(.lend zP1)], [], [], [], [], [], [], []⟩
noncomputable def an112 : Ann := ⟨[zM2], [(.lend zP1), zA], [], [], [], [], [], [], []⟩
noncomputable def sp92_1000018 : List (Nat × Mode) := [(3, zA), (4, zA), (5, zA), (6, zA), (93, zA)]
noncomputable def sp92_1000023 : List (Nat × Mode) := [(3, zA), (4, zA), (5, zA), (6, zA), (108, zA)]
noncomputable def sp92_1000015 : List (Nat × Mode) := [(3, zA), (4, zA), (5, zA), (6, zA), (77, zA)]
noncomputable def sp92_1000025 : List (Nat × Mode) := [(3, zA), (4, zA), (5, zA), (6, zA), (114, zA)]
noncomputable def sp92_1000030 : List (Nat × Mode) := [(4, zA), (6, zA), (11, zA), (138, zA)]
noncomputable def fi92_18 : List (Nat × Mode) := [(3, zA), (4, zA), (5, zA), (6, zA)]
noncomputable def fi92_23 : List (Nat × Mode) := [(3, zA), (4, zA), (5, zA), (6, zA)]
noncomputable def fi92_15 : List (Nat × Mode) := [(3, zA), (4, zM2), (5, zA), (6, zA)]
noncomputable def fi92_25 : List (Nat × Mode) := [(3, zA), (4, zA), (5, zA), (6, zA)]
noncomputable def fi92_30 : List (Nat × Mode) := [(4, zA), (6, zA), (11, zA)]
noncomputable def an92 : Ann := ⟨[zA, zM2, zM3], [zM2, (.tie (.own zP0)), zA], [], [], [], [], [(6, [⟨[16392], []⟩, ⟨[], []⟩, ⟨[16392], []⟩, ⟨[], []⟩, ⟨[], []⟩, ⟨[], [16408]⟩, ⟨[114720], []⟩, ⟨[], []⟩]), (13, [⟨[16392], []⟩, ⟨[], []⟩, ⟨[16392], []⟩, ⟨[], []⟩, ⟨[], []⟩, ⟨[], [16408]⟩, ⟨[229408], []⟩, ⟨[], []⟩]), (21, [⟨[], []⟩, ⟨[3], []⟩, ⟨[], []⟩, ⟨[3], []⟩, ⟨[], []⟩, ⟨[], [2]⟩, ⟨[], []⟩, ⟨[], [2]⟩]), (27, [⟨[], []⟩, ⟨[2], []⟩, ⟨[], []⟩, ⟨[], []⟩, ⟨[2], []⟩, ⟨[], []⟩, ⟨[], []⟩]), (31, [⟨[1], []⟩, ⟨[], []⟩, ⟨[1], []⟩, ⟨[], []⟩, ⟨[], []⟩, ⟨[], []⟩, ⟨[], [2]⟩, ⟨[524328], []⟩, ⟨[], []⟩]), (34, [⟨[], []⟩, ⟨[1], []⟩, ⟨[], []⟩, ⟨[], [2]⟩, ⟨[], []⟩, ⟨[], [2]⟩]), (38, [⟨[2], []⟩, ⟨[], []⟩, ⟨[2], []⟩, ⟨[], []⟩, ⟨[], []⟩, ⟨[], []⟩, ⟨[], [4]⟩, ⟨[639016], []⟩, ⟨[], []⟩])], [(18, sp92_1000018), (23, sp92_1000023), (15, sp92_1000015), (25, sp92_1000025), (30, sp92_1000030)], [(18, fi92_18), (23, fi92_23), (15, fi92_15), (25, fi92_25), (30, fi92_30)]⟩
noncomputable def cd92_1000018 : Code := sel (bodyOf Try.f92) [1, 1, 1, 1, 1, 1, 0, 1, 0, 1, 0, 1, 1]
noncomputable def cd92_1000023 : Code := sel (bodyOf Try.f92) [1, 1, 1, 1, 1, 1, 0, 1, 1, 1, 1]
noncomputable def cd92_1000015 : Code := sel (bodyOf Try.f92) [1, 1, 1, 1, 1, 1, 0, 1]
noncomputable def cd92_1000025 : Code := sel (bodyOf Try.f92) [1, 1, 1, 1, 1, 1, 1, 0, 1]
noncomputable def cd92_1000030 : Code := sel (bodyOf Try.f92) [1, 1, 1, 1, 1, 1, 1, 1, 0, 1, 0, 1, 1, 0, 1]
noncomputable def sp124_1000004 : List (Nat × Mode) := [(0, zA), (1, zA), (7, zA), (8, zA), (9, zA), (10, zA), (36, zA)]
noncomputable def sp124_0 : List (Nat × Mode) := [(0, zM1), (1, zA), (8, zA), (9, zA), (10, (.drop 3 (.drop 2 zA)))]
noncomputable def jn124_0 : List (Nat × Mode) := []
noncomputable def jn124_1 : List (Nat × Mode) := [(0, zA), (1, zA), (8, zA), (9, zA), (10, zA)]
noncomputable def fi124_4 : List (Nat × Mode) := [(0, zM1), (1, zA), (8, zA), (9, zA), (10, (.drop 3 (.drop 2 zA)))]
noncomputable def an124 : Ann := ⟨[zA, zA, (.lend zP0)], [], [], [(1, sp124_0)], [(0, jn124_0), (1, jn124_1)], [(0, sp124_0)], [(3, [⟨[], []⟩, ⟨[], []⟩, ⟨[], []⟩, ⟨[1], []⟩, ⟨[], []⟩, ⟨[], []⟩, ⟨[], []⟩, ⟨[1], []⟩, ⟨[], []⟩, ⟨[], []⟩, ⟨[], []⟩, ⟨[], []⟩, ⟨[], []⟩, ⟨[], []⟩, ⟨[1], []⟩, ⟨[], []⟩, ⟨[], []⟩, ⟨[], []⟩, ⟨[1], []⟩, ⟨[], []⟩, ⟨[], []⟩, ⟨[], []⟩, ⟨[], []⟩]), (4, [⟨[], []⟩, ⟨[], []⟩, ⟨[], []⟩, ⟨[], []⟩, ⟨[1, 2, 3, 4, 5], []⟩, ⟨[], []⟩, ⟨[2, 3, 4, 5, 6], []⟩, ⟨[], []⟩, ⟨[], []⟩, ⟨[81984], [2, 3, 4, 5]⟩, ⟨[], []⟩, ⟨[], []⟩, ⟨[2, 3, 4, 5, 81992], [1]⟩])], [(4, sp124_1000004)], [(4, fi124_4)]⟩
noncomputable def cd124_1000004 : Code := sel (bodyOf Try.f124) [1, 0, 0, 1, 1, 0, 0, 1, 0, 1]
noncomputable def cd124_0 : Code := sel (bodyOf Try.f124) [1]
noncomputable def bd124_0 : Code := sel (bodyOf Try.f124) [1, 0, 0]
noncomputable def an71 : Ann := ⟨[(.lend zP1)], [], [], [], [], [], [(1, [⟨[], []⟩, ⟨[], []⟩, ⟨[], []⟩, ⟨[], []⟩, ⟨[], []⟩, ⟨[], []⟩, ⟨[], []⟩, ⟨[], []⟩, ⟨[], []⟩, ⟨[], []⟩])], [], []⟩
noncomputable def sp117_1000008 : List (Nat × Mode) := [(2, zA), (4, zA), (7, zA), (8, zA), (9, zA), (10, zA), (12, zA), (24, zA), (25, zA), (26, zA), (34, zA)]
noncomputable def sp117_0 : List (Nat × Mode) := [(2, zA), (4, zA), (7, zA), (8, zA), (9, zA), (10, (.own zP1)), (24, zA), (25, zA), (26, zA)]
noncomputable def sp117_1000016 : List (Nat × Mode) := [(2, zA), (4, zA), (63, zA)]
noncomputable def jn117_0 : List (Nat × Mode) := [(2, zA), (4, zA), (7, zA), (8, zA), (9, zA), (10, zA)]
noncomputable def jn117_1 : List (Nat × Mode) := [(2, zA), (4, zA), (7, zA), (8, zA), (9, zA), (10, zA), (24, zA), (25, zA), (26, zA)]
noncomputable def fi117_8 : List (Nat × Mode) := [(2, zA), (4, zA), (7, zA), (8, zA), (9, zA), (10, (.own zP1)), (24, zA), (25, zA), (26, zA)]
noncomputable def fi117_16 : List (Nat × Mode) := [(2, zA), (4, zA)]
noncomputable def an117 : Ann := ⟨[zM4, (.lend zP1)], [zM4, zA], [], [(5, sp117_0)], [(0, jn117_0), (1, jn117_1)], [(0, sp117_0)], [], [(8, sp117_1000008), (16, sp117_1000016)], [(8, fi117_8), (16, fi117_16)]⟩
noncomputable def cd117_1000008 : Code := sel (bodyOf Try.f117) [1, 1, 1, 1, 0, 1, 0, 0, 1, 1, 0, 0, 1, 1]
noncomputable def cd117_0 : Code := sel (bodyOf Try.f117) [1, 1, 1, 1, 0, 1]
noncomputable def bd117_0 : Code := sel (bodyOf Try.f117) [1, 1, 1, 1, 0, 1, 0, 0]
noncomputable def cd117_1000016 : Code := sel (bodyOf Try.f117) [1, 1, 1, 1, 1, 1, 1, 1, 1, 0, 1]
noncomputable def sp90_1000008 : List (Nat × Mode) := [(2, zA), (4, zA), (43, zA)]
noncomputable def sp90_1000006 : List (Nat × Mode) := [(2, zA), (3, zA), (4, zA), (32, zA)]
noncomputable def jn90_0 : List (Nat × Mode) := [(2, zA), (4, zA)]
noncomputable def fi90_8 : List (Nat × Mode) := [(2, zM5), (4, zA)]
noncomputable def fi90_6 : List (Nat × Mode) := [(2, zM5), (4, zA)]
noncomputable def an90 : Ann := ⟨[zM4, zM3], [], [], [], [(0, jn90_0)], [], [], [(8, sp90_1000008), (6, sp90_1000006)], [(8, fi90_8), (6, fi90_6)]⟩
noncomputable def cd90_1000008 : Code := sel (bodyOf Try.f90) [1, 1, 0, 0, 1, 1, 1, 1, 1]
noncomputable def cd90_1000006 : Code := sel (bodyOf Try.f90) [1, 1, 0, 0, 1, 1, 1]
noncomputable def an107 : Ann := ⟨[zM4], [], [], [], [], [], [(1, [⟨[], []⟩, ⟨[16384], []⟩, ⟨[], []⟩, ⟨[16384], []⟩, ⟨[], []⟩, ⟨[], []⟩, ⟨[16384], []⟩, ⟨[], []⟩, ⟨[], []⟩, ⟨[], [16392]⟩])], [], []⟩
noncomputable def an128 : Ann := ⟨[zM4, zA, zA], [], [], [], [], [], [(1, [⟨[], []⟩, ⟨[16384], []⟩, ⟨[], []⟩, ⟨[], []⟩, ⟨[16384], []⟩, ⟨[], []⟩, ⟨[], []⟩, ⟨[], []⟩, ⟨[], []⟩, ⟨[], []⟩, ⟨[], []⟩, ⟨[32849], []⟩, ⟨[32849], [16392]⟩])], [], []⟩
noncomputable def sp108_1000018 : List (Nat × Mode) := [(3, zA), (4, zA), (5, zA), (10, zA), (96, zA)]
noncomputable def jn108_0 : List (Nat × Mode) := [(2, zA), (3, zA), (4, zA), (5, zA)]
noncomputable def fi108_18 : List (Nat × Mode) := [(3, (.cells [zA, zA, zA, zA, zA, (.trim zP1), zA, zA])), (4, zA), (5, zA), (10, zA)]
noncomputable def an108 : Ann := ⟨[zA, zM4], [zM5, (.cells [zA, zA, zA, zA, zA, zA, (.own (.int .u8)), zA, zA])], [], [], [(0, jn108_0)], [], [(6, [⟨[16392], []⟩, ⟨[49216], []⟩, ⟨[], [16400]⟩, ⟨[], [16408]⟩]), (7, [⟨[], []⟩, ⟨[], []⟩, ⟨[], []⟩, ⟨[16392], []⟩, ⟨[], []⟩, ⟨[], []⟩, ⟨[], []⟩, ⟨[], []⟩, ⟨[], []⟩, ⟨[], []⟩]), (10, [⟨[16392, 147481], []⟩, ⟨[49216], []⟩, ⟨[147481], [16400]⟩, ⟨[], [16408]⟩]), (17, [⟨[], []⟩, ⟨[16392, 262161], []⟩, ⟨[262161], []⟩, ⟨[], []⟩, ⟨[262161], []⟩, ⟨[], []⟩, ⟨[213024], []⟩, ⟨[], []⟩]), (19, [⟨[1, 2], []⟩, ⟨[5, 6], []⟩, ⟨[2], [3]⟩, ⟨[6], [4]⟩]), (24, [⟨[16392], []⟩, ⟨[376865, 376872], []⟩, ⟨[], [16400]⟩, ⟨[376865], [16408]⟩]), (25, [⟨[], []⟩, ⟨[1], []⟩, ⟨[], []⟩, ⟨[], [2]⟩, ⟨[], []⟩, ⟨[], [2]⟩]), (26, [⟨[2], []⟩, ⟨[2], []⟩, ⟨[], []⟩, ⟨[], [3]⟩, ⟨[], [4]⟩])], [(18, sp108_1000018)], [(18, fi108_18)]⟩
noncomputable def cd108_1000018 : Code := sel (bodyOf Try.f108) [1, 1, 1, 0, 0, 1, 1, 1, 1, 1, 0, 1, 1, 1, 1, 0, 1, 1]
noncomputable def sp79_0 : List (Nat × Mode) := [(2, zA), (3, zA), (4, zA), (6, (.own zP0))]
noncomputable def jn79_0 : List (Nat × Mode) := [(3, zA), (4, zA), (6, zA)]
noncomputable def jn79_1 : List (Nat × Mode) := [(2, zA), (3, zA), (4, zA), (6, zA)]
noncomputable def an79 : Ann := ⟨[zA, zM4], [zA, (.own zP0)], [], [(12, sp79_0)], [(0, jn79_0), (1, jn79_1)], [(0, sp79_0)], [(7, [⟨[16392], []⟩, ⟨[], []⟩, ⟨[16392], []⟩, ⟨[], []⟩, ⟨[], []⟩, ⟨[], [16400]⟩, ⟨[131104], []⟩]), (10, [⟨[16392], []⟩, ⟨[16392], []⟩, ⟨[], []⟩, ⟨[], []⟩, ⟨[], [16400]⟩, ⟨[180248], []⟩])], [], []⟩
noncomputable def cd79_0 : Code := sel (bodyOf Try.f79) [1, 1, 1, 0]
noncomputable def bd79_0 : Code := sel (bodyOf Try.f79) [1, 1, 1, 0, 0, 0]
noncomputable def an82 : Ann := ⟨[zA, zM2], [zM2, (.tie (.own zP0)), zA], [], [], [], [], [(8, [⟨[16392], []⟩, ⟨[], []⟩, ⟨[16392], []⟩, ⟨[], []⟩, ⟨[], []⟩, ⟨[], [16400]⟩, ⟨[147488], []⟩, ⟨[], []⟩]), (14, [⟨[16392], []⟩, ⟨[], []⟩, ⟨[16392], []⟩, ⟨[], []⟩, ⟨[], []⟩, ⟨[], []⟩, ⟨[], [16400]⟩, ⟨[245800], []⟩, ⟨[], []⟩])], [], []⟩
noncomputable def sp100_0 : List (Nat × Mode) := [(0, (.cells [zA, zA, zA, zA, zA, zA, zA, zA, zA, zA, zA, zA, zA, zA, zA, zA, zA, zA, zA, zA, zA, zA, zA, zA, zA, zA, zA, (.move zP2), zA])), (1, zA), (15, zA), (16, zA), (17, (.drop 3 zA))]
noncomputable def sp100_2 : List (Nat × Mode) := [(0, zA), (1, zA), (58, zA), (59, zA), (60, zA)]
noncomputable def sp100_1000019 : List (Nat × Mode) := [(0, zA), (1, zA), (92, zA)]
noncomputable def jn100_0 : List (Nat × Mode) := [(0, zA), (1, zA)]
noncomputable def jn100_1 : List (Nat × Mode) := [(0, zA), (1, zA), (15, zA), (16, zA), (17, zA)]
noncomputable def jn100_2 : List (Nat × Mode) := [(0, zA), (1, zA)]
noncomputable def jn100_3 : List (Nat × Mode) := [(0, zA), (1, zA), (58, zA), (59, zA), (60, zA)]
noncomputable def fi100_19 : List (Nat × Mode) := [(0, zA), (1, zA)]
noncomputable def an100 : Ann := ⟨[zM0, zA], [zA, (.ice [1] (.cells [zA, zA, zA, zA, zA, zA, zA, zA, zA, zA, zA, zA, zA, zA, zA, zA, (.wide [] zA), (.wide [] zA), zA, zA, zA, zA, zA, zA, zA, zA, zA, zA, zA])), zA, zA], [], [(4, sp100_0), (12, sp100_2)], [(0, jn100_0), (1, jn100_1), (2, jn100_2), (3, jn100_3)], [(0, sp100_0), (2, sp100_2)], [(20, [⟨[], []⟩, ⟨[], []⟩, ⟨[], []⟩, ⟨[], []⟩, ⟨[1], []⟩, ⟨[], []⟩, ⟨[], []⟩, ⟨[], []⟩, ⟨[1, 2], []⟩, ⟨[2], []⟩, ⟨[2, 344137], []⟩, ⟨[2], []⟩, ⟨[2, 344137], []⟩, ⟨[], []⟩, ⟨[], []⟩, ⟨[2, 4, 5], [1]⟩, ⟨[344137], []⟩]), (21, [⟨[], []⟩, ⟨[], []⟩, ⟨[], []⟩, ⟨[], []⟩, ⟨[], []⟩, ⟨[], []⟩, ⟨[], []⟩, ⟨[], []⟩, ⟨[1], []⟩, ⟨[], []⟩, ⟨[344137], []⟩, ⟨[2, 344137], [1, 4, 5]⟩]), (22, [⟨[], []⟩, ⟨[], []⟩, ⟨[], []⟩, ⟨[], []⟩, ⟨[1], []⟩, ⟨[], []⟩, ⟨[], []⟩, ⟨[], []⟩, ⟨[1, 344137], []⟩, ⟨[344137], []⟩, ⟨[344137, 376905], []⟩, ⟨[344137], []⟩, ⟨[344137, 376905], []⟩, ⟨[344137], []⟩, ⟨[], []⟩, ⟨[], []⟩, ⟨[2, 344137, 360537, 360538], [1]⟩, ⟨[376905], []⟩, ⟨[], []⟩]), (25, [⟨[], []⟩, ⟨[], []⟩, ⟨[], []⟩, ⟨[], []⟩, ⟨[], []⟩, ⟨[], []⟩, ⟨[], []⟩, ⟨[], []⟩, ⟨[1], []⟩, ⟨[], []⟩, ⟨[376905], []⟩, ⟨[2, 344137, 376905], [1, 360537, 360538]⟩]), (26, [⟨[], []⟩, ⟨[], []⟩, ⟨[], []⟩, ⟨[], []⟩, ⟨[1], []⟩, ⟨[], []⟩, ⟨[], []⟩, ⟨[], []⟩, ⟨[], []⟩, ⟨[1], []⟩, ⟨[], []⟩, ⟨[], []⟩]), (6, [⟨[], []⟩, ⟨[], []⟩, ⟨[], []⟩, ⟨[], []⟩, ⟨[1], []⟩, ⟨[], []⟩, ⟨[], []⟩, ⟨[], []⟩, ⟨[1], []⟩, ⟨[98320], []⟩, ⟨[], []⟩, ⟨[114769], []⟩, ⟨[], []⟩, ⟨[114769], []⟩, ⟨[], []⟩, ⟨[], []⟩, ⟨[], []⟩, ⟨[3, 4, 5], [1]⟩, ⟨[114769], []⟩, ⟨[], []⟩]), (9, [⟨[], []⟩, ⟨[], []⟩, ⟨[], []⟩, ⟨[], []⟩, ⟨[], []⟩, ⟨[], []⟩, ⟨[], []⟩, ⟨[], []⟩, ⟨[1], []⟩, ⟨[], []⟩, ⟨[114769], []⟩, ⟨[114769], [1, 3, 4, 5]⟩]), (14, [⟨[], []⟩, ⟨[], []⟩, ⟨[], []⟩, ⟨[], []⟩, ⟨[1], []⟩, ⟨[229392], []⟩, ⟨[], []⟩, ⟨[], []⟩, ⟨[], []⟩, ⟨[], []⟩, ⟨[], []⟩, ⟨[], []⟩, ⟨[4, 5], [1]⟩, ⟨[], []⟩])], [(19, sp100_1000019)], [(19, fi100_19)]⟩
noncomputable def cd100_0 : Code := sel (bodyOf Try.f100) [1, 1, 1, 0, 1]
noncomputable def bd100_0 : Code := sel (bodyOf Try.f100) [1, 1, 1, 0, 1, 0, 0]
noncomputable def cd100_2 : Code := sel (bodyOf Try.f100) [1, 1, 1, 1, 0, 1]
noncomputable def bd100_2 : Code := sel (bodyOf Try.f100) [1, 1, 1, 1, 0, 1, 0, 0]
noncomputable def cd100_1000019 : Code := sel (bodyOf Try.f100) [1, 1, 1, 1, 1, 0, 1]
noncomputable def sp59_0 : List (Nat × Mode) := [(14, zA), (15, zA), (23, zM0), (74, zA), (75, zA)]
noncomputable def jn59_0 : List (Nat × Mode) := [(14, zA), (15, zA), (23, zA)]
noncomputable def jn59_1 : List (Nat × Mode) := [(14, zA), (15, zA), (23, zA), (74, zA), (75, zA)]
noncomputable def an59 : Ann := ⟨[zA, zA, zA, (.lend (.int .u8)), (.lend .bool), (.lend .bool), zA], [zM4, zM2, (.own (.int .i64)), zA], [], [(14, sp59_0)], [(0, jn59_0), (1, jn59_1)], [(0, sp59_0)], [(20, [⟨[], []⟩, ⟨[], []⟩, ⟨[], []⟩, ⟨[3], []⟩, ⟨[], []⟩, ⟨[], []⟩, ⟨[], []⟩, ⟨[3], []⟩, ⟨[], []⟩, ⟨[], []⟩, ⟨[], []⟩, ⟨[], []⟩, ⟨[3], []⟩, ⟨[], []⟩, ⟨[], []⟩, ⟨[], []⟩, ⟨[], []⟩, ⟨[3], []⟩, ⟨[], []⟩, ⟨[], []⟩, ⟨[], []⟩, ⟨[3], []⟩, ⟨[], []⟩, ⟨[], [1]⟩, ⟨[], [2]⟩, ⟨[344240], []⟩, ⟨[], []⟩])], [], []⟩
noncomputable def cd59_0 : Code := sel (bodyOf Try.f59) [1, 1, 1, 1, 1, 1, 1, 1, 0, 1]
noncomputable def bd59_0 : Code := sel (bodyOf Try.f59) [1, 1, 1, 1, 1, 1, 1, 1, 0, 1, 0, 0]
noncomputable def an14 : Ann := ⟨[zA, zA, zA, (.lend (.int .u8)), (.lend .bool), (.lend .bool)], [], [], [], [], [], [], [], []⟩
end Go.Proofs.Ytlcklflbhhnnhaa.PM
