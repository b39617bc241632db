/- Annotations, and the equations of the loops (printed by a program of this work). -/
import Derived.Test.YtlcklflbhhnnhaaPT1
import Derived.Test.YtlcklflbhhnnhaaPmZ
import Derived.Test.YtlcklflbhhnnhaaPmSh
import Derived.Test.YtlcklflbhhnnhaaProg
import Derived.KernelRfl
set_option linter.unusedVariables false
set_option linter.unusedSimpArgs false
set_option maxRecDepth 100000
namespace Go.Proofs.Ytlcklflbhhnnhaa.PM
open Go
noncomputable def T : TT := [(3, ⟨.int .i64, 1, 8, [.int .i64 0], some (.int .i64)⟩),
 (4, ⟨.bool, 1, 1, [.bool false], some .bool⟩),
 (5, ⟨.int .u8, 1, 1, [.int .u8 0], some (.int .u8)⟩),
 (9, ⟨.str, 1, 16, [.string ⟨#[]⟩], some .str⟩),
 (22, ⟨.slice 5, 1, 24, [.slice none 0 0], some zT2⟩),
 (23, ⟨.slice 59, 1, 24, [.slice none 0 0], some zT1⟩),
 (25, ⟨.struct [(3, 0), (3, 1), (9, 2), (3, 3), (3, 4), (3, 5), (22, 6), (23, 7), (4, 8)], 9, 112, [.int .i64 0, .int .i64 0, .string ⟨#[]⟩, .int .i64 0, .int .i64 0, .int .i64 0, .slice none 0 0, .slice none 0 0, .bool false], some (.prod (.int .i64) (.prod (.int .i64) (.prod .str (.prod (.int .i64) (.prod (.int .i64) (.prod (.int .i64) (.prod zT2 (.prod zT1 (.prod .bool .unit)))))))))⟩),
 (27, ⟨.struct [(3, 0), (3, 1), (3, 2), (3, 3), (3, 4)], 5, 40, [.int .i64 0, .int .i64 0, .int .i64 0, .int .i64 0, .int .i64 0], some (.prod (.int .i64) (.prod (.int .i64) (.prod (.int .i64) (.prod (.int .i64) (.prod (.int .i64) .unit)))))⟩),
 (28, ⟨.int .i64, 1, 8, [.int .i64 0], some (.int .i64)⟩),
 (36, ⟨.struct [(3, 0), (3, 1), (9, 2), (22, 3), (3, 4), (23, 5), (3, 6), (3, 7)], 8, 104, [.int .i64 0, .int .i64 0, .string ⟨#[]⟩, .slice none 0 0, .int .i64 0, .slice none 0 0, .int .i64 0, .int .i64 0], some (.prod (.int .i64) (.prod (.int .i64) (.prod .str (.prod zT2 (.prod (.int .i64) (.prod zT1 (.prod (.int .i64) (.prod (.int .i64) .unit))))))))⟩),
 (39, ⟨.slice 25, 1, 24, [.slice none 0 0], some (.slice (.prod (.int .i64) (.prod (.int .i64) (.prod .str (.prod (.int .i64) (.prod (.int .i64) (.prod (.int .i64) (.prod zT2 (.prod zT1 (.prod .bool .unit))))))))))⟩),
 (48, ⟨.struct [(3, 0), (3, 1), (9, 2), (22, 3), (23, 4), (3, 5), (3, 6), (3, 7), (3, 8)], 9, 112, [.int .i64 0, .int .i64 0, .string ⟨#[]⟩, .slice none 0 0, .slice none 0 0, .int .i64 0, .int .i64 0, .int .i64 0, .int .i64 0], some (.prod (.int .i64) (.prod (.int .i64) (.prod .str (.prod zT2 (.prod zT1 (.prod (.int .i64) (.prod (.int .i64) (.prod (.int .i64) (.prod (.int .i64) .unit)))))))))⟩),
 (59, ⟨.struct [(3, 0), (3, 1)], 2, 16, [.int .i64 0, .int .i64 0], some (.prod (.int .i64) (.prod (.int .i64) .unit))⟩),
 (76, ⟨.slice 4, 1, 24, [.slice none 0 0], some zT3⟩),
 (77, ⟨.slice 3, 1, 24, [.slice none 0 0], some (.slice (.int .i64))⟩),
 (110, ⟨.slice 155, 1, 24, [.slice none 0 0], some (.slice (.prod (.int .i64) (.prod (.prod (.int .i64) (.prod (.int .i64) (.prod .str (.prod (.int .i64) (.prod (.int .i64) (.prod (.int .i64) (.prod zT2 (.prod zT1 (.prod .bool .unit))))))))) .unit)))⟩),
 (112, ⟨.struct [(76, 0), (3, 1), (110, 2)], 3, 56, [.slice none 0 0, .int .i64 0, .slice none 0 0], some (.prod zT3 (.prod (.int .i64) (.prod (.slice (.prod (.int .i64) (.prod (.prod (.int .i64) (.prod (.int .i64) (.prod .str (.prod (.int .i64) (.prod (.int .i64) (.prod (.int .i64) (.prod zT2 (.prod zT1 (.prod .bool .unit))))))))) .unit))) .unit)))⟩),
 (114, ⟨.struct [(27, 0), (36, 5), (48, 13), (112, 22), (112, 25), (3, 28)], 29, 376, [.int .i64 0, .int .i64 0, .int .i64 0, .int .i64 0, .int .i64 0, .int .i64 0, .int .i64 0, .string ⟨#[]⟩, .slice none 0 0, .int .i64 0, .slice none 0 0, .int .i64 0, .int .i64 0, .int .i64 0, .int .i64 0, .string ⟨#[]⟩, .slice none 0 0, .slice none 0 0, .int .i64 0, .int .i64 0, .int .i64 0, .int .i64 0, .slice none 0 0, .int .i64 0, .slice none 0 0, .slice none 0 0, .int .i64 0, .slice none 0 0, .int .i64 0], some (.prod (.prod (.int .i64) (.prod (.int .i64) (.prod (.int .i64) (.prod (.int .i64) (.prod (.int .i64) .unit))))) (.prod (.prod (.int .i64) (.prod (.int .i64) (.prod .str (.prod zT2 (.prod (.int .i64) (.prod zT1 (.prod (.int .i64) (.prod (.int .i64) .unit)))))))) (.prod (.prod (.int .i64) (.prod (.int .i64) (.prod .str (.prod zT2 (.prod zT1 (.prod (.int .i64) (.prod (.int .i64) (.prod (.int .i64) (.prod (.int .i64) .unit))))))))) (.prod (.prod zT3 (.prod (.int .i64) (.prod (.slice (.prod (.int .i64) (.prod (.prod (.int .i64) (.prod (.int .i64) (.prod .str (.prod (.int .i64) (.prod (.int .i64) (.prod (.int .i64) (.prod zT2 (.prod zT1 (.prod .bool .unit))))))))) .unit))) .unit))) (.prod (.prod zT3 (.prod (.int .i64) (.prod (.slice (.prod (.int .i64) (.prod (.prod (.int .i64) (.prod (.int .i64) (.prod .str (.prod (.int .i64) (.prod (.int .i64) (.prod (.int .i64) (.prod zT2 (.prod zT1 (.prod .bool .unit))))))))) .unit))) .unit))) (.prod (.int .i64) .unit))))))⟩),
 (124, ⟨.slice 28, 1, 24, [.slice none 0 0], some (.slice (.int .i64))⟩),
 (149, ⟨.slice 23, 1, 24, [.slice none 0 0], some (.slice zT1)⟩),
 (155, ⟨.struct [(3, 0), (25, 1)], 10, 120, [.int .i64 0, .int .i64 0, .int .i64 0, .string ⟨#[]⟩, .int .i64 0, .int .i64 0, .int .i64 0, .slice none 0 0, .slice none 0 0, .bool false], some (.prod (.int .i64) (.prod (.prod (.int .i64) (.prod (.int .i64) (.prod .str (.prod (.int .i64) (.prod (.int .i64) (.prod (.int .i64) (.prod zT2 (.prod zT1 (.prod .bool .unit))))))))) .unit))⟩)]
noncomputable def sel : Code → List Nat → Code
 | c, [] => c
 | .seq a _, 0 :: l => sel a l
 | .seq _ b, _ :: l => sel b l
 | .cond _ a _, 0 :: l => sel a l
 | .cond _ _ b, _ :: l => sel b l
 | .block _ b, _ :: l => sel b l
 | .loop b, _ :: l => sel b l
 | c, _ => c
noncomputable def bodyOf (f : Func) : Code := match f.body with | some c => c | none => .skip
noncomputable def opsOf : Code → Array Oper
 | .region _ o _ => o
 | _ => #[]
noncomputable def operAt (c : Code) (i : Nat) : Oper := (opsOf c).getD i ⟨none, .alloc 0, 0, "", #[], none⟩

noncomputable def an66 : Ann := ⟨[.any, .any, .any], [], [], [], [], [], [], [], []⟩
noncomputable def an22 : Ann := ⟨[.any], [], [], [], [], [], [], [], []⟩
noncomputable def sp68_0 : List (Nat × Mode) := [(0, .any), (13, .any), (14, .any)]
noncomputable def jn68_0 : List (Nat × Mode) := []
noncomputable def jn68_1 : List (Nat × Mode) := [(0, .any), (13, .any), (14, .any)]
noncomputable def an68 : Ann := ⟨[.any], [], [], [(4, sp68_0)], [(0, jn68_0), (1, jn68_1)], [(0, sp68_0)], [], [], []⟩
noncomputable def cd68_0 : Code := sel (bodyOf Try.f68) [1, 1, 0, 1]
noncomputable def bd68_0 : Code := sel (bodyOf Try.f68) [1, 1, 0, 1, 0, 0]
noncomputable def jn76_0 : List (Nat × Mode) := []
noncomputable def an76 : Ann := ⟨[.any, .any, (.lend (.int .u8))], [], [], [], [(0, jn76_0)], [], [], [], []⟩
noncomputable def an25 : Ann := ⟨[.any, .any, (.lend (.int .u8))], [(.cells [.any, .any, .any, (.own (.int .u8)), .any, .any, .any, .any]), .any], [], [], [], [], [], [], []⟩
noncomputable def an53 : Ann := ⟨[.any], [], [], [], [], [], [], [], []⟩
noncomputable def sp123_0 : List (Nat × Mode) := [(0, (.cells [.any, .any, .any, .any, .any, .any, .any, .any, .any, .any, .any, .any, .any, .any, .any, .any, .any, .any, .any, .any, .any, .any, .any, .any, (.move (.prod (.int .i64) (.prod (.prod (.int .i64) (.prod (.int .i64) (.prod .str (.prod (.int .i64) (.prod (.int .i64) (.prod (.int .i64) (.prod zT2 (.prod zT1 (.prod .bool .unit))))))))) .unit))), .any, .any, (.move (.prod (.int .i64) (.prod (.prod (.int .i64) (.prod (.int .i64) (.prod .str (.prod (.int .i64) (.prod (.int .i64) (.prod (.int .i64) (.prod zT2 (.prod zT1 (.prod .bool .unit))))))))) .unit))), .any])), (1, .any), (5, (.tie (.own (.prod (.int .i64) (.prod (.int .i64) (.prod .str (.prod (.int .i64) (.prod (.int .i64) (.prod (.int .i64) (.prod zT2 (.prod zT1 (.prod .bool .unit))))))))))))]
noncomputable def jn123_0 : List (Nat × Mode) := [(5, .any)]
noncomputable def jn123_1 : List (Nat × Mode) := [(0, .any), (1, .any), (5, .any)]
noncomputable def an123 : Ann := ⟨[.any, .any], [], [], [(2, sp123_0)], [(0, jn123_0), (1, jn123_1)], [(0, sp123_0)], [], [], []⟩
noncomputable def cd123_0 : Code := sel (bodyOf Try.f123) [1, 1, 0]
noncomputable def bd123_0 : Code := sel (bodyOf Try.f123) [1, 1, 0, 0, 0]
noncomputable def an119 : Ann := ⟨[(.cells [.any, .any, .any, (.lend (.int .u8)), (.lend (.prod (.int .i64) (.prod (.int .i64) .unit))), .any, .any, .any, .any]), (.cells [.any, .any, .any, .any, .any, .any, (.lend (.int .u8)), (.lend (.prod (.int .i64) (.prod (.int .i64) .unit))), .any])], [], [], [], [], [], [], [], []⟩
noncomputable def sp87_1000007 : List (Nat × Mode) := [(1, .any), (5, .any), (6, .any), (8, .any), (9, .any), (10, .any), (11, .any), (18, .any)]
noncomputable def sp87_0 : List (Nat × Mode) := [(1, .any), (5, (.own (.prod (.int .i64) (.prod (.int .i64) .unit)))), (6, .any), (9, .any), (10, .any), (11, .any)]
noncomputable def sp87_1000011 : List (Nat × Mode) := [(1, .any), (5, .any), (6, .any), (31, .any)]
noncomputable def jn87_0 : List (Nat × Mode) := [(1, .any), (5, .any), (6, .any)]
noncomputable def jn87_1 : List (Nat × Mode) := [(1, .any), (5, .any), (6, .any), (9, .any), (10, .any), (11, .any)]
noncomputable def fi87_7 : List (Nat × Mode) := [(1, .any), (5, (.own (.prod (.int .i64) (.prod (.int .i64) .unit)))), (8, .any), (9, .any), (10, .any), (11, .any)]
noncomputable def fi87_11 : List (Nat × Mode) := [(5, .any)]
noncomputable def an87 : Ann := ⟨[(.lend (.prod (.int .i64) (.prod (.int .i64) .unit))), .any], [], [], [(4, sp87_0)], [(0, jn87_0), (1, jn87_1)], [(0, sp87_0)], [], [(7, sp87_1000007), (11, sp87_1000011)], [(7, fi87_7), (11, fi87_11)]⟩
noncomputable def cd87_1000007 : Code := sel (bodyOf Try.f87) [1, 1, 1, 0, 1, 0, 0, 1, 1, 0, 0, 1, 0, 1]
noncomputable def cd87_0 : Code := sel (bodyOf Try.f87) [1, 1, 1, 0, 1]
noncomputable def bd87_0 : Code := sel (bodyOf Try.f87) [1, 1, 1, 0, 1, 0, 0]
noncomputable def cd87_1000011 : Code := sel (bodyOf Try.f87) [1, 1, 1, 1, 0, 1]
noncomputable def sp132_1000002 : List (Nat × Mode) := [(0, .any), (1, .any), (6, .any)]
noncomputable def sp132_1000005 : List (Nat × Mode) := [(0, .any), (1, .any), (16, .any)]
noncomputable def fi132_2 : List (Nat × Mode) := [(0, .any), (1, .any)]
noncomputable def fi132_5 : List (Nat × Mode) := [(0, (.trim (.prod (.int .i64) (.prod (.int .i64) .unit))))]
noncomputable def an132 : Ann := ⟨[.any, .any], [], [], [], [], [], [], [(2, sp132_1000002), (5, sp132_1000005)], [(2, fi132_2), (5, fi132_5)]⟩
noncomputable def cd132_1000002 : Code := sel (bodyOf Try.f132) [1, 0, 1]
noncomputable def cd132_1000005 : Code := sel (bodyOf Try.f132) [1, 1, 0, 1, 1]
noncomputable def sp114_1000007 : List (Nat × Mode) := [(0, .any), (3, .any), (9, .any), (10, .any), (11, .any), (20, .any)]
noncomputable def sp114_0 : List (Nat × Mode) := [(0, .any), (3, .any), (9, .any), (10, .any), (11, .any)]
noncomputable def sp114_2 : List (Nat × Mode) := [(6, .any), (25, .any), (26, .any), (27, .any)]
noncomputable def jn114_0 : List (Nat × Mode) := [(0, .any), (3, .any)]
noncomputable def jn114_1 : List (Nat × Mode) := [(0, .any), (3, .any), (9, .any), (10, .any), (11, .any)]
noncomputable def jn114_2 : List (Nat × Mode) := [(6, .any)]
noncomputable def jn114_3 : List (Nat × Mode) := [(6, .any), (25, .any), (26, .any), (27, .any)]
noncomputable def fi114_7 : List (Nat × Mode) := [(0, .any), (3, .any), (9, .any), (10, .any), (11, .any)]
noncomputable def an114 : Ann := ⟨[(.lend zT1)], [], [], [(3, sp114_0), (11, sp114_2)], [(0, jn114_0), (1, jn114_1), (2, jn114_2), (3, jn114_3)], [(0, sp114_0), (2, sp114_2)], [], [(7, sp114_1000007)], [(7, fi114_7)]⟩
noncomputable def cd114_1000007 : Code := sel (bodyOf Try.f114) [1, 1, 0, 1, 0, 0, 1, 1, 0, 0, 1, 1, 1]
noncomputable def cd114_0 : Code := sel (bodyOf Try.f114) [1, 1, 0, 1]
noncomputable def bd114_0 : Code := sel (bodyOf Try.f114) [1, 1, 0, 1, 0, 0]
noncomputable def cd114_2 : Code := sel (bodyOf Try.f114) [1, 1, 1, 1, 0, 1]
noncomputable def bd114_2 : Code := sel (bodyOf Try.f114) [1, 1, 1, 1, 0, 1, 0, 0]
noncomputable def sp86_1000009 : List (Nat × Mode) := [(6, .any), (8, .any), (9, .any), (16, .any), (17, .any), (18, .any), (36, .any)]
noncomputable def sp86_0 : List (Nat × Mode) := [(6, (.own (.prod (.int .i64) (.prod (.int .i64) .unit)))), (16, .any), (17, .any), (18, .any)]
noncomputable def jn86_0 : List (Nat × Mode) := [(6, .any)]
noncomputable def jn86_1 : List (Nat × Mode) := [(6, .any), (16, .any), (17, .any), (18, .any)]
noncomputable def fi86_9 : List (Nat × Mode) := [(6, .any), (16, .any), (17, .any), (18, .any)]
noncomputable def an86 : Ann := ⟨[(.lend (.prod (.int .i64) (.prod (.int .i64) .unit))), (.lend (.prod (.int .i64) (.prod (.int .i64) .unit)))], [], [], [(5, sp86_0)], [(0, jn86_0), (1, jn86_1)], [(0, sp86_0)], [(8, [⟨[], []⟩, ⟨[], []⟩, ⟨[], []⟩, ⟨[], []⟩, ⟨[114704], []⟩, ⟨[1], []⟩, ⟨[], []⟩, ⟨[], []⟩, ⟨[1], []⟩, ⟨[], []⟩, ⟨[1], []⟩, ⟨[], []⟩, ⟨[], []⟩]), (9, [⟨[1], []⟩, ⟨[], []⟩, ⟨[], []⟩, ⟨[1], []⟩, ⟨[], []⟩, ⟨[], []⟩, ⟨[1], []⟩, ⟨[], []⟩, ⟨[1], []⟩, ⟨[], []⟩, ⟨[2], []⟩, ⟨[], []⟩, ⟨[1], []⟩, ⟨[], []⟩, ⟨[], [1]⟩])], [(9, sp86_1000009)], [(9, fi86_9)]⟩
noncomputable def cd86_1000009 : Code := sel (bodyOf Try.f86) [1, 1, 1, 1, 0, 1, 0, 0, 1, 1, 0, 0, 1, 1, 1]
noncomputable def cd86_0 : Code := sel (bodyOf Try.f86) [1, 1, 1, 1, 0, 1]
noncomputable def bd86_0 : Code := sel (bodyOf Try.f86) [1, 1, 1, 1, 0, 1, 0, 0]
noncomputable def sp120_1000004 : List (Nat × Mode) := [(0, .any), (1, .any), (2, .any), (3, .any), (11, .any), (12, .any), (27, .any)]
noncomputable def sp120_1000011 : List (Nat × Mode) := [(1, .any), (2, .any), (3, .any), (11, .any), (12, .any), (13, .any), (16, .any), (17, .any), (41, .any), (42, .any), (43, .any), (57, .any)]
noncomputable def sp120_0 : List (Nat × Mode) := [(1, .any), (2, .any), (3, .any), (11, .any), (12, .any), (13, .any), (41, .any), (42, .any), (43, .any)]
noncomputable def jn120_0 : List (Nat × Mode) := [(1, .any), (2, .any), (11, .any), (12, .any), (13, .any)]
noncomputable def jn120_1 : List (Nat × Mode) := [(1, .any), (2, .any), (3, .any), (11, .any), (12, .any), (13, .any), (41, .any), (42, .any), (43, .any)]
noncomputable def fi120_4 : List (Nat × Mode) := [(0, .any), (1, .any), (2, .any), (3, .any), (11, .any), (12, .any)]
noncomputable def fi120_11 : List (Nat × Mode) := [(1, .any), (2, .any), (3, .any), (11, .any), (12, .any), (13, .any), (41, .any), (42, .any), (43, .any)]
noncomputable def an120 : Ann := ⟨[(.lend (.int .u8)), (.lend (.prod (.int .i64) (.prod (.int .i64) .unit))), .any, (.lend (.int .u8))], [], [], [(7, sp120_0)], [(0, jn120_0), (1, jn120_1)], [(0, sp120_0)], [(9, [⟨[], []⟩, ⟨[147472], []⟩, ⟨[], []⟩, ⟨[], []⟩, ⟨[], []⟩, ⟨[147472], []⟩, ⟨[], []⟩, ⟨[], []⟩, ⟨[], []⟩, ⟨[], []⟩]), (11, [⟨[1], []⟩, ⟨[], []⟩, ⟨[], []⟩, ⟨[1], []⟩, ⟨[], []⟩, ⟨[], []⟩, ⟨[], []⟩, ⟨[], []⟩, ⟨[], []⟩, ⟨[], []⟩, ⟨[], []⟩, ⟨[], []⟩, ⟨[], [1]⟩])], [(4, sp120_1000004), (11, sp120_1000011)], [(4, fi120_4), (11, fi120_11)]⟩
noncomputable def cd120_1000004 : Code := sel (bodyOf Try.f120) [1, 1, 1, 0, 1]
noncomputable def cd120_1000011 : Code := sel (bodyOf Try.f120) [1, 1, 1, 1, 1, 0, 1, 0, 0, 1, 1, 0, 0, 1, 1, 1]
noncomputable def cd120_0 : Code := sel (bodyOf Try.f120) [1, 1, 1, 1, 1, 0, 1]
noncomputable def bd120_0 : Code := sel (bodyOf Try.f120) [1, 1, 1, 1, 1, 0, 1, 0, 0]
noncomputable def an95 : Ann := ⟨[(.cells [.any, .any, .any, (.lend (.int .u8)), (.lend (.prod (.int .i64) (.prod (.int .i64) .unit))), .any, .any, .any, .any])], [], [], [], [], [], [], [], []⟩
noncomputable def sp64_0 : List (Nat × Mode) := [(3, .any), (6, .any), (7, .any), (8, .any)]
noncomputable def jn64_0 : List (Nat × Mode) := [(3, .any)]
noncomputable def jn64_1 : List (Nat × Mode) := [(3, .any), (6, .any), (7, .any), (8, .any)]
noncomputable def an64 : Ann := ⟨[(.lend (.int .u8))], [], [], [(3, sp64_0)], [(0, jn64_0), (1, jn64_1)], [(0, sp64_0)], [], [], []⟩
noncomputable def cd64_0 : Code := sel (bodyOf Try.f64) [1, 1, 0, 1]
noncomputable def bd64_0 : Code := sel (bodyOf Try.f64) [1, 1, 0, 1, 0, 0]
noncomputable def an104 : Ann := ⟨[], [], [], [], [], [], [], [], []⟩
noncomputable def an131 : Ann := ⟨[(.lend (.prod (.int .i64) (.prod (.int .i64) .unit))), .any], [(.lend (.prod (.int .i64) (.prod (.int .i64) .unit)))], [], [], [], [], [], [], []⟩
noncomputable def an112 : Ann := ⟨[(.cells [.any, .any, .any, (.lend (.int .u8)), (.lend (.prod (.int .i64) (.prod (.int .i64) .unit))), .any, .any, .any, .any])], [(.lend (.prod (.int .i64) (.prod (.int .i64) .unit))), .any], [], [], [], [], [], [], []⟩
noncomputable def sp92_1000018 : List (Nat × Mode) := [(3, .any), (4, .any), (5, .any), (6, .any), (93, .any)]
noncomputable def sp92_1000023 : List (Nat × Mode) := [(3, .any), (4, .any), (5, .any), (6, .any), (108, .any)]
noncomputable def sp92_1000015 : List (Nat × Mode) := [(3, .any), (4, .any), (5, .any), (6, .any), (77, .any)]
noncomputable def sp92_1000025 : List (Nat × Mode) := [(3, .any), (4, .any), (5, .any), (6, .any), (114, .any)]
noncomputable def sp92_1000030 : List (Nat × Mode) := [(4, .any), (6, .any), (11, .any), (138, .any)]
noncomputable def fi92_18 : List (Nat × Mode) := [(3, .any), (4, .any), (5, .any), (6, .any)]
noncomputable def fi92_23 : List (Nat × Mode) := [(3, .any), (4, .any), (5, .any), (6, .any)]
noncomputable def fi92_15 : List (Nat × Mode) := [(3, .any), (4, (.cells [.any, .any, .any, (.lend (.int .u8)), (.lend (.prod (.int .i64) (.prod (.int .i64) .unit))), .any, .any, .any, .any])), (5, .any), (6, .any)]
noncomputable def fi92_25 : List (Nat × Mode) := [(3, .any), (4, .any), (5, .any), (6, .any)]
noncomputable def fi92_30 : List (Nat × Mode) := [(4, .any), (6, .any), (11, .any)]
noncomputable def an92 : Ann := ⟨[.any, (.cells [.any, .any, .any, (.lend (.int .u8)), (.lend (.prod (.int .i64) (.prod (.int .i64) .unit))), .any, .any, .any, .any]), (.cells [.any, .any, .any, .any, .any, .any, (.lend (.int .u8)), (.lend (.prod (.int .i64) (.prod (.int .i64) .unit))), .any])], [(.cells [.any, .any, .any, (.lend (.int .u8)), (.lend (.prod (.int .i64) (.prod (.int .i64) .unit))), .any, .any, .any, .any]), (.tie (.own (.prod (.int .i64) (.prod (.int .i64) (.prod .str (.prod (.int .i64) (.prod (.int .i64) (.prod (.int .i64) (.prod zT2 (.prod zT1 (.prod .bool .unit))))))))))), .any], [], [], [], [], [(6, [⟨[16392], []⟩, ⟨[], []⟩, ⟨[16392], []⟩, ⟨[], []⟩, ⟨[], []⟩, ⟨[], [16408]⟩, ⟨[114720], []⟩, ⟨[], []⟩]), (13, [⟨[16392], []⟩, ⟨[], []⟩, ⟨[16392], []⟩, ⟨[], []⟩, ⟨[], []⟩, ⟨[], [16408]⟩, ⟨[229408], []⟩, ⟨[], []⟩]), (21, [⟨[], []⟩, ⟨[3], []⟩, ⟨[], []⟩, ⟨[3], []⟩, ⟨[], []⟩, ⟨[], [2]⟩, ⟨[], []⟩, ⟨[], [2]⟩]), (27, [⟨[], []⟩, ⟨[2], []⟩, ⟨[], []⟩, ⟨[], []⟩, ⟨[2], []⟩, ⟨[], []⟩, ⟨[], []⟩]), (31, [⟨[1], []⟩, ⟨[], []⟩, ⟨[1], []⟩, ⟨[], []⟩, ⟨[], []⟩, ⟨[], []⟩, ⟨[], [2]⟩, ⟨[524328], []⟩, ⟨[], []⟩]), (34, [⟨[], []⟩, ⟨[1], []⟩, ⟨[], []⟩, ⟨[], [2]⟩, ⟨[], []⟩, ⟨[], [2]⟩]), (38, [⟨[2], []⟩, ⟨[], []⟩, ⟨[2], []⟩, ⟨[], []⟩, ⟨[], []⟩, ⟨[], []⟩, ⟨[], [4]⟩, ⟨[639016], []⟩, ⟨[], []⟩])], [(18, sp92_1000018), (23, sp92_1000023), (15, sp92_1000015), (25, sp92_1000025), (30, sp92_1000030)], [(18, fi92_18), (23, fi92_23), (15, fi92_15), (25, fi92_25), (30, fi92_30)]⟩
noncomputable def cd92_1000018 : Code := sel (bodyOf Try.f92) [1, 1, 1, 1, 1, 1, 0, 1, 0, 1, 0, 1, 1]
noncomputable def cd92_1000023 : Code := sel (bodyOf Try.f92) [1, 1, 1, 1, 1, 1, 0, 1, 1, 1, 1]
noncomputable def cd92_1000015 : Code := sel (bodyOf Try.f92) [1, 1, 1, 1, 1, 1, 0, 1]
noncomputable def cd92_1000025 : Code := sel (bodyOf Try.f92) [1, 1, 1, 1, 1, 1, 1, 0, 1]
noncomputable def cd92_1000030 : Code := sel (bodyOf Try.f92) [1, 1, 1, 1, 1, 1, 1, 1, 0, 1, 0, 1, 1, 0, 1]
noncomputable def sp124_1000004 : List (Nat × Mode) := [(0, .any), (1, .any), (7, .any), (8, .any), (9, .any), (10, .any), (36, .any)]
noncomputable def sp124_0 : List (Nat × Mode) := [(0, (.cells [.any, .any, .any, .any, .any, .any, .any, .any, .any, .any, .any, .any, .any, .any, .any, .any, .any, .any, .any, .any, .any, .any, .any, .any, (.tie (.move (.prod (.int .i64) (.prod (.prod (.int .i64) (.prod (.int .i64) (.prod .str (.prod (.int .i64) (.prod (.int .i64) (.prod (.int .i64) (.prod zT2 (.prod zT1 (.prod .bool .unit))))))))) .unit)))), .any, .any, (.tie (.move (.prod (.int .i64) (.prod (.prod (.int .i64) (.prod (.int .i64) (.prod .str (.prod (.int .i64) (.prod (.int .i64) (.prod (.int .i64) (.prod zT2 (.prod zT1 (.prod .bool .unit))))))))) .unit)))), .any])), (1, .any), (8, .any), (9, .any), (10, (.drop 3 (.drop 2 .any)))]
noncomputable def jn124_0 : List (Nat × Mode) := []
noncomputable def jn124_1 : List (Nat × Mode) := [(0, .any), (1, .any), (8, .any), (9, .any), (10, .any)]
noncomputable def fi124_4 : List (Nat × Mode) := [(0, (.cells [.any, .any, .any, .any, .any, .any, .any, .any, .any, .any, .any, .any, .any, .any, .any, .any, .any, .any, .any, .any, .any, .any, .any, .any, (.tie (.move (.prod (.int .i64) (.prod (.prod (.int .i64) (.prod (.int .i64) (.prod .str (.prod (.int .i64) (.prod (.int .i64) (.prod (.int .i64) (.prod zT2 (.prod zT1 (.prod .bool .unit))))))))) .unit)))), .any, .any, (.tie (.move (.prod (.int .i64) (.prod (.prod (.int .i64) (.prod (.int .i64) (.prod .str (.prod (.int .i64) (.prod (.int .i64) (.prod (.int .i64) (.prod zT2 (.prod zT1 (.prod .bool .unit))))))))) .unit)))), .any])), (1, .any), (8, .any), (9, .any), (10, (.drop 3 (.drop 2 .any)))]
noncomputable def an124 : Ann := ⟨[.any, .any, (.lend (.prod (.int .i64) (.prod (.int .i64) (.prod .str (.prod (.int .i64) (.prod (.int .i64) (.prod (.int .i64) (.prod zT2 (.prod zT1 (.prod .bool .unit))))))))))], [], [], [(1, sp124_0)], [(0, jn124_0), (1, jn124_1)], [(0, sp124_0)], [(3, [⟨[], []⟩, ⟨[], []⟩, ⟨[], []⟩, ⟨[1], []⟩, ⟨[], []⟩, ⟨[], []⟩, ⟨[], []⟩, ⟨[1], []⟩, ⟨[], []⟩, ⟨[], []⟩, ⟨[], []⟩, ⟨[], []⟩, ⟨[], []⟩, ⟨[], []⟩, ⟨[1], []⟩, ⟨[], []⟩, ⟨[], []⟩, ⟨[], []⟩, ⟨[1], []⟩, ⟨[], []⟩, ⟨[], []⟩, ⟨[], []⟩, ⟨[], []⟩]), (4, [⟨[], []⟩, ⟨[], []⟩, ⟨[], []⟩, ⟨[], []⟩, ⟨[1, 2, 3, 4, 5], []⟩, ⟨[], []⟩, ⟨[2, 3, 4, 5, 6], []⟩, ⟨[], []⟩, ⟨[], []⟩, ⟨[81984], [2, 3, 4, 5]⟩, ⟨[], []⟩, ⟨[], []⟩, ⟨[2, 3, 4, 5, 81992], [1]⟩])], [(4, sp124_1000004)], [(4, fi124_4)]⟩
noncomputable def cd124_1000004 : Code := sel (bodyOf Try.f124) [1, 0, 0, 1, 1, 0, 0, 1, 0, 1]
noncomputable def cd124_0 : Code := sel (bodyOf Try.f124) [1]
noncomputable def bd124_0 : Code := sel (bodyOf Try.f124) [1, 0, 0]
noncomputable def an71 : Ann := ⟨[(.lend (.prod (.int .i64) (.prod (.int .i64) .unit)))], [], [], [], [], [], [(1, [⟨[], []⟩, ⟨[], []⟩, ⟨[], []⟩, ⟨[], []⟩, ⟨[], []⟩, ⟨[], []⟩, ⟨[], []⟩, ⟨[], []⟩, ⟨[], []⟩, ⟨[], []⟩])], [], []⟩
noncomputable def sp117_1000008 : List (Nat × Mode) := [(2, .any), (4, .any), (7, .any), (8, .any), (9, .any), (10, .any), (12, .any), (24, .any), (25, .any), (26, .any), (34, .any)]
noncomputable def sp117_0 : List (Nat × Mode) := [(2, .any), (4, .any), (7, .any), (8, .any), (9, .any), (10, (.own (.prod (.int .i64) (.prod (.int .i64) .unit)))), (24, .any), (25, .any), (26, .any)]
noncomputable def sp117_1000016 : List (Nat × Mode) := [(2, .any), (4, .any), (63, .any)]
noncomputable def jn117_0 : List (Nat × Mode) := [(2, .any), (4, .any), (7, .any), (8, .any), (9, .any), (10, .any)]
noncomputable def jn117_1 : List (Nat × Mode) := [(2, .any), (4, .any), (7, .any), (8, .any), (9, .any), (10, .any), (24, .any), (25, .any), (26, .any)]
noncomputable def fi117_8 : List (Nat × Mode) := [(2, .any), (4, .any), (7, .any), (8, .any), (9, .any), (10, (.own (.prod (.int .i64) (.prod (.int .i64) .unit)))), (24, .any), (25, .any), (26, .any)]
noncomputable def fi117_16 : List (Nat × Mode) := [(2, .any), (4, .any)]
noncomputable def an117 : Ann := ⟨[(.cells [.any, .any, .any, (.lend (.int .u8)), .any, (.lend (.prod (.int .i64) (.prod (.int .i64) .unit))), .any, .any]), (.lend (.prod (.int .i64) (.prod (.int .i64) .unit)))], [(.cells [.any, .any, .any, (.lend (.int .u8)), .any, (.lend (.prod (.int .i64) (.prod (.int .i64) .unit))), .any, .any]), .any], [], [(5, sp117_0)], [(0, jn117_0), (1, jn117_1)], [(0, sp117_0)], [], [(8, sp117_1000008), (16, sp117_1000016)], [(8, fi117_8), (16, fi117_16)]⟩
noncomputable def cd117_1000008 : Code := sel (bodyOf Try.f117) [1, 1, 1, 1, 0, 1, 0, 0, 1, 1, 0, 0, 1, 1]
noncomputable def cd117_0 : Code := sel (bodyOf Try.f117) [1, 1, 1, 1, 0, 1]
noncomputable def bd117_0 : Code := sel (bodyOf Try.f117) [1, 1, 1, 1, 0, 1, 0, 0]
noncomputable def cd117_1000016 : Code := sel (bodyOf Try.f117) [1, 1, 1, 1, 1, 1, 1, 1, 1, 0, 1]
noncomputable def sp90_1000008 : List (Nat × Mode) := [(2, .any), (4, .any), (43, .any)]
noncomputable def sp90_1000006 : List (Nat × Mode) := [(2, .any), (3, .any), (4, .any), (32, .any)]
noncomputable def jn90_0 : List (Nat × Mode) := [(2, .any), (4, .any)]
noncomputable def fi90_8 : List (Nat × Mode) := [(2, (.cells [.any, .any, .any, .any, .any, (.lend (.prod (.int .i64) (.prod (.int .i64) .unit))), .any, .any])), (4, .any)]
noncomputable def fi90_6 : List (Nat × Mode) := [(2, (.cells [.any, .any, .any, .any, .any, (.lend (.prod (.int .i64) (.prod (.int .i64) .unit))), .any, .any])), (4, .any)]
noncomputable def an90 : Ann := ⟨[(.cells [.any, .any, .any, (.lend (.int .u8)), .any, (.lend (.prod (.int .i64) (.prod (.int .i64) .unit))), .any, .any]), (.cells [.any, .any, .any, .any, .any, .any, (.lend (.int .u8)), (.lend (.prod (.int .i64) (.prod (.int .i64) .unit))), .any])], [], [], [], [(0, jn90_0)], [], [], [(8, sp90_1000008), (6, sp90_1000006)], [(8, fi90_8), (6, fi90_6)]⟩
noncomputable def cd90_1000008 : Code := sel (bodyOf Try.f90) [1, 1, 0, 0, 1, 1, 1, 1, 1]
noncomputable def cd90_1000006 : Code := sel (bodyOf Try.f90) [1, 1, 0, 0, 1, 1, 1]
noncomputable def an107 : Ann := ⟨[(.cells [.any, .any, .any, (.lend (.int .u8)), .any, (.lend (.prod (.int .i64) (.prod (.int .i64) .unit))), .any, .any])], [], [], [], [], [], [(1, [⟨[], []⟩, ⟨[16384], []⟩, ⟨[], []⟩, ⟨[16384], []⟩, ⟨[], []⟩, ⟨[], []⟩, ⟨[16384], []⟩, ⟨[], []⟩, ⟨[], []⟩, ⟨[], [16392]⟩])], [], []⟩
noncomputable def an128 : Ann := ⟨[(.cells [.any, .any, .any, (.lend (.int .u8)), .any, (.lend (.prod (.int .i64) (.prod (.int .i64) .unit))), .any, .any]), .any, .any], [], [], [], [], [], [(1, [⟨[], []⟩, ⟨[16384], []⟩, ⟨[], []⟩, ⟨[], []⟩, ⟨[16384], []⟩, ⟨[], []⟩, ⟨[], []⟩, ⟨[], []⟩, ⟨[], []⟩, ⟨[], []⟩, ⟨[], []⟩, ⟨[32849], []⟩, ⟨[32849], [16392]⟩])], [], []⟩
noncomputable def sp108_1000018 : List (Nat × Mode) := [(3, .any), (4, .any), (5, .any), (10, .any), (96, .any)]
noncomputable def jn108_0 : List (Nat × Mode) := [(2, .any), (3, .any), (4, .any), (5, .any)]
noncomputable def fi108_18 : List (Nat × Mode) := [(3, (.cells [.any, .any, .any, .any, .any, (.trim (.prod (.int .i64) (.prod (.int .i64) .unit))), .any, .any])), (4, .any), (5, .any), (10, .any)]
noncomputable def an108 : Ann := ⟨[.any, (.cells [.any, .any, .any, (.lend (.int .u8)), .any, (.lend (.prod (.int .i64) (.prod (.int .i64) .unit))), .any, .any])], [(.cells [.any, .any, .any, .any, .any, (.lend (.prod (.int .i64) (.prod (.int .i64) .unit))), .any, .any]), (.cells [.any, .any, .any, .any, .any, .any, (.own (.int .u8)), .any, .any])], [], [], [(0, jn108_0)], [], [(6, [⟨[16392], []⟩, ⟨[49216], []⟩, ⟨[], [16400]⟩, ⟨[], [16408]⟩]), (7, [⟨[], []⟩, ⟨[], []⟩, ⟨[], []⟩, ⟨[16392], []⟩, ⟨[], []⟩, ⟨[], []⟩, ⟨[], []⟩, ⟨[], []⟩, ⟨[], []⟩, ⟨[], []⟩]), (10, [⟨[16392, 147481], []⟩, ⟨[49216], []⟩, ⟨[147481], [16400]⟩, ⟨[], [16408]⟩]), (17, [⟨[], []⟩, ⟨[16392, 262161], []⟩, ⟨[262161], []⟩, ⟨[], []⟩, ⟨[262161], []⟩, ⟨[], []⟩, ⟨[213024], []⟩, ⟨[], []⟩]), (19, [⟨[1, 2], []⟩, ⟨[5, 6], []⟩, ⟨[2], [3]⟩, ⟨[6], [4]⟩]), (24, [⟨[16392], []⟩, ⟨[376865, 376872], []⟩, ⟨[], [16400]⟩, ⟨[376865], [16408]⟩]), (25, [⟨[], []⟩, ⟨[1], []⟩, ⟨[], []⟩, ⟨[], [2]⟩, ⟨[], []⟩, ⟨[], [2]⟩]), (26, [⟨[2], []⟩, ⟨[2], []⟩, ⟨[], []⟩, ⟨[], [3]⟩, ⟨[], [4]⟩])], [(18, sp108_1000018)], [(18, fi108_18)]⟩
noncomputable def cd108_1000018 : Code := sel (bodyOf Try.f108) [1, 1, 1, 0, 0, 1, 1, 1, 1, 1, 0, 1, 1, 1, 1, 0, 1, 1]
noncomputable def sp79_0 : List (Nat × Mode) := [(2, .any), (3, .any), (4, .any), (6, (.own (.prod (.int .i64) (.prod (.int .i64) (.prod .str (.prod (.int .i64) (.prod (.int .i64) (.prod (.int .i64) (.prod zT2 (.prod zT1 (.prod .bool .unit)))))))))))]
noncomputable def jn79_0 : List (Nat × Mode) := [(3, .any), (4, .any), (6, .any)]
noncomputable def jn79_1 : List (Nat × Mode) := [(2, .any), (3, .any), (4, .any), (6, .any)]
noncomputable def an79 : Ann := ⟨[.any, (.cells [.any, .any, .any, (.lend (.int .u8)), .any, (.lend (.prod (.int .i64) (.prod (.int .i64) .unit))), .any, .any])], [.any, (.own (.prod (.int .i64) (.prod (.int .i64) (.prod .str (.prod (.int .i64) (.prod (.int .i64) (.prod (.int .i64) (.prod zT2 (.prod zT1 (.prod .bool .unit))))))))))], [], [(12, sp79_0)], [(0, jn79_0), (1, jn79_1)], [(0, sp79_0)], [(7, [⟨[16392], []⟩, ⟨[], []⟩, ⟨[16392], []⟩, ⟨[], []⟩, ⟨[], []⟩, ⟨[], [16400]⟩, ⟨[131104], []⟩]), (10, [⟨[16392], []⟩, ⟨[16392], []⟩, ⟨[], []⟩, ⟨[], []⟩, ⟨[], [16400]⟩, ⟨[180248], []⟩])], [], []⟩
noncomputable def cd79_0 : Code := sel (bodyOf Try.f79) [1, 1, 1, 0]
noncomputable def bd79_0 : Code := sel (bodyOf Try.f79) [1, 1, 1, 0, 0, 0]
noncomputable def an82 : Ann := ⟨[.any, (.cells [.any, .any, .any, (.lend (.int .u8)), (.lend (.prod (.int .i64) (.prod (.int .i64) .unit))), .any, .any, .any, .any])], [(.cells [.any, .any, .any, (.lend (.int .u8)), (.lend (.prod (.int .i64) (.prod (.int .i64) .unit))), .any, .any, .any, .any]), (.tie (.own (.prod (.int .i64) (.prod (.int .i64) (.prod .str (.prod (.int .i64) (.prod (.int .i64) (.prod (.int .i64) (.prod zT2 (.prod zT1 (.prod .bool .unit))))))))))), .any], [], [], [], [], [(8, [⟨[16392], []⟩, ⟨[], []⟩, ⟨[16392], []⟩, ⟨[], []⟩, ⟨[], []⟩, ⟨[], [16400]⟩, ⟨[147488], []⟩, ⟨[], []⟩]), (14, [⟨[16392], []⟩, ⟨[], []⟩, ⟨[16392], []⟩, ⟨[], []⟩, ⟨[], []⟩, ⟨[], []⟩, ⟨[], [16400]⟩, ⟨[245800], []⟩, ⟨[], []⟩])], [], []⟩
noncomputable def sp100_0 : List (Nat × Mode) := [(0, (.cells [.any, .any, .any, .any, .any, .any, .any, .any, .any, .any, .any, .any, .any, .any, .any, .any, .any, .any, .any, .any, .any, .any, .any, .any, .any, .any, .any, (.move (.prod (.int .i64) (.prod (.prod (.int .i64) (.prod (.int .i64) (.prod .str (.prod (.int .i64) (.prod (.int .i64) (.prod (.int .i64) (.prod zT2 (.prod zT1 (.prod .bool .unit))))))))) .unit))), .any])), (1, .any), (15, .any), (16, .any), (17, (.drop 3 .any))]
noncomputable def sp100_2 : List (Nat × Mode) := [(0, .any), (1, .any), (58, .any), (59, .any), (60, .any)]
noncomputable def sp100_1000019 : List (Nat × Mode) := [(0, .any), (1, .any), (92, .any)]
noncomputable def jn100_0 : List (Nat × Mode) := [(0, .any), (1, .any)]
noncomputable def jn100_1 : List (Nat × Mode) := [(0, .any), (1, .any), (15, .any), (16, .any), (17, .any)]
noncomputable def jn100_2 : List (Nat × Mode) := [(0, .any), (1, .any)]
noncomputable def jn100_3 : List (Nat × Mode) := [(0, .any), (1, .any), (58, .any), (59, .any), (60, .any)]
noncomputable def fi100_19 : List (Nat × Mode) := [(0, .any), (1, .any)]
noncomputable def an100 : Ann := ⟨[(.cells [.any, .any, .any, .any, .any, .any, .any, .any, (.lend (.int .u8)), .any, (.lend (.prod (.int .i64) (.prod (.int .i64) .unit))), .any, .any, .any, .any, .any, (.lend (.int .u8)), (.lend (.prod (.int .i64) (.prod (.int .i64) .unit))), .any, .any, .any, .any, .any, .any, (.tie (.own (.prod (.int .i64) (.prod (.prod (.int .i64) (.prod (.int .i64) (.prod .str (.prod (.int .i64) (.prod (.int .i64) (.prod (.int .i64) (.prod zT2 (.prod zT1 (.prod .bool .unit))))))))) .unit)))), .any, .any, (.tie (.own (.prod (.int .i64) (.prod (.prod (.int .i64) (.prod (.int .i64) (.prod .str (.prod (.int .i64) (.prod (.int .i64) (.prod (.int .i64) (.prod zT2 (.prod zT1 (.prod .bool .unit))))))))) .unit)))), .any]), .any], [.any, (.ice [1] (.cells [.any, .any, .any, .any, .any, .any, .any, .any, .any, .any, .any, .any, .any, .any, .any, .any, (.wide [] .any), (.wide [] .any), .any, .any, .any, .any, .any, .any, .any, .any, .any, .any, .any])), .any, .any], [], [(4, sp100_0), (12, sp100_2)], [(0, jn100_0), (1, jn100_1), (2, jn100_2), (3, jn100_3)], [(0, sp100_0), (2, sp100_2)], [(20, [⟨[], []⟩, ⟨[], []⟩, ⟨[], []⟩, ⟨[], []⟩, ⟨[1], []⟩, ⟨[], []⟩, ⟨[], []⟩, ⟨[], []⟩, ⟨[1, 2], []⟩, ⟨[2], []⟩, ⟨[2, 344137], []⟩, ⟨[2], []⟩, ⟨[2, 344137], []⟩, ⟨[], []⟩, ⟨[], []⟩, ⟨[2, 4, 5], [1]⟩, ⟨[344137], []⟩]), (21, [⟨[], []⟩, ⟨[], []⟩, ⟨[], []⟩, ⟨[], []⟩, ⟨[], []⟩, ⟨[], []⟩, ⟨[], []⟩, ⟨[], []⟩, ⟨[1], []⟩, ⟨[], []⟩, ⟨[344137], []⟩, ⟨[2, 344137], [1, 4, 5]⟩]), (22, [⟨[], []⟩, ⟨[], []⟩, ⟨[], []⟩, ⟨[], []⟩, ⟨[1], []⟩, ⟨[], []⟩, ⟨[], []⟩, ⟨[], []⟩, ⟨[1, 344137], []⟩, ⟨[344137], []⟩, ⟨[344137, 376905], []⟩, ⟨[344137], []⟩, ⟨[344137, 376905], []⟩, ⟨[344137], []⟩, ⟨[], []⟩, ⟨[], []⟩, ⟨[2, 344137, 360537, 360538], [1]⟩, ⟨[376905], []⟩, ⟨[], []⟩]), (25, [⟨[], []⟩, ⟨[], []⟩, ⟨[], []⟩, ⟨[], []⟩, ⟨[], []⟩, ⟨[], []⟩, ⟨[], []⟩, ⟨[], []⟩, ⟨[1], []⟩, ⟨[], []⟩, ⟨[376905], []⟩, ⟨[2, 344137, 376905], [1, 360537, 360538]⟩]), (26, [⟨[], []⟩, ⟨[], []⟩, ⟨[], []⟩, ⟨[], []⟩, ⟨[1], []⟩, ⟨[], []⟩, ⟨[], []⟩, ⟨[], []⟩, ⟨[], []⟩, ⟨[1], []⟩, ⟨[], []⟩, ⟨[], []⟩]), (6, [⟨[], []⟩, ⟨[], []⟩, ⟨[], []⟩, ⟨[], []⟩, ⟨[1], []⟩, ⟨[], []⟩, ⟨[], []⟩, ⟨[], []⟩, ⟨[1], []⟩, ⟨[98320], []⟩, ⟨[], []⟩, ⟨[114769], []⟩, ⟨[], []⟩, ⟨[114769], []⟩, ⟨[], []⟩, ⟨[], []⟩, ⟨[], []⟩, ⟨[3, 4, 5], [1]⟩, ⟨[114769], []⟩, ⟨[], []⟩]), (9, [⟨[], []⟩, ⟨[], []⟩, ⟨[], []⟩, ⟨[], []⟩, ⟨[], []⟩, ⟨[], []⟩, ⟨[], []⟩, ⟨[], []⟩, ⟨[1], []⟩, ⟨[], []⟩, ⟨[114769], []⟩, ⟨[114769], [1, 3, 4, 5]⟩]), (14, [⟨[], []⟩, ⟨[], []⟩, ⟨[], []⟩, ⟨[], []⟩, ⟨[1], []⟩, ⟨[229392], []⟩, ⟨[], []⟩, ⟨[], []⟩, ⟨[], []⟩, ⟨[], []⟩, ⟨[], []⟩, ⟨[], []⟩, ⟨[4, 5], [1]⟩, ⟨[], []⟩])], [(19, sp100_1000019)], [(19, fi100_19)]⟩
noncomputable def cd100_0 : Code := sel (bodyOf Try.f100) [1, 1, 1, 0, 1]
noncomputable def bd100_0 : Code := sel (bodyOf Try.f100) [1, 1, 1, 0, 1, 0, 0]
noncomputable def cd100_2 : Code := sel (bodyOf Try.f100) [1, 1, 1, 1, 0, 1]
noncomputable def bd100_2 : Code := sel (bodyOf Try.f100) [1, 1, 1, 1, 0, 1, 0, 0]
noncomputable def cd100_1000019 : Code := sel (bodyOf Try.f100) [1, 1, 1, 1, 1, 0, 1]
noncomputable def sp59_0 : List (Nat × Mode) := [(14, .any), (15, .any), (23, (.cells [.any, .any, .any, .any, .any, .any, .any, .any, (.lend (.int .u8)), .any, (.lend (.prod (.int .i64) (.prod (.int .i64) .unit))), .any, .any, .any, .any, .any, (.lend (.int .u8)), (.lend (.prod (.int .i64) (.prod (.int .i64) .unit))), .any, .any, .any, .any, .any, .any, (.tie (.own (.prod (.int .i64) (.prod (.prod (.int .i64) (.prod (.int .i64) (.prod .str (.prod (.int .i64) (.prod (.int .i64) (.prod (.int .i64) (.prod zT2 (.prod zT1 (.prod .bool .unit))))))))) .unit)))), .any, .any, (.tie (.own (.prod (.int .i64) (.prod (.prod (.int .i64) (.prod (.int .i64) (.prod .str (.prod (.int .i64) (.prod (.int .i64) (.prod (.int .i64) (.prod zT2 (.prod zT1 (.prod .bool .unit))))))))) .unit)))), .any])), (74, .any), (75, .any)]
noncomputable def jn59_0 : List (Nat × Mode) := [(14, .any), (15, .any), (23, .any)]
noncomputable def jn59_1 : List (Nat × Mode) := [(14, .any), (15, .any), (23, .any), (74, .any), (75, .any)]
noncomputable def an59 : Ann := ⟨[.any, .any, .any, (.lend (.int .u8)), (.lend .bool), (.lend .bool), .any], [(.cells [.any, .any, .any, (.lend (.int .u8)), .any, (.lend (.prod (.int .i64) (.prod (.int .i64) .unit))), .any, .any]), (.cells [.any, .any, .any, (.lend (.int .u8)), (.lend (.prod (.int .i64) (.prod (.int .i64) .unit))), .any, .any, .any, .any]), (.own (.int .i64)), .any], [], [(14, sp59_0)], [(0, jn59_0), (1, jn59_1)], [(0, sp59_0)], [(20, [⟨[], []⟩, ⟨[], []⟩, ⟨[], []⟩, ⟨[3], []⟩, ⟨[], []⟩, ⟨[], []⟩, ⟨[], []⟩, ⟨[3], []⟩, ⟨[], []⟩, ⟨[], []⟩, ⟨[], []⟩, ⟨[], []⟩, ⟨[3], []⟩, ⟨[], []⟩, ⟨[], []⟩, ⟨[], []⟩, ⟨[], []⟩, ⟨[3], []⟩, ⟨[], []⟩, ⟨[], []⟩, ⟨[], []⟩, ⟨[3], []⟩, ⟨[], []⟩, ⟨[], [1]⟩, ⟨[], [2]⟩, ⟨[344240], []⟩, ⟨[], []⟩])], [], []⟩
noncomputable def cd59_0 : Code := sel (bodyOf Try.f59) [1, 1, 1, 1, 1, 1, 1, 1, 0, 1]
noncomputable def bd59_0 : Code := sel (bodyOf Try.f59) [1, 1, 1, 1, 1, 1, 1, 1, 0, 1, 0, 0]
noncomputable def an70 : Ann := ⟨[.any, .any, .any], [], [], [], [], [], [], [], []⟩
noncomputable def sp69_0 : List (Nat × Mode) := [(5, .any), (6, .any), (7, .any)]
noncomputable def jn69_0 : List (Nat × Mode) := []
noncomputable def jn69_1 : List (Nat × Mode) := [(5, .any), (6, .any), (7, .any)]
noncomputable def an69 : Ann := ⟨[(.lend (.int .i64))], [], [], [(2, sp69_0)], [(0, jn69_0), (1, jn69_1)], [(0, sp69_0)], [], [], []⟩
noncomputable def cd69_0 : Code := sel (bodyOf Try.f69) [1, 0, 1]
noncomputable def bd69_0 : Code := sel (bodyOf Try.f69) [1, 0, 1, 0, 0]
noncomputable def sp125_1000003 : List (Nat × Mode) := [(5, .any), (12, .any)]
noncomputable def fi125_3 : List (Nat × Mode) := [(5, .any)]
noncomputable def an125 : Ann := ⟨[.any, .any], [], [], [], [], [], [], [(3, sp125_1000003)], [(3, fi125_3)]⟩
noncomputable def cd125_1000003 : Code := sel (bodyOf Try.f125) [1, 1, 0, 1]
noncomputable def an101 : Ann := ⟨[.any, .any], [], [], [], [], [], [], [], []⟩
noncomputable def an60 : Ann := ⟨[.any, .any], [], [], [], [], [], [(5, [⟨[], []⟩, ⟨[], []⟩, ⟨[], []⟩, ⟨[], []⟩, ⟨[16384], []⟩, ⟨[], []⟩, ⟨[], []⟩, ⟨[16384], []⟩, ⟨[], []⟩, ⟨[], []⟩, ⟨[], []⟩, ⟨[], []⟩, ⟨[], []⟩])], [], []⟩
noncomputable def an18 : Ann := ⟨[(.lend (.int .u8))], [], [], [], [], [], [], [], []⟩
noncomputable def an24 : Ann := ⟨[], [], [], [], [], [], [], [], []⟩
noncomputable def an16 : Ann := ⟨[.any, .any, .any, (.lend (.int .u8)), .any], [], [], [], [], [], [], [], []⟩
end Go.Proofs.Ytlcklflbhhnnhaa.PM
