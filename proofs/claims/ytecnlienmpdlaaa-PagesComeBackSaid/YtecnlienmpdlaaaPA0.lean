/- Annotations, and the equations of the loops (printed by a program of this work). -/
import Derived.Test.YtecnlienmpdlaaaPT0
import Derived.Test.YtecnlienmpdlaaaPmZ
import Derived.Test.YtecnlienmpdlaaaPmSh
import Derived.Test.YtecnlienmpdlaaaProg
import Derived.KernelRfl
set_option linter.unusedVariables false
set_option linter.unusedSimpArgs false
set_option maxRecDepth 100000
namespace Go.Proofs.Ytecnlienmpdlaaa.PM
open Go
noncomputable def T : TT := [(3, ⟨.int .i64, 1, 8, [.int .i64 0], some (.int .i64)⟩),
  (4, ⟨.bool, 1, 1, [.bool false], some .bool⟩),
  (5, ⟨.int .u8, 1, 1, [.int .u8 0], some (.int .u8)⟩),
  (9, ⟨.str, 1, 16, [.string ⟨#[]⟩], some .str⟩),
  (22, ⟨.slice 5, 1, 24, [.slice none 0 0], some (.slice (.int .u8))⟩),
  (37, ⟨.struct [(3, 0), (4, 1), (9, 2), (3, 3), (4, 4), (22, 5)], 6, 72, [.int .i64 0, .bool false, .string ⟨#[]⟩, .int .i64 0, .bool false, .slice none 0 0], some (.prod (.int .i64) (.prod .bool (.prod .str (.prod (.int .i64) (.prod .bool (.prod (.slice (.int .u8)) .unit))))))⟩),
  (46, ⟨.int .u64, 1, 8, [.int .u64 0], some (.int .u64)⟩)]
noncomputable def sel : Code → List Nat → Code
  | c, [] => c
  | .seq a _, 0 :: l => sel a l
  | .seq _ b, _ :: l => sel b l
  | .cond _ a _, 0 :: l => sel a l
  | .cond _ _ b, _ :: l => sel b l
  | .block _ b, _ :: l => sel b l
  | .loop b, _ :: l => sel b l
  | c, _ => c
noncomputable def bodyOf (f : Func) : Code := match f.body with | some c => c | none => .skip
noncomputable def opsOf : Code → Array Oper
  | .region _ o _ => o
  | _ => #[]
noncomputable def operAt (c : Code) (i : Nat) : Oper := (opsOf c).getD i ⟨none, .alloc 0, 0, "", #[], none⟩

noncomputable def an52 : Ann := ⟨[.any, .any, .any], [], [], [], [], [], [], [], []⟩
noncomputable def sp73_0 : List (Nat × Mode) := [(0, .any), (12, .any), (13, .any)]
noncomputable def jn73_0 : List (Nat × Mode) := []
noncomputable def jn73_1 : List (Nat × Mode) := [(0, .any), (12, .any), (13, .any)]
noncomputable def an73 : Ann := ⟨[.any], [], [], [(4, sp73_0)], [(0, jn73_0), (1, jn73_1)], [(0, sp73_0)], [], [], []⟩
noncomputable def cd73_0 : Code := sel (bodyOf Try.f73) [1, 1, 0, 1]
noncomputable def bd73_0 : Code := sel (bodyOf Try.f73) [1, 1, 0, 1, 0, 0]
noncomputable def an53 : Ann := ⟨[.any], [], [], [], [], [], [], [], []⟩
noncomputable def an85 : Ann := ⟨[.any, .any], [], [], [], [], [], [], [], []⟩
noncomputable def an62 : Ann := ⟨[.any, .any], [], [], [], [], [], [], [], []⟩
noncomputable def sp47_1000002 : List (Nat × Mode) := [(0, .any), (1, .any), (10, .any)]
noncomputable def sp47_1000005 : List (Nat × Mode) := [(0, .any), (6, .any), (26, .any)]
noncomputable def sp47_0 : List (Nat × Mode) := [(7, .any), (8, .any)]
noncomputable def jn47_0 : List (Nat × Mode) := [(7, .any)]
noncomputable def jn47_1 : List (Nat × Mode) := [(7, .any), (8, .any)]
noncomputable def fi47_2 : List (Nat × Mode) := [(0, .any), (1, .any)]
noncomputable def fi47_5 : List (Nat × Mode) := [(0, .any), (6, .any)]
noncomputable def an47 : Ann := ⟨[(.lend (.int .u8)), .any], [], [], [(8, sp47_0)], [(0, jn47_0), (1, jn47_1)], [(0, sp47_0)], [(9, [⟨[], []⟩, ⟨[1], []⟩, ⟨[], []⟩, ⟨[1], []⟩, ⟨[1], []⟩, ⟨[], []⟩, ⟨[1], []⟩, ⟨[], [1]⟩, ⟨[], []⟩, ⟨[], []⟩])], [(2, sp47_1000002), (5, sp47_1000005)], [(2, fi47_2), (5, fi47_5)]⟩
noncomputable def cd47_1000002 : Code := sel (bodyOf Try.f47) [1, 0, 1]
noncomputable def cd47_1000005 : Code := sel (bodyOf Try.f47) [1, 1, 1, 0, 1]
noncomputable def cd47_0 : Code := sel (bodyOf Try.f47) [1, 1, 1, 1, 1, 1, 0]
noncomputable def bd47_0 : Code := sel (bodyOf Try.f47) [1, 1, 1, 1, 1, 1, 0, 0, 0]
noncomputable def sp50_1000011 : List (Nat × Mode) := [(3, .any), (7, .any), (8, .any), (9, .any), (18, .any), (25, .any)]
noncomputable def sp50_2 : List (Nat × Mode) := [(3, .any), (7, .any), (8, .any), (9, .any), (18, .any)]
noncomputable def sp50_0 : List (Nat × Mode) := [(3, .any), (7, .any), (8, .any), (9, .any)]
noncomputable def jn50_0 : List (Nat × Mode) := [(3, .any)]
noncomputable def jn50_1 : List (Nat × Mode) := [(3, .any), (7, .any), (8, .any), (9, .any)]
noncomputable def jn50_2 : List (Nat × Mode) := [(3, .any), (7, .any), (8, .any), (9, .any)]
noncomputable def jn50_3 : List (Nat × Mode) := [(3, .any), (7, .any), (8, .any), (9, .any), (18, .any)]
noncomputable def fi50_11 : List (Nat × Mode) := [(3, .any), (7, .any), (8, .any), (9, .any), (18, .any)]
noncomputable def an50 : Ann := ⟨[(.lend (.int .u8))], [], [], [(7, sp50_2), (3, sp50_0)], [(0, jn50_0), (1, jn50_1), (2, jn50_2), (3, jn50_3)], [(2, sp50_2), (0, sp50_0)], [], [(11, sp50_1000011)], [(11, fi50_11)]⟩
noncomputable def cd50_1000011 : Code := sel (bodyOf Try.f50) [1, 1, 0, 1, 0, 0, 1, 1, 0, 0, 1, 1, 1, 0, 0, 1, 1, 0, 0, 1, 1, 1]
noncomputable def cd50_2 : Code := sel (bodyOf Try.f50) [1, 1, 0, 1, 0, 0, 1, 1, 0, 0, 1, 1, 1]
noncomputable def bd50_2 : Code := sel (bodyOf Try.f50) [1, 1, 0, 1, 0, 0, 1, 1, 0, 0, 1, 1, 1, 0, 0]
noncomputable def cd50_0 : Code := sel (bodyOf Try.f50) [1, 1, 0, 1]
noncomputable def bd50_0 : Code := sel (bodyOf Try.f50) [1, 1, 0, 1, 0, 0]
noncomputable def sp18_1000013 : List (Nat × Mode) := [(0, .any), (3, .any), (6, .any), (7, .any), (62, .any)]
noncomputable def sp18_1000015 : List (Nat × Mode) := [(0, .any), (3, .any), (6, .any), (7, .any), (64, .any)]
noncomputable def jn18_0 : List (Nat × Mode) := [(0, .any), (3, .any)]
noncomputable def fi18_13 : List (Nat × Mode) := [(0, .any), (3, .any), (6, .any), (7, .any)]
noncomputable def fi18_15 : List (Nat × Mode) := [(0, .any), (3, .any), (6, .any), (7, .any)]
noncomputable def an18 : Ann := ⟨[.any, (.cells [.any, .any, .any, .any, .any, (.lend (.int .u8))])], [(.own (.int .u8)), .any], [], [], [(0, jn18_0)], [], [(18, [⟨[295176], []⟩, ⟨[], []⟩, ⟨[1], []⟩, ⟨[], [295176]⟩, ⟨[], []⟩, ⟨[1], []⟩, ⟨[], [311320]⟩, ⟨[311344], []⟩])], [(13, sp18_1000013), (15, sp18_1000015)], [(13, fi18_13), (15, fi18_15)]⟩
noncomputable def cd18_1000013 : Code := sel (bodyOf Try.f18) [1, 1, 1, 0, 1]
noncomputable def cd18_1000015 : Code := sel (bodyOf Try.f18) [1, 1, 1, 1, 0, 1]
noncomputable def an41 : Ann := ⟨[.any, .any, .any], [], [], [], [], [], [], [], []⟩
noncomputable def sp54_0 : List (Nat × Mode) := [(0, .any), (3, .any)]
noncomputable def jn54_0 : List (Nat × Mode) := [(0, .any)]
noncomputable def jn54_1 : List (Nat × Mode) := [(0, .any), (3, .any)]
noncomputable def an54 : Ann := ⟨[.any], [], [], [(2, sp54_0)], [(0, jn54_0), (1, jn54_1)], [(0, sp54_0)], [], [], []⟩
noncomputable def cd54_0 : Code := sel (bodyOf Try.f54) [1, 0, 1]
noncomputable def bd54_0 : Code := sel (bodyOf Try.f54) [1, 0, 1, 0, 0]
noncomputable def an55 : Ann := ⟨[.any, .any], [], [], [], [], [], [], [], []⟩
noncomputable def sp49_0 : List (Nat × Mode) := [(0, .any), (3, .any), (4, .any)]
noncomputable def jn49_0 : List (Nat × Mode) := [(3, .any)]
noncomputable def jn49_1 : List (Nat × Mode) := [(0, .any), (3, .any), (4, .any)]
noncomputable def an49 : Ann := ⟨[.any], [], [], [(3, sp49_0)], [(0, jn49_0), (1, jn49_1)], [(0, sp49_0)], [], [], []⟩
noncomputable def cd49_0 : Code := sel (bodyOf Try.f49) [1, 1, 0, 1]
noncomputable def bd49_0 : Code := sel (bodyOf Try.f49) [1, 1, 0, 1, 0, 0]
noncomputable def sp51_1000011 : List (Nat × Mode) := [(0, .any), (3, .any), (4, .any), (20, .any), (27, .any)]
noncomputable def sp51_2 : List (Nat × Mode) := [(0, .any), (3, .any), (4, .any), (20, .any)]
noncomputable def sp51_0 : List (Nat × Mode) := [(0, .any), (3, .any), (4, .any)]
noncomputable def jn51_0 : List (Nat × Mode) := [(3, .any)]
noncomputable def jn51_1 : List (Nat × Mode) := [(0, .any), (3, .any), (4, .any)]
noncomputable def jn51_2 : List (Nat × Mode) := [(0, .any), (3, .any), (4, .any)]
noncomputable def jn51_3 : List (Nat × Mode) := [(0, .any), (3, .any), (4, .any), (20, .any)]
noncomputable def fi51_11 : List (Nat × Mode) := [(0, .any), (3, .any), (4, .any), (20, .any)]
noncomputable def an51 : Ann := ⟨[(.lend (.int .u8))], [], [], [(7, sp51_2), (3, sp51_0)], [(0, jn51_0), (1, jn51_1), (2, jn51_2), (3, jn51_3)], [(2, sp51_2), (0, sp51_0)], [], [(11, sp51_1000011)], [(11, fi51_11)]⟩
noncomputable def cd51_1000011 : Code := sel (bodyOf Try.f51) [1, 1, 0, 1, 0, 0, 1, 0, 0, 1, 1, 0, 0, 1, 1, 0, 0, 1, 1, 1]
noncomputable def cd51_2 : Code := sel (bodyOf Try.f51) [1, 1, 0, 1, 0, 0, 1, 0, 0, 1, 1]
noncomputable def bd51_2 : Code := sel (bodyOf Try.f51) [1, 1, 0, 1, 0, 0, 1, 0, 0, 1, 1, 0, 0]
noncomputable def cd51_0 : Code := sel (bodyOf Try.f51) [1, 1, 0, 1]
noncomputable def bd51_0 : Code := sel (bodyOf Try.f51) [1, 1, 0, 1, 0, 0]
noncomputable def sp19_1000013 : List (Nat × Mode) := [(0, .any), (3, .any), (6, .any), (7, .any), (55, .any)]
noncomputable def sp19_1000015 : List (Nat × Mode) := [(0, .any), (3, .any), (6, .any), (7, .any), (57, .any)]
noncomputable def fi19_13 : List (Nat × Mode) := [(0, .any), (3, .any), (6, .any), (7, .any)]
noncomputable def fi19_15 : List (Nat × Mode) := [(0, .any), (3, .any), (6, .any), (7, .any)]
noncomputable def an19 : Ann := ⟨[.any, (.cells [.any, .any, .any, .any, .any, (.lend (.int .u8))])], [(.own (.int .u8)), .any], [], [], [], [], [(7, [⟨[], []⟩, ⟨[16384], []⟩, ⟨[], []⟩, ⟨[], []⟩, ⟨[], []⟩, ⟨[16384], []⟩, ⟨[], []⟩, ⟨[], []⟩])], [(13, sp19_1000013), (15, sp19_1000015)], [(13, fi19_13), (15, fi19_15)]⟩
noncomputable def cd19_1000013 : Code := sel (bodyOf Try.f19) [1, 1, 1, 1, 1, 1, 1, 0, 1]
noncomputable def cd19_1000015 : Code := sel (bodyOf Try.f19) [1, 1, 1, 1, 1, 1, 1, 1, 0, 1]
noncomputable def an97 : Ann := ⟨[.any], [], [], [], [], [], [], [], []⟩
noncomputable def sp108_0 : List (Nat × Mode) := [(0, .any), (1, .any), (7, .any), (8, .any)]
noncomputable def jn108_0 : List (Nat × Mode) := []
noncomputable def jn108_1 : List (Nat × Mode) := [(0, .any), (1, .any), (7, .any), (8, .any)]
noncomputable def an108 : Ann := ⟨[(.lend (.int .u8)), .any], [], [], [(2, sp108_0)], [(0, jn108_0), (1, jn108_1)], [(0, sp108_0)], [], [], []⟩
noncomputable def cd108_0 : Code := sel (bodyOf Try.f108) [1, 0, 1]
noncomputable def bd108_0 : Code := sel (bodyOf Try.f108) [1, 0, 1, 0, 0]
noncomputable def an96 : Ann := ⟨[(.lend (.int .u8)), .any], [], [], [], [], [], [], [], []⟩
noncomputable def an74 : Ann := ⟨[(.lend (.int .u8))], [], [], [], [], [], [], [], []⟩
noncomputable def an75 : Ann := ⟨[(.lend (.int .u8))], [], [], [], [], [], [(1, [⟨[], []⟩, ⟨[], []⟩, ⟨[], []⟩, ⟨[], []⟩, ⟨[], []⟩, ⟨[], []⟩, ⟨[], []⟩, ⟨[], []⟩, ⟨[], []⟩, ⟨[], []⟩, ⟨[], []⟩, ⟨[], []⟩, ⟨[], []⟩, ⟨[], []⟩, ⟨[], []⟩, ⟨[], []⟩, ⟨[], []⟩, ⟨[], []⟩, ⟨[], []⟩, ⟨[], []⟩, ⟨[], []⟩, ⟨[], []⟩, ⟨[], []⟩])], [], []⟩
noncomputable def sp76_0 : List (Nat × Mode) := [(0, .any), (1, .any), (12, .any), (13, .any)]
noncomputable def jn76_0 : List (Nat × Mode) := []
noncomputable def jn76_1 : List (Nat × Mode) := [(0, .any), (1, .any), (12, .any), (13, .any)]
noncomputable def an76 : Ann := ⟨[(.lend (.int .u8)), (.lend (.int .u8))], [], [], [(4, sp76_0)], [(0, jn76_0), (1, jn76_1)], [(0, sp76_0)], [(6, [⟨[], []⟩, ⟨[], []⟩, ⟨[], []⟩, ⟨[], []⟩, ⟨[], []⟩, ⟨[], []⟩, ⟨[], []⟩, ⟨[], []⟩, ⟨[], []⟩])], [], []⟩
noncomputable def cd76_0 : Code := sel (bodyOf Try.f76) [1, 1, 0, 1]
noncomputable def bd76_0 : Code := sel (bodyOf Try.f76) [1, 1, 0, 1, 0, 0]
noncomputable def jn56_0 : List (Nat × Mode) := [(0, .any), (3, .any)]
noncomputable def an56 : Ann := ⟨[(.lend (.int .u8))], [.any, (.cells [.any, .any, .any, .any, .any, (.own (.int .u8))])], [], [], [(0, jn56_0)], [], [(6, [⟨[], []⟩, ⟨[], []⟩, ⟨[], []⟩, ⟨[], []⟩, ⟨[], []⟩, ⟨[], []⟩, ⟨[], []⟩, ⟨[], []⟩, ⟨[], []⟩, ⟨[], []⟩, ⟨[], []⟩, ⟨[], []⟩, ⟨[], []⟩, ⟨[], []⟩, ⟨[], []⟩, ⟨[], []⟩]), (9, [⟨[], []⟩, ⟨[], []⟩, ⟨[], []⟩, ⟨[], []⟩, ⟨[], []⟩, ⟨[], []⟩, ⟨[], []⟩, ⟨[], []⟩, ⟨[], []⟩, ⟨[], []⟩, ⟨[], []⟩, ⟨[], []⟩, ⟨[], []⟩, ⟨[], []⟩, ⟨[], []⟩, ⟨[], []⟩, ⟨[], []⟩, ⟨[], []⟩, ⟨[], []⟩, ⟨[], []⟩, ⟨[], []⟩, ⟨[], []⟩, ⟨[], []⟩, ⟨[], []⟩, ⟨[], []⟩, ⟨[], []⟩, ⟨[], []⟩, ⟨[], []⟩, ⟨[], []⟩, ⟨[], []⟩, ⟨[], []⟩, ⟨[], []⟩, ⟨[], []⟩, ⟨[], []⟩, ⟨[164105], []⟩, ⟨[], []⟩, ⟨[164105], [164120]⟩]), (13, [⟨[164105, 164120], []⟩, ⟨[], []⟩, ⟨[164105], [1]⟩])], [], []⟩
noncomputable def an20 : Ann := ⟨[(.lend (.int .u8))], [.any, (.cells [.any, .any, .any, .any, .any, (.own (.int .u8))]), .any], [], [], [], [], [(4, [⟨[], []⟩, ⟨[65545, 65576], []⟩, ⟨[], []⟩, ⟨[65545], [16392]⟩, ⟨[], []⟩])], [], []⟩
noncomputable def sp77_0 : List (Nat × Mode) := [(0, .any), (3, .any)]
noncomputable def jn77_0 : List (Nat × Mode) := []
noncomputable def jn77_1 : List (Nat × Mode) := [(0, .any), (3, .any)]
noncomputable def an77 : Ann := ⟨[(.lend (.int .u8))], [], [], [(2, sp77_0)], [(0, jn77_0), (1, jn77_1)], [(0, sp77_0)], [], [], []⟩
noncomputable def cd77_0 : Code := sel (bodyOf Try.f77) [1, 0, 1]
noncomputable def bd77_0 : Code := sel (bodyOf Try.f77) [1, 0, 1, 0, 0]
noncomputable def an78 : Ann := ⟨[(.lend (.int .u8)), .any], [], [], [], [], [], [(1, [⟨[], []⟩, ⟨[], []⟩, ⟨[], []⟩, ⟨[], []⟩, ⟨[], []⟩, ⟨[], []⟩, ⟨[], []⟩, ⟨[], []⟩, ⟨[], []⟩, ⟨[], []⟩, ⟨[], []⟩, ⟨[], []⟩, ⟨[], []⟩, ⟨[], []⟩])], [], []⟩
noncomputable def an22 : Ann := ⟨[(.lend (.int .u8)), (.lend (.int .u8))], [], [], [], [], [], [], [], []⟩
noncomputable def an57 : Ann := ⟨[(.lend (.int .u8))], [.any, (.cells [.any, .any, .any, .any, .any, (.own (.int .u8))])], [], [], [], [], [(5, [⟨[], []⟩, ⟨[], []⟩, ⟨[], []⟩, ⟨[], []⟩, ⟨[], []⟩, ⟨[], []⟩, ⟨[], []⟩, ⟨[], []⟩]), (8, [⟨[], []⟩, ⟨[], []⟩, ⟨[], []⟩, ⟨[], []⟩, ⟨[], []⟩, ⟨[], []⟩, ⟨[], []⟩, ⟨[], []⟩, ⟨[], []⟩, ⟨[], []⟩, ⟨[], []⟩, ⟨[], []⟩, ⟨[], []⟩, ⟨[], []⟩, ⟨[], []⟩, ⟨[], []⟩, ⟨[], []⟩, ⟨[], []⟩, ⟨[], []⟩, ⟨[], []⟩, ⟨[], []⟩, ⟨[], []⟩, ⟨[], []⟩, ⟨[], [147632]⟩]), (9, [⟨[], []⟩, ⟨[147632], []⟩, ⟨[], []⟩, ⟨[], []⟩, ⟨[], []⟩, ⟨[], []⟩, ⟨[], []⟩, ⟨[], []⟩, ⟨[], []⟩, ⟨[], []⟩, ⟨[], []⟩, ⟨[], []⟩, ⟨[163920], [147632]⟩]), (13, [⟨[147632, 163920], []⟩, ⟨[], []⟩, ⟨[163920], [16392]⟩])], [], []⟩
noncomputable def an21 : Ann := ⟨[(.lend (.int .u8))], [.any, (.cells [.any, .any, .any, .any, .any, (.own (.int .u8))]), .any], [], [], [], [], [(4, [⟨[], []⟩, ⟨[65545, 65576], []⟩, ⟨[], []⟩, ⟨[65545], [16392]⟩, ⟨[], []⟩])], [], []⟩
noncomputable def an23 : Ann := ⟨[(.cells [.any, .any, .any, .any, .any, (.lend (.int .u8))]), (.cells [.any, .any, .any, .any, .any, (.lend (.int .u8))])], [], [], [], [], [], [], [], []⟩
noncomputable def an16 : Ann := ⟨[(.lend (.int .u8))], [], [], [], [], [], [], [], []⟩
noncomputable def an13 : Ann := ⟨[], [], [], [], [], [], [], [], []⟩
noncomputable def an5 : Ann := ⟨[.any, (.cells [.any, .any, .any, .any, .any, (.lend (.int .u8))]), (.lend (.int .u8))], [], [], [], [], [], [], [], []⟩
noncomputable def an6 : Ann := ⟨[.any, (.cells [.any, .any, .any, .any, .any, (.lend (.int .u8))]), .any], [], [], [], [], [], [], [], []⟩
end Go.Proofs.Ytecnlienmpdlaaa.PM
