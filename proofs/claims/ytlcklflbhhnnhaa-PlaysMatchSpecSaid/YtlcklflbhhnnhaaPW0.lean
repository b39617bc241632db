/- The small machine's run is the typed form (printed by a program of this work). -/
import Derived.Test.YtlcklflbhhnnhaaPA0
set_option linter.unusedVariables false
set_option linter.unusedSimpArgs false
set_option maxRecDepth 100000
namespace Go.Proofs.Ytlcklflbhhnnhaa.PM
open Go
abbrev KT (R : Type) := List PV → List RowS → Option R
noncomputable def F : Nat → Option PFn := findN [(66, .code Try.f66 an66), (22, .code Try.f22 an22), (68, .code Try.f68 an68), (76, .code Try.f76 an76), (77, .ext [.lend (.int .u8)] (Q25 (.int .u8) 1)), (25, .code Try.f25 an25), (53, .code Try.f53 an53), (123, .code Try.f123 an123), (119, .code Try.f119 an119), (135, .ext [.lend (.int .u8), .any] Q7j), (87, .code Try.f87 an87), (132, .code Try.f132 an132), (114, .code Try.f114 an114), (115, .ext [.any, .any] (Q5b 116)), (86, .code Try.f86 an86), (120, .code Try.f120 an120), (95, .code Try.f95 an95), (64, .code Try.f64 an64), (104, .code Try.f104 an104), (131, .code Try.f131 an131), (112, .code Try.f112 an112), (92, .code Try.f92 an92), (124, .code Try.f124 an124), (71, .code Try.f71 an71), (117, .code Try.f117 an117), (90, .code Try.f90 an90), (107, .code Try.f107 an107), (109, .ext [.lend zP1] (Q25 zP1 16)), (128, .code Try.f128 an128), (108, .code Try.f108 an108), (79, .code Try.f79 an79), (82, .code Try.f82 an82), (100, .code Try.f100 an100), (59, .code Try.f59 an59), (72, .code Try.f72 an72), (23, .code Try.f23 an23), (105, .code Try.f105 an105), (74, .code Try.f74 an74), (78, .code Try.f78 an78), (26, .code Try.f26 an26), (102, .code Try.f102 an102), (126, .code Try.f126 an126), (121, .code Try.f121 an121), (97, .code Try.f97 an97), (89, .code Try.f89 an89), (122, .code Try.f122 an122), (88, .code Try.f88 an88), (106, .code Try.f106 an106), (118, .code Try.f118 an118), (113, .code Try.f113 an113), (98, .code Try.f98 an98), (65, .code Try.f65 an65), (75, .code Try.f75 an75), (93, .code Try.f93 an93), (127, .code Try.f127 an127), (91, .code Try.f91 an91), (110, .code Try.f110 an110), (129, .code Try.f129 an129), (130, .code Try.f130 an130), (111, .code Try.f111 an111), (81, .code Try.f81 an81), (85, .code Try.f85 an85), (103, .code Try.f103 an103), (61, .code Try.f61 an61), (70, .code Try.f70 an70), (69, .code Try.f69 an69), (125, .code Try.f125 an125), (101, .code Try.f101 an101), (60, .code Try.f60 an60), (62, .code Try.f62 an62), (51, .code Try.f51 an51), (40, .code Try.f40 an40), (29, .code Try.f29 an29), (38, .code Try.f38 an38), (63, .code Try.f63 an63), (18, .code Try.f18 an18), (24, .code Try.f24 an24), (17, .code Try.f17 an17)]
theorem fx1 {α β : Type} {f g : α → β} (h : ∀ a, f a = g a) : f = g := funext h
theorem fx2 {α0 α1 β : Type} {f g : α0 → α1 → β} (h : ∀ a0 a1, f a0 a1 = g a0 a1) : f = g := funext fun a0 => fx1 fun a1 => h a0 a1
theorem fx3 {α0 α1 α2 β : Type} {f g : α0 → α1 → α2 → β} (h : ∀ a0 a1 a2, f a0 a1 a2 = g a0 a1 a2) : f = g := funext fun a0 => fx2 fun a1 a2 => h a0 a1 a2
theorem fx4 {α0 α1 α2 α3 β : Type} {f g : α0 → α1 → α2 → α3 → β} (h : ∀ a0 a1 a2 a3, f a0 a1 a2 a3 = g a0 a1 a2 a3) : f = g := funext fun a0 => fx3 fun a1 a2 a3 => h a0 a1 a2 a3
theorem fx5 {α0 α1 α2 α3 α4 β : Type} {f g : α0 → α1 → α2 → α3 → α4 → β} (h : ∀ a0 a1 a2 a3 a4, f a0 a1 a2 a3 a4 = g a0 a1 a2 a3 a4) : f = g := funext fun a0 => fx4 fun a1 a2 a3 a4 => h a0 a1 a2 a3 a4
theorem fx6 {α0 α1 α2 α3 α4 α5 β : Type} {f g : α0 → α1 → α2 → α3 → α4 → α5 → β} (h : ∀ a0 a1 a2 a3 a4 a5, f a0 a1 a2 a3 a4 a5 = g a0 a1 a2 a3 a4 a5) : f = g := funext fun a0 => fx5 fun a1 a2 a3 a4 a5 => h a0 a1 a2 a3 a4 a5
theorem fx7 {α0 α1 α2 α3 α4 α5 α6 β : Type} {f g : α0 → α1 → α2 → α3 → α4 → α5 → α6 → β} (h : ∀ a0 a1 a2 a3 a4 a5 a6, f a0 a1 a2 a3 a4 a5 a6 = g a0 a1 a2 a3 a4 a5 a6) : f = g := funext fun a0 => fx6 fun a1 a2 a3 a4 a5 a6 => h a0 a1 a2 a3 a4 a5 a6
theorem fx8 {α0 α1 α2 α3 α4 α5 α6 α7 β : Type} {f g : α0 → α1 → α2 → α3 → α4 → α5 → α6 → α7 → β} (h : ∀ a0 a1 a2 a3 a4 a5 a6 a7, f a0 a1 a2 a3 a4 a5 a6 a7 = g a0 a1 a2 a3 a4 a5 a6 a7) : f = g := funext fun a0 => fx7 fun a1 a2 a3 a4 a5 a6 a7 => h a0 a1 a2 a3 a4 a5 a6 a7
theorem fx9 {α0 α1 α2 α3 α4 α5 α6 α7 α8 β : Type} {f g : α0 → α1 → α2 → α3 → α4 → α5 → α6 → α7 → α8 → β} (h : ∀ a0 a1 a2 a3 a4 a5 a6 a7 a8, f a0 a1 a2 a3 a4 a5 a6 a7 a8 = g a0 a1 a2 a3 a4 a5 a6 a7 a8) : f = g := funext fun a0 => fx8 fun a1 a2 a3 a4 a5 a6 a7 a8 => h a0 a1 a2 a3 a4 a5 a6 a7 a8
theorem fx10 {α0 α1 α2 α3 α4 α5 α6 α7 α8 α9 β : Type} {f g : α0 → α1 → α2 → α3 → α4 → α5 → α6 → α7 → α8 → α9 → β} (h : ∀ a0 a1 a2 a3 a4 a5 a6 a7 a8 a9, f a0 a1 a2 a3 a4 a5 a6 a7 a8 a9 = g a0 a1 a2 a3 a4 a5 a6 a7 a8 a9) : f = g := funext fun a0 => fx9 fun a1 a2 a3 a4 a5 a6 a7 a8 a9 => h a0 a1 a2 a3 a4 a5 a6 a7 a8 a9
theorem fx11 {α0 α1 α2 α3 α4 α5 α6 α7 α8 α9 α10 β : Type} {f g : α0 → α1 → α2 → α3 → α4 → α5 → α6 → α7 → α8 → α9 → α10 → β} (h : ∀ a0 a1 a2 a3 a4 a5 a6 a7 a8 a9 a10, f a0 a1 a2 a3 a4 a5 a6 a7 a8 a9 a10 = g a0 a1 a2 a3 a4 a5 a6 a7 a8 a9 a10) : f = g := funext fun a0 => fx10 fun a1 a2 a3 a4 a5 a6 a7 a8 a9 a10 => h a0 a1 a2 a3 a4 a5 a6 a7 a8 a9 a10
theorem fx12 {α0 α1 α2 α3 α4 α5 α6 α7 α8 α9 α10 α11 β : Type} {f g : α0 → α1 → α2 → α3 → α4 → α5 → α6 → α7 → α8 → α9 → α10 → α11 → β} (h : ∀ a0 a1 a2 a3 a4 a5 a6 a7 a8 a9 a10 a11, f a0 a1 a2 a3 a4 a5 a6 a7 a8 a9 a10 a11 = g a0 a1 a2 a3 a4 a5 a6 a7 a8 a9 a10 a11) : f = g := funext fun a0 => fx11 fun a1 a2 a3 a4 a5 a6 a7 a8 a9 a10 a11 => h a0 a1 a2 a3 a4 a5 a6 a7 a8 a9 a10 a11
theorem fx13 {α0 α1 α2 α3 α4 α5 α6 α7 α8 α9 α10 α11 α12 β : Type} {f g : α0 → α1 → α2 → α3 → α4 → α5 → α6 → α7 → α8 → α9 → α10 → α11 → α12 → β} (h : ∀ a0 a1 a2 a3 a4 a5 a6 a7 a8 a9 a10 a11 a12, f a0 a1 a2 a3 a4 a5 a6 a7 a8 a9 a10 a11 a12 = g a0 a1 a2 a3 a4 a5 a6 a7 a8 a9 a10 a11 a12) : f = g := funext fun a0 => fx12 fun a1 a2 a3 a4 a5 a6 a7 a8 a9 a10 a11 a12 => h a0 a1 a2 a3 a4 a5 a6 a7 a8 a9 a10 a11 a12
theorem fx14 {α0 α1 α2 α3 α4 α5 α6 α7 α8 α9 α10 α11 α12 α13 β : Type} {f g : α0 → α1 → α2 → α3 → α4 → α5 → α6 → α7 → α8 → α9 → α10 → α11 → α12 → α13 → β} (h : ∀ a0 a1 a2 a3 a4 a5 a6 a7 a8 a9 a10 a11 a12 a13, f a0 a1 a2 a3 a4 a5 a6 a7 a8 a9 a10 a11 a12 a13 = g a0 a1 a2 a3 a4 a5 a6 a7 a8 a9 a10 a11 a12 a13) : f = g := funext fun a0 => fx13 fun a1 a2 a3 a4 a5 a6 a7 a8 a9 a10 a11 a12 a13 => h a0 a1 a2 a3 a4 a5 a6 a7 a8 a9 a10 a11 a12 a13
theorem fx15 {α0 α1 α2 α3 α4 α5 α6 α7 α8 α9 α10 α11 α12 α13 α14 β : Type} {f g : α0 → α1 → α2 → α3 → α4 → α5 → α6 → α7 → α8 → α9 → α10 → α11 → α12 → α13 → α14 → β} (h : ∀ a0 a1 a2 a3 a4 a5 a6 a7 a8 a9 a10 a11 a12 a13 a14, f a0 a1 a2 a3 a4 a5 a6 a7 a8 a9 a10 a11 a12 a13 a14 = g a0 a1 a2 a3 a4 a5 a6 a7 a8 a9 a10 a11 a12 a13 a14) : f = g := funext fun a0 => fx14 fun a1 a2 a3 a4 a5 a6 a7 a8 a9 a10 a11 a12 a13 a14 => h a0 a1 a2 a3 a4 a5 a6 a7 a8 a9 a10 a11 a12 a13 a14
theorem fx16 {α0 α1 α2 α3 α4 α5 α6 α7 α8 α9 α10 α11 α12 α13 α14 α15 β : Type} {f g : α0 → α1 → α2 → α3 → α4 → α5 → α6 → α7 → α8 → α9 → α10 → α11 → α12 → α13 → α14 → α15 → β} (h : ∀ a0 a1 a2 a3 a4 a5 a6 a7 a8 a9 a10 a11 a12 a13 a14 a15, f a0 a1 a2 a3 a4 a5 a6 a7 a8 a9 a10 a11 a12 a13 a14 a15 = g a0 a1 a2 a3 a4 a5 a6 a7 a8 a9 a10 a11 a12 a13 a14 a15) : f = g := funext fun a0 => fx15 fun a1 a2 a3 a4 a5 a6 a7 a8 a9 a10 a11 a12 a13 a14 a15 => h a0 a1 a2 a3 a4 a5 a6 a7 a8 a9 a10 a11 a12 a13 a14 a15
theorem fx17 {α0 α1 α2 α3 α4 α5 α6 α7 α8 α9 α10 α11 α12 α13 α14 α15 α16 β : Type} {f g : α0 → α1 → α2 → α3 → α4 → α5 → α6 → α7 → α8 → α9 → α10 → α11 → α12 → α13 → α14 → α15 → α16 → β} (h : ∀ a0 a1 a2 a3 a4 a5 a6 a7 a8 a9 a10 a11 a12 a13 a14 a15 a16, f a0 a1 a2 a3 a4 a5 a6 a7 a8 a9 a10 a11 a12 a13 a14 a15 a16 = g a0 a1 a2 a3 a4 a5 a6 a7 a8 a9 a10 a11 a12 a13 a14 a15 a16) : f = g := funext fun a0 => fx16 fun a1 a2 a3 a4 a5 a6 a7 a8 a9 a10 a11 a12 a13 a14 a15 a16 => h a0 a1 a2 a3 a4 a5 a6 a7 a8 a9 a10 a11 a12 a13 a14 a15 a16
theorem fx18 {α0 α1 α2 α3 α4 α5 α6 α7 α8 α9 α10 α11 α12 α13 α14 α15 α16 α17 β : Type} {f g : α0 → α1 → α2 → α3 → α4 → α5 → α6 → α7 → α8 → α9 → α10 → α11 → α12 → α13 → α14 → α15 → α16 → α17 → β} (h : ∀ a0 a1 a2 a3 a4 a5 a6 a7 a8 a9 a10 a11 a12 a13 a14 a15 a16 a17, f a0 a1 a2 a3 a4 a5 a6 a7 a8 a9 a10 a11 a12 a13 a14 a15 a16 a17 = g a0 a1 a2 a3 a4 a5 a6 a7 a8 a9 a10 a11 a12 a13 a14 a15 a16 a17) : f = g := funext fun a0 => fx17 fun a1 a2 a3 a4 a5 a6 a7 a8 a9 a10 a11 a12 a13 a14 a15 a16 a17 => h a0 a1 a2 a3 a4 a5 a6 a7 a8 a9 a10 a11 a12 a13 a14 a15 a16 a17
theorem fx19 {α0 α1 α2 α3 α4 α5 α6 α7 α8 α9 α10 α11 α12 α13 α14 α15 α16 α17 α18 β : Type} {f g : α0 → α1 → α2 → α3 → α4 → α5 → α6 → α7 → α8 → α9 → α10 → α11 → α12 → α13 → α14 → α15 → α16 → α17 → α18 → β} (h : ∀ a0 a1 a2 a3 a4 a5 a6 a7 a8 a9 a10 a11 a12 a13 a14 a15 a16 a17 a18, f a0 a1 a2 a3 a4 a5 a6 a7 a8 a9 a10 a11 a12 a13 a14 a15 a16 a17 a18 = g a0 a1 a2 a3 a4 a5 a6 a7 a8 a9 a10 a11 a12 a13 a14 a15 a16 a17 a18) : f = g := funext fun a0 => fx18 fun a1 a2 a3 a4 a5 a6 a7 a8 a9 a10 a11 a12 a13 a14 a15 a16 a17 a18 => h a0 a1 a2 a3 a4 a5 a6 a7 a8 a9 a10 a11 a12 a13 a14 a15 a16 a17 a18
theorem fx20 {α0 α1 α2 α3 α4 α5 α6 α7 α8 α9 α10 α11 α12 α13 α14 α15 α16 α17 α18 α19 β : Type} {f g : α0 → α1 → α2 → α3 → α4 → α5 → α6 → α7 → α8 → α9 → α10 → α11 → α12 → α13 → α14 → α15 → α16 → α17 → α18 → α19 → β} (h : ∀ a0 a1 a2 a3 a4 a5 a6 a7 a8 a9 a10 a11 a12 a13 a14 a15 a16 a17 a18 a19, f a0 a1 a2 a3 a4 a5 a6 a7 a8 a9 a10 a11 a12 a13 a14 a15 a16 a17 a18 a19 = g a0 a1 a2 a3 a4 a5 a6 a7 a8 a9 a10 a11 a12 a13 a14 a15 a16 a17 a18 a19) : f = g := funext fun a0 => fx19 fun a1 a2 a3 a4 a5 a6 a7 a8 a9 a10 a11 a12 a13 a14 a15 a16 a17 a18 a19 => h a0 a1 a2 a3 a4 a5 a6 a7 a8 a9 a10 a11 a12 a13 a14 a15 a16 a17 a18 a19
theorem fx21 {α0 α1 α2 α3 α4 α5 α6 α7 α8 α9 α10 α11 α12 α13 α14 α15 α16 α17 α18 α19 α20 β : Type} {f g : α0 → α1 → α2 → α3 → α4 → α5 → α6 → α7 → α8 → α9 → α10 → α11 → α12 → α13 → α14 → α15 → α16 → α17 → α18 → α19 → α20 → β} (h : ∀ a0 a1 a2 a3 a4 a5 a6 a7 a8 a9 a10 a11 a12 a13 a14 a15 a16 a17 a18 a19 a20, f a0 a1 a2 a3 a4 a5 a6 a7 a8 a9 a10 a11 a12 a13 a14 a15 a16 a17 a18 a19 a20 = g a0 a1 a2 a3 a4 a5 a6 a7 a8 a9 a10 a11 a12 a13 a14 a15 a16 a17 a18 a19 a20) : f = g := funext fun a0 => fx20 fun a1 a2 a3 a4 a5 a6 a7 a8 a9 a10 a11 a12 a13 a14 a15 a16 a17 a18 a19 a20 => h a0 a1 a2 a3 a4 a5 a6 a7 a8 a9 a10 a11 a12 a13 a14 a15 a16 a17 a18 a19 a20
theorem fx22 {α0 α1 α2 α3 α4 α5 α6 α7 α8 α9 α10 α11 α12 α13 α14 α15 α16 α17 α18 α19 α20 α21 β : Type} {f g : α0 → α1 → α2 → α3 → α4 → α5 → α6 → α7 → α8 → α9 → α10 → α11 → α12 → α13 → α14 → α15 → α16 → α17 → α18 → α19 → α20 → α21 → β} (h : ∀ a0 a1 a2 a3 a4 a5 a6 a7 a8 a9 a10 a11 a12 a13 a14 a15 a16 a17 a18 a19 a20 a21, f a0 a1 a2 a3 a4 a5 a6 a7 a8 a9 a10 a11 a12 a13 a14 a15 a16 a17 a18 a19 a20 a21 = g a0 a1 a2 a3 a4 a5 a6 a7 a8 a9 a10 a11 a12 a13 a14 a15 a16 a17 a18 a19 a20 a21) : f = g := funext fun a0 => fx21 fun a1 a2 a3 a4 a5 a6 a7 a8 a9 a10 a11 a12 a13 a14 a15 a16 a17 a18 a19 a20 a21 => h a0 a1 a2 a3 a4 a5 a6 a7 a8 a9 a10 a11 a12 a13 a14 a15 a16 a17 a18 a19 a20 a21
theorem fx23 {α0 α1 α2 α3 α4 α5 α6 α7 α8 α9 α10 α11 α12 α13 α14 α15 α16 α17 α18 α19 α20 α21 α22 β : Type} {f g : α0 → α1 → α2 → α3 → α4 → α5 → α6 → α7 → α8 → α9 → α10 → α11 → α12 → α13 → α14 → α15 → α16 → α17 → α18 → α19 → α20 → α21 → α22 → β} (h : ∀ a0 a1 a2 a3 a4 a5 a6 a7 a8 a9 a10 a11 a12 a13 a14 a15 a16 a17 a18 a19 a20 a21 a22, f a0 a1 a2 a3 a4 a5 a6 a7 a8 a9 a10 a11 a12 a13 a14 a15 a16 a17 a18 a19 a20 a21 a22 = g a0 a1 a2 a3 a4 a5 a6 a7 a8 a9 a10 a11 a12 a13 a14 a15 a16 a17 a18 a19 a20 a21 a22) : f = g := funext fun a0 => fx22 fun a1 a2 a3 a4 a5 a6 a7 a8 a9 a10 a11 a12 a13 a14 a15 a16 a17 a18 a19 a20 a21 a22 => h a0 a1 a2 a3 a4 a5 a6 a7 a8 a9 a10 a11 a12 a13 a14 a15 a16 a17 a18 a19 a20 a21 a22
theorem fx24 {α0 α1 α2 α3 α4 α5 α6 α7 α8 α9 α10 α11 α12 α13 α14 α15 α16 α17 α18 α19 α20 α21 α22 α23 β : Type} {f g : α0 → α1 → α2 → α3 → α4 → α5 → α6 → α7 → α8 → α9 → α10 → α11 → α12 → α13 → α14 → α15 → α16 → α17 → α18 → α19 → α20 → α21 → α22 → α23 → β} (h : ∀ a0 a1 a2 a3 a4 a5 a6 a7 a8 a9 a10 a11 a12 a13 a14 a15 a16 a17 a18 a19 a20 a21 a22 a23, f a0 a1 a2 a3 a4 a5 a6 a7 a8 a9 a10 a11 a12 a13 a14 a15 a16 a17 a18 a19 a20 a21 a22 a23 = g a0 a1 a2 a3 a4 a5 a6 a7 a8 a9 a10 a11 a12 a13 a14 a15 a16 a17 a18 a19 a20 a21 a22 a23) : f = g := funext fun a0 => fx23 fun a1 a2 a3 a4 a5 a6 a7 a8 a9 a10 a11 a12 a13 a14 a15 a16 a17 a18 a19 a20 a21 a22 a23 => h a0 a1 a2 a3 a4 a5 a6 a7 a8 a9 a10 a11 a12 a13 a14 a15 a16 a17 a18 a19 a20 a21 a22 a23
theorem fx25 {α0 α1 α2 α3 α4 α5 α6 α7 α8 α9 α10 α11 α12 α13 α14 α15 α16 α17 α18 α19 α20 α21 α22 α23 α24 β : Type} {f g : α0 → α1 → α2 → α3 → α4 → α5 → α6 → α7 → α8 → α9 → α10 → α11 → α12 → α13 → α14 → α15 → α16 → α17 → α18 → α19 → α20 → α21 → α22 → α23 → α24 → β} (h : ∀ a0 a1 a2 a3 a4 a5 a6 a7 a8 a9 a10 a11 a12 a13 a14 a15 a16 a17 a18 a19 a20 a21 a22 a23 a24, f a0 a1 a2 a3 a4 a5 a6 a7 a8 a9 a10 a11 a12 a13 a14 a15 a16 a17 a18 a19 a20 a21 a22 a23 a24 = g a0 a1 a2 a3 a4 a5 a6 a7 a8 a9 a10 a11 a12 a13 a14 a15 a16 a17 a18 a19 a20 a21 a22 a23 a24) : f = g := funext fun a0 => fx24 fun a1 a2 a3 a4 a5 a6 a7 a8 a9 a10 a11 a12 a13 a14 a15 a16 a17 a18 a19 a20 a21 a22 a23 a24 => h a0 a1 a2 a3 a4 a5 a6 a7 a8 a9 a10 a11 a12 a13 a14 a15 a16 a17 a18 a19 a20 a21 a22 a23 a24
theorem fx26 {α0 α1 α2 α3 α4 α5 α6 α7 α8 α9 α10 α11 α12 α13 α14 α15 α16 α17 α18 α19 α20 α21 α22 α23 α24 α25 β : Type} {f g : α0 → α1 → α2 → α3 → α4 → α5 → α6 → α7 → α8 → α9 → α10 → α11 → α12 → α13 → α14 → α15 → α16 → α17 → α18 → α19 → α20 → α21 → α22 → α23 → α24 → α25 → β} (h : ∀ a0 a1 a2 a3 a4 a5 a6 a7 a8 a9 a10 a11 a12 a13 a14 a15 a16 a17 a18 a19 a20 a21 a22 a23 a24 a25, f a0 a1 a2 a3 a4 a5 a6 a7 a8 a9 a10 a11 a12 a13 a14 a15 a16 a17 a18 a19 a20 a21 a22 a23 a24 a25 = g a0 a1 a2 a3 a4 a5 a6 a7 a8 a9 a10 a11 a12 a13 a14 a15 a16 a17 a18 a19 a20 a21 a22 a23 a24 a25) : f = g := funext fun a0 => fx25 fun a1 a2 a3 a4 a5 a6 a7 a8 a9 a10 a11 a12 a13 a14 a15 a16 a17 a18 a19 a20 a21 a22 a23 a24 a25 => h a0 a1 a2 a3 a4 a5 a6 a7 a8 a9 a10 a11 a12 a13 a14 a15 a16 a17 a18 a19 a20 a21 a22 a23 a24 a25
theorem fx27 {α0 α1 α2 α3 α4 α5 α6 α7 α8 α9 α10 α11 α12 α13 α14 α15 α16 α17 α18 α19 α20 α21 α22 α23 α24 α25 α26 β : Type} {f g : α0 → α1 → α2 → α3 → α4 → α5 → α6 → α7 → α8 → α9 → α10 → α11 → α12 → α13 → α14 → α15 → α16 → α17 → α18 → α19 → α20 → α21 → α22 → α23 → α24 → α25 → α26 → β} (h : ∀ a0 a1 a2 a3 a4 a5 a6 a7 a8 a9 a10 a11 a12 a13 a14 a15 a16 a17 a18 a19 a20 a21 a22 a23 a24 a25 a26, f a0 a1 a2 a3 a4 a5 a6 a7 a8 a9 a10 a11 a12 a13 a14 a15 a16 a17 a18 a19 a20 a21 a22 a23 a24 a25 a26 = g a0 a1 a2 a3 a4 a5 a6 a7 a8 a9 a10 a11 a12 a13 a14 a15 a16 a17 a18 a19 a20 a21 a22 a23 a24 a25 a26) : f = g := funext fun a0 => fx26 fun a1 a2 a3 a4 a5 a6 a7 a8 a9 a10 a11 a12 a13 a14 a15 a16 a17 a18 a19 a20 a21 a22 a23 a24 a25 a26 => h a0 a1 a2 a3 a4 a5 a6 a7 a8 a9 a10 a11 a12 a13 a14 a15 a16 a17 a18 a19 a20 a21 a22 a23 a24 a25 a26
theorem fx28 {α0 α1 α2 α3 α4 α5 α6 α7 α8 α9 α10 α11 α12 α13 α14 α15 α16 α17 α18 α19 α20 α21 α22 α23 α24 α25 α26 α27 β : Type} {f g : α0 → α1 → α2 → α3 → α4 → α5 → α6 → α7 → α8 → α9 → α10 → α11 → α12 → α13 → α14 → α15 → α16 → α17 → α18 → α19 → α20 → α21 → α22 → α23 → α24 → α25 → α26 → α27 → β} (h : ∀ a0 a1 a2 a3 a4 a5 a6 a7 a8 a9 a10 a11 a12 a13 a14 a15 a16 a17 a18 a19 a20 a21 a22 a23 a24 a25 a26 a27, f a0 a1 a2 a3 a4 a5 a6 a7 a8 a9 a10 a11 a12 a13 a14 a15 a16 a17 a18 a19 a20 a21 a22 a23 a24 a25 a26 a27 = g a0 a1 a2 a3 a4 a5 a6 a7 a8 a9 a10 a11 a12 a13 a14 a15 a16 a17 a18 a19 a20 a21 a22 a23 a24 a25 a26 a27) : f = g := funext fun a0 => fx27 fun a1 a2 a3 a4 a5 a6 a7 a8 a9 a10 a11 a12 a13 a14 a15 a16 a17 a18 a19 a20 a21 a22 a23 a24 a25 a26 a27 => h a0 a1 a2 a3 a4 a5 a6 a7 a8 a9 a10 a11 a12 a13 a14 a15 a16 a17 a18 a19 a20 a21 a22 a23 a24 a25 a26 a27
theorem fx29 {α0 α1 α2 α3 α4 α5 α6 α7 α8 α9 α10 α11 α12 α13 α14 α15 α16 α17 α18 α19 α20 α21 α22 α23 α24 α25 α26 α27 α28 β : Type} {f g : α0 → α1 → α2 → α3 → α4 → α5 → α6 → α7 → α8 → α9 → α10 → α11 → α12 → α13 → α14 → α15 → α16 → α17 → α18 → α19 → α20 → α21 → α22 → α23 → α24 → α25 → α26 → α27 → α28 → β} (h : ∀ a0 a1 a2 a3 a4 a5 a6 a7 a8 a9 a10 a11 a12 a13 a14 a15 a16 a17 a18 a19 a20 a21 a22 a23 a24 a25 a26 a27 a28, f a0 a1 a2 a3 a4 a5 a6 a7 a8 a9 a10 a11 a12 a13 a14 a15 a16 a17 a18 a19 a20 a21 a22 a23 a24 a25 a26 a27 a28 = g a0 a1 a2 a3 a4 a5 a6 a7 a8 a9 a10 a11 a12 a13 a14 a15 a16 a17 a18 a19 a20 a21 a22 a23 a24 a25 a26 a27 a28) : f = g := funext fun a0 => fx28 fun a1 a2 a3 a4 a5 a6 a7 a8 a9 a10 a11 a12 a13 a14 a15 a16 a17 a18 a19 a20 a21 a22 a23 a24 a25 a26 a27 a28 => h a0 a1 a2 a3 a4 a5 a6 a7 a8 a9 a10 a11 a12 a13 a14 a15 a16 a17 a18 a19 a20 a21 a22 a23 a24 a25 a26 a27 a28
theorem fx30 {α0 α1 α2 α3 α4 α5 α6 α7 α8 α9 α10 α11 α12 α13 α14 α15 α16 α17 α18 α19 α20 α21 α22 α23 α24 α25 α26 α27 α28 α29 β : Type} {f g : α0 → α1 → α2 → α3 → α4 → α5 → α6 → α7 → α8 → α9 → α10 → α11 → α12 → α13 → α14 → α15 → α16 → α17 → α18 → α19 → α20 → α21 → α22 → α23 → α24 → α25 → α26 → α27 → α28 → α29 → β} (h : ∀ a0 a1 a2 a3 a4 a5 a6 a7 a8 a9 a10 a11 a12 a13 a14 a15 a16 a17 a18 a19 a20 a21 a22 a23 a24 a25 a26 a27 a28 a29, f a0 a1 a2 a3 a4 a5 a6 a7 a8 a9 a10 a11 a12 a13 a14 a15 a16 a17 a18 a19 a20 a21 a22 a23 a24 a25 a26 a27 a28 a29 = g a0 a1 a2 a3 a4 a5 a6 a7 a8 a9 a10 a11 a12 a13 a14 a15 a16 a17 a18 a19 a20 a21 a22 a23 a24 a25 a26 a27 a28 a29) : f = g := funext fun a0 => fx29 fun a1 a2 a3 a4 a5 a6 a7 a8 a9 a10 a11 a12 a13 a14 a15 a16 a17 a18 a19 a20 a21 a22 a23 a24 a25 a26 a27 a28 a29 => h a0 a1 a2 a3 a4 a5 a6 a7 a8 a9 a10 a11 a12 a13 a14 a15 a16 a17 a18 a19 a20 a21 a22 a23 a24 a25 a26 a27 a28 a29
section
variable {R : Type}
noncomputable def onS (a : List Sh) (b : List RSh) (g : Nat → Sh.D.DL a × RSh.DL b → KT R → Option R) (o : Nat → List PV → List RowS → KT R → Option R) (k : Nat) (ws : List PV) (rs : List RowS) (K : KT R) : Option R := Q4 a b (fun v => g k v K) (o k ws rs K) ws rs
abbrev sOk (s : Nat → List PV → List RowS → KT R → Option R) (f : Nat) : Prop := ∀ k ws rs K, s k ws rs K = callC T F k f ws rs K
abbrev tOk (f : Nat) (a : List Sh) (b : List RSh) (g : Nat → Sh.D.DL a × RSh.DL b → KT R → Option R) : Prop := ∀ k x y K, callC T F k f (Sh.build.buildL a x) (RSh.buildL b y) K = g k (x, y) K
theorem Q6 {a : List Sh} {b : List RSh} {g : Nat → Sh.D.DL a × RSh.DL b → KT R → Option R} {o : Nat → List PV → List RowS → KT R → Option R} {f : Nat} (ho : sOk o f) (h : tOk f a b g) : sOk (onS a b g o) f := by
 intro k ws rs K
 unfold onS
 rw [ho]
 exact Q5 (G := fun ws rs => callC T F k f ws rs K) (fun x y => (h k x y K).symm) ws rs
noncomputable def pickS (l : List (Nat × (Nat → List PV → List RowS → KT R → Option R))) (k g : Nat) (ws : List PV) (rs : List RowS) (K : KT R) : Option R := match l with
 | [] => callC T F k g ws rs K
 | (n, s) :: l => bif g == n then s k ws rs K else pickS l k g ws rs K
def pickOk : List (Nat × (Nat → List PV → List RowS → KT R → Option R)) → Prop
 | [] => True
 | (n, s) :: l => sOk s n ∧ pickOk l
theorem Q3 : ∀ {l : List (Nat × (Nat → List PV → List RowS → KT R → Option R))}, pickOk l → ∀ k, pickS l k = callC T F k
 | [], _, k => rfl
 | (n, s) :: l, h, k => by
   funext g ws rs K
   unfold pickS
   exact Q1d8 (fun e => by subst e; exact h.1 k ws rs K) (by rw [Q3 h.2 k])
theorem eS (fn : Func) (an : Ann) (n nt : Nat) {f k : Nat} {ws : List PV} {rs : List RowS} {K : KT R} {S : Nat → List PV → List RowS → KT R → Option R} (L : Nat → List PV → List RowS → (St → Option R) → (Nat → St → Option R) → Option R) (l : List (Nat × List (Nat × Mode) × Code)) {q : Option R}
  (h1 : callC T F (k + 1) f ws rs K = exec T an (Q0 F) n k nt (callC T F k) (ending T fn an n K) (bodyOf fn) ⟨argEnv 0 ws (fun _ => none), rowsOf rs⟩ (ending T fn an n K) (fun _ _ => none))
  (h2 : S = callC T F k) (h3 : Qv an (bodyOf fn) = l) (h4 : Q3q T an (Q0 F) n k nt S L (ending T fn an n K) l)
  (h5 : execS T an (Q0 F) n k nt S L (ending T fn an n K) (bodyOf fn) ⟨argEnv 0 ws (fun _ => none), rowsOf rs⟩ (ending T fn an n K) (fun _ _ => none) = q) : callC T F (k + 1) f ws rs K = q := by
 rw [h1, ← h2, ← Q9 T an (Q0 F) n k nt S L (bodyOf fn) (Qc _ _ _ _ _ _ _ _ _ h3 h4)]
 exact h5
theorem lC {a : List Sh} {b : List RSh} {g : Sh.D.DL a × RSh.DL b → Option R} {an : Ann} {n k nt : Nat} {S : Nat → List PV → List RowS → KT R → Option R} (L : Nat → List PV → List RowS → (St → Option R) → (Nat → St → Option R) → Option R) (l : List (Nat × List (Nat × Mode) × Code)) {Rt : St → Option R} {cd : Code} {sp : List (Nat × Mode)} {ws : List PV} {rs : List RowS} {N : St → Option R} {X : Nat → St → Option R}
  (h3 : cutsIn an cd = l) (h4 : Q3q T an (Q0 F) n k nt S L Rt l) (h : ∀ x y, g (x, y) = innerS T an (Q0 F) n k nt S L Rt cd (sh sp (Sh.build.buildL a x) (RSh.buildL b y)) N X) :
  Q4 a b g (inner T an (Q0 F) n k nt S Rt cd (sh sp ws rs) N X) ws rs = inner T an (Q0 F) n k nt S Rt cd (sh sp ws rs) N X :=
 Q5 (G := fun ws rs => inner T an (Q0 F) n k nt S Rt cd (sh sp ws rs) N X) (fun x y => (h x y).trans (Q11t T an (Q0 F) n k nt S L cd h3 h4 _ N X)) ws rs
noncomputable abbrev L0 : Nat → List PV → List RowS → (St → Option R) → (Nat → St → Option R) → Option R := fun _ _ _ _ _ => none
end
variable {R : Type} (k : Nat) (K : KT R) (id : Nat) (ws : List PV) (rs : List RowS) (N : St → Option R) (X : Nat → St → Option R)
noncomputable abbrev kt66 : Bool → Option R := (fun z0 => K [.val [] .bool z0] [])
abbrev aa66 : List Sh := [zv, zv, zv]
abbrev ab66 : List RSh := []
noncomputable def g66 (k : Nat) (v : Sh.D.DL aa66 × RSh.DL ab66) (K : KT R) : Option R := f66 k v.1.1 v.1.2.1 v.1.2.2.1 (kt66 K)
noncomputable abbrev E66 := ending T Try.f66 an66 0 K
noncomputable def S66 := pickS (R := R) []
theorem Q1ep : ∀ k, S66 (R := R) k = callC T F k := Q3 trivial
theorem tu66 : tOk (R := R) 66 aa66 ab66 g66 := by
 intro k x y K
 unfold g66
 rw [Qzn]
 cases k with
 | zero => rfl
 | succ k => exact eS Try.f66 an66 0 15 L0 [] (by kernel_rfl) (Q1ep k) (by kernel_rfl) trivial (by kernel_rfl)
noncomputable def s66 := onS (R := R) aa66 ab66 g66 (fun k => callC T F k 66)
theorem Qk2 : sOk (R := R) s66 66 := Q6 (fun _ _ _ _ => rfl) tu66
noncomputable abbrev kt22 : Int → Option R := (fun z0 => K [zi z0] [])
abbrev aa22 : List Sh := [.agg [zv, zv, zv, zv, zv]]
abbrev ab22 : List RSh := []
noncomputable def g22 (k : Nat) (v : Sh.D.DL aa22 × RSh.DL ab22) (K : KT R) : Option R := f22 k v.1.1.1 v.1.1.2.1 v.1.1.2.2.1 v.1.1.2.2.2.1 v.1.1.2.2.2.2.1 (kt22 K)
noncomputable abbrev E22 := ending T Try.f22 an22 0 K
noncomputable def S22 := pickS (R := R) [(66, s66)]
theorem Q1e8 : ∀ k, S22 (R := R) k = callC T F k := Q3 ⟨Qk2, trivial⟩
theorem tu22 : tOk (R := R) 22 aa22 ab22 g22 := by
 intro k x y K
 unfold g22
 rw [Qz0]
 cases k with
 | zero => rfl
 | succ k => exact eS Try.f22 an22 0 31 L0 [] (by kernel_rfl) (Q1e8 k) (by kernel_rfl) trivial (by kernel_rfl)
noncomputable def s22 := onS (R := R) aa22 ab22 g22 (fun k => callC T F k 22)
theorem Q19p : sOk (R := R) s22 22 := Q6 (fun _ _ _ _ => rfl) tu22
noncomputable abbrev kt68 : Bool → Option R := (fun z0 => K [.val [] .bool z0] [])
abbrev aa68 : List Sh := [.val [] .str]
abbrev ab68 : List RSh := []
noncomputable def g68 (k : Nat) (v : Sh.D.DL aa68 × RSh.DL ab68) (K : KT R) : Option R := f68 k v.1.1 (kt68 K)
noncomputable abbrev E68 := ending T Try.f68 an68 0 K
noncomputable def S68 := pickS (R := R) []
theorem Q1eq : ∀ k, S68 (R := R) k = callC T F k := Q3 trivial
noncomputable abbrev I68_0 : Option R := inner T an68 (Q0 F) 0 k 47 (S68 k) (E68 K) Q18u (sh Qkb ws rs) N X
abbrev Q17u : List Sh := [.val [] .str, zv, zv]
abbrev Q18b : List RSh := []
noncomputable def L68_0 : Option R :=
 Q4 Q17u Q18b (fun v => f68_0 k (kt68 K) (N (sh Q121 [] [])) v.1.1 v.1.2.1 k v.1.2.2.1) (I68_0 k K ws rs N X) ws rs
noncomputable def L68 : Option R := bif id == 0 then L68_0 k K ws rs N X else none
theorem i68_0 (c0 : ByteArray) (c1 : Int) (m : Nat) : ∀ (c2 : Int),
  iter (atHead an68 0 Qp2) m (fun st N' => exec T an68 (Q0 F) 0 k 47 (S68 k) (E68 K) Qp2 st N' (outX an68 0 0 N X)) (sh Qkb [.val [] .str c0, zi c1, zi c2] []) = Q8d k (kt68 K) (N (sh Q121 [] [])) c0 c1 m c2 := by
 induction m with
 | zero => intros; rfl
 | succ m ih =>
   intro c2
   simp only [iter]
   rw [← Q9 T an68 (Q0 F) 0 k 47 (S68 k) (L68 k K) Qp2 (Qc _ _ _ _ _ _ _ _ Qp2 (l := []) (by kernel_rfl) trivial)]
   have h := fx1 ih
   simp only [Q8d]
   rw [← h]
   show _ = _
   kernel_rfl
theorem l68_0 : L68 k K 0 ws rs N X = I68_0 k K ws rs N X := by
 show L68_0 k K ws rs N X = _
 unfold L68_0
 rw [Qj6]
 exact Q5 (a := Q17u) (b := Q18b) (G := fun ws rs => I68_0 k K ws rs N X) (fun x y => Eq.trans (by kernel_rfl) (Eq.trans (i68_0 k K N X x.1 x.2.1 k x.2.2.1).symm (by kernel_rfl))) ws rs
theorem tu68 : tOk (R := R) 68 aa68 ab68 g68 := by
 intro k x y K
 unfold g68
 rw [Qzp]
 cases k with
 | zero => rfl
 | succ k => exact eS Try.f68 an68 0 47 (L68 k K) [(0, Qkb, Q18u)] (by kernel_rfl) (Q1eq k) (by kernel_rfl) ⟨l68_0 k K, trivial⟩ (by kernel_rfl)
noncomputable def s68 := onS (R := R) aa68 ab68 g68 (fun k => callC T F k 68)
theorem Q1i5 : sOk (R := R) s68 68 := Q6 (fun _ _ _ _ => rfl) tu68
noncomputable abbrev kt76 : Int → Option R := (fun z0 => K [zi z0] [])
abbrev aa76 : List Sh := [zv, .val [] .str, .val [(0, 0)] zT2]
abbrev ab76 : List RSh := []
noncomputable def g76 (k : Nat) (v : Sh.D.DL aa76 × RSh.DL ab76) (K : KT R) : Option R := f76 k v.1.1 v.1.2.1 v.1.2.2.1 (kt76 K)
noncomputable abbrev E76 := ending T Try.f76 an76 0 K
noncomputable def S76 := pickS (R := R) [(66, s66), (68, s68)]
theorem Q1ex : ∀ k, S76 (R := R) k = callC T F k := Q3 ⟨Qk2, Q1i5, trivial⟩
theorem tu76 : tOk (R := R) 76 aa76 ab76 g76 := by
 intro k x y K
 unfold g76
 rw [Qzy]
 cases k with
 | zero => rfl
 | succ k => exact eS Try.f76 an76 0 19 L0 [] (by kernel_rfl) (Q1ex k) (by kernel_rfl) trivial (by kernel_rfl)
noncomputable def s76 := onS (R := R) aa76 ab76 g76 (fun k => callC T F k 76)
theorem Q1ia : sOk (R := R) s76 76 := Q6 (fun _ _ _ _ => rfl) tu76
noncomputable abbrev kt77 : List Int → Option R := (fun z0 => K [.rw 1] [zr0 z0])
abbrev aa77 : List Sh := [.val [(0, 0)] zT2]
abbrev ab77 : List RSh := []
noncomputable def g77 (k : Nat) (v : Sh.D.DL aa77 × RSh.DL ab77) (K : KT R) : Option R := f77 k v.1.1 (kt77 K)
theorem e77 (k : Nat) (a0 : List Int) (K : KT R) : callC T F k 77 [.val [(0, 0)] zT2 a0] [] K = f77 k a0 (kt77 K) := by
 rw [Qzz]
 cases k with
 | zero => rfl
 | succ k => exact Qcw (m := [.lend (.int .u8)]) (ty := (.int .u8)) (bytes := 1) (by kernel_rfl) a0 K
theorem tu77 : tOk (R := R) 77 aa77 ab77 g77 := fun k x y K => e77 k x.1 K
noncomputable def s77 := onS (R := R) aa77 ab77 g77 (fun k => callC T F k 77)
theorem Q135 : sOk (R := R) s77 77 := Q6 (fun _ _ _ _ => rfl) tu77
noncomputable abbrev kt25 : zK0 R := (fun z0 z1 z2 z3 z4 z5 z6 z7 => K [.agg [zi z0, zi z1, .val [] .str z2, .rw 1, zi z3, .nils, zi z4, zi z5], zi z6] [zr0 z7])
abbrev aa25 : List Sh := [zv, .val [] .str, .val [(0, 0)] zT2]
abbrev ab25 : List RSh := []
noncomputable def g25 (k : Nat) (v : Sh.D.DL aa25 × RSh.DL ab25) (K : KT R) : Option R := f25 k v.1.1 v.1.2.1 v.1.2.2.1 (kt25 K)
noncomputable abbrev E25 := ending T Try.f25 an25 0 K
noncomputable def S25 := pickS (R := R) [(76, s76), (77, s77)]
theorem Q1eb : ∀ k, S25 (R := R) k = callC T F k := Q3 ⟨Q1ia, Q135, trivial⟩
theorem tu25 : tOk (R := R) 25 aa25 ab25 g25 := by
 intro k x y K
 unfold g25
 rw [Qz3]
 cases k with
 | zero => rfl
 | succ k => exact eS Try.f25 an25 0 22 L0 [] (by kernel_rfl) (Q1eb k) (by kernel_rfl) trivial (by kernel_rfl)
noncomputable def s25 := onS (R := R) aa25 ab25 g25 (fun k => callC T F k 25)
theorem Q1hv : sOk (R := R) s25 25 := Q6 (fun _ _ _ _ => rfl) tu25
noncomputable abbrev kt53 : Int → Int → ByteArray → Int → Int → Int → Int → Int → Option R := (fun z0 z1 z2 z3 z4 z5 z6 z7 => K [.agg [zi z0, zi z1, .val [] .str z2, .nils, .nils, zi z3, zi z4, zi z5, zi z6], zi z7] [])
abbrev aa53 : List Sh := [zv]
abbrev ab53 : List RSh := []
noncomputable def g53 (k : Nat) (v : Sh.D.DL aa53 × RSh.DL ab53) (K : KT R) : Option R := f53 k v.1.1 (kt53 K)
noncomputable abbrev E53 := ending T Try.f53 an53 0 K
noncomputable def S53 := pickS (R := R) [(66, s66)]
theorem Q1eh : ∀ k, S53 (R := R) k = callC T F k := Q3 ⟨Qk2, trivial⟩
theorem tu53 : tOk (R := R) 53 aa53 ab53 g53 := by
 intro k x y K
 unfold g53
 rw [Qza]
 cases k with
 | zero => rfl
 | succ k => exact eS Try.f53 an53 0 10 L0 [] (by kernel_rfl) (Q1eh k) (by kernel_rfl) trivial (by kernel_rfl)
noncomputable def s53 := onS (R := R) aa53 ab53 g53 (fun k => callC T F k 53)
theorem Q1hz : sOk (R := R) s53 53 := Q6 (fun _ _ _ _ => rfl) tu53
noncomputable abbrev kt123 : zK1 R := (fun z0 z1 z2 z3 z4 z5 z6 z7 z8 z9 z10 z11 z12 z13 z14 z15 z16 z17 z18 z19 z20 z21 z22 z23 z24 z25 z26 z27 z28 z29 => K [.rw 6] [zr1 z0 z1 z2 z3 z4 z5 z6 z7 z8 z9 z10 z11 z12 z13 z14 z15 z16 z17 z18 z19 z20 z21 z22 z23 z24 z25 z26, ⟨0, .gone⟩, ⟨0, .gone⟩, zr2 z27, zr2 z28, zr3 z29])
abbrev aa123 : List Sh := [.ptr 1 22, zv]
abbrev ab123 : List RSh := [zs0, .arr [(0, 0)] zP2, .arr [(0, 0)] zP2]
noncomputable def g123 (k : Nat) (v : Sh.D.DL aa123 × RSh.DL ab123) (K : KT R) : Option R := let u0 := v.2.1.2.2.2.2.2.2.2; let u1 := u0.2.2.2.2.2.2.2; let u2 := u1.2.2.2.2.2.2.2; f123 k v.1.2.1 v.2.1.1 v.2.1.2.1 v.2.1.2.2.1 v.2.1.2.2.2.1 v.2.1.2.2.2.2.1 v.2.1.2.2.2.2.2.1 v.2.1.2.2.2.2.2.2.1 v.2.1.2.2.2.2.2.2.2.1 u0.2.1 u0.2.2.1 u0.2.2.2.1 u0.2.2.2.2.1 u0.2.2.2.2.2.1 u0.2.2.2.2.2.2.1 u0.2.2.2.2.2.2.2.1 u1.2.1 u1.2.2.1 u1.2.2.2.1 u1.2.2.2.2.1 u1.2.2.2.2.2.1 u1.2.2.2.2.2.2.1 u1.2.2.2.2.2.2.2.1 u2.2.1 u2.2.2.1 u2.2.2.2.2.1 u2.2.2.2.2.2.1 u2.2.2.2.2.2.2.2.1 v.2.2.1 v.2.2.2.1 (kt123 K)
noncomputable abbrev E123 := ending T Try.f123 an123 3 K
noncomputable def S123 := pickS (R := R) []
theorem Q1ai : ∀ k, S123 (R := R) k = callC T F k := Q3 trivial
noncomputable abbrev Qtw : Option R := inner T an123 (Q0 F) 3 k 42 (S123 k) (E123 K) Qez (sh Q4p ws rs) N X
abbrev Qvx : List Sh := [.ptr 1 22, zv, .rw 6]
abbrev Qws : List RSh := [zs1, .gone, .gone, .arr [(0, 0)] zP2, .arr [(0, 0)] zP2, .arr [(0, 0)] zP0]
noncomputable def Qv3 : Option R :=
 Q4 Qvx Qws (fun v => let u0 := v.2.1.2.2.2.2.2.2.2; let u1 := u0.2.2.2.2.2.2.2; let u2 := u1.2.2.2.2.2.2.2; Qyi k (fun p27 p29 => N (sh Qb0 [.rw 6] [zr1 v.2.1.1 v.2.1.2.1 v.2.1.2.2.1 v.2.1.2.2.2.1 v.2.1.2.2.2.2.1 v.2.1.2.2.2.2.2.1 v.2.1.2.2.2.2.2.2.1 v.2.1.2.2.2.2.2.2.2.1 u0.2.1 u0.2.2.1 u0.2.2.2.1 u0.2.2.2.2.1 u0.2.2.2.2.2.1 u0.2.2.2.2.2.2.1 u0.2.2.2.2.2.2.2.1 u1.2.1 u1.2.2.1 u1.2.2.2.1 u1.2.2.2.2.1 u1.2.2.2.2.2.1 u1.2.2.2.2.2.2.1 u1.2.2.2.2.2.2.2.1 u2.2.1 u2.2.2.1 u2.2.2.2.2.1 u2.2.2.2.2.2.1 u2.2.2.2.2.2.2.2.1, ⟨0, .gone⟩, ⟨0, .gone⟩, zr2 p27, zr2 v.2.2.2.2.2.1, zr3 p29])) v.1.2.1 v.2.1.1 v.2.1.2.1 v.2.1.2.2.1 v.2.1.2.2.2.1 v.2.1.2.2.2.2.1 v.2.1.2.2.2.2.2.1 v.2.1.2.2.2.2.2.2.1 v.2.1.2.2.2.2.2.2.2.1 u0.2.1 u0.2.2.1 u0.2.2.2.1 u0.2.2.2.2.1 u0.2.2.2.2.2.1 u0.2.2.2.2.2.2.1 u0.2.2.2.2.2.2.2.1 u1.2.1 u1.2.2.1 u1.2.2.2.1 u1.2.2.2.2.1 u1.2.2.2.2.2.1 u1.2.2.2.2.2.2.1 u1.2.2.2.2.2.2.2.1 u2.2.1 u2.2.2.1 u2.2.2.2.2.1 u2.2.2.2.2.2.1 u2.2.2.2.2.2.2.2.1 v.2.2.2.2.2.1 k v.2.2.2.2.1 v.2.2.2.2.2.2.1) (Qtw k K ws rs N X) ws rs
noncomputable def L123 : Option R := bif id == 0 then Qv3 k K ws rs N X else none
theorem Q1gh (c0 c1 c2 c3 c4 c5 c6 c7 : Int) (c8 : ByteArray) (c9 : List Int) (c10 : Int) (c11 : zL5) (c12 c13 c14 c15 : Int) (c16 : ByteArray) (c17 : List Int) (c18 : zL5) (c19 c20 c21 c22 : Int) (c23 : List Bool) (c24 : Int) (c25 : List Bool) (c26 c27 : Int) (c29 : zL1) (m : Nat) : ∀ (c28 : zL1) (c30 : zL3),
  iter (atHead an123 3 Q3s) m (fun st N' => exec T an123 (Q0 F) 3 k 42 (S123 k) (E123 K) Q3s st N' (outX an123 3 0 N X)) (sh Q4p [.ptr 1 22, zi c0, .rw 6] [zr1 c1 c2 c3 c4 c5 c6 c7 c8 c9 c10 c11 c12 c13 c14 c15 c16 c17 c18 c19 c20 c21 c22 c23 c24 c25 c26 c27, ⟨0, .gone⟩, ⟨0, .gone⟩, zr2 c28, zr2 c29, zr3 c30]) = Q3f k (fun p27 p29 => N (sh Qb0 [.rw 6] [zr1 c1 c2 c3 c4 c5 c6 c7 c8 c9 c10 c11 c12 c13 c14 c15 c16 c17 c18 c19 c20 c21 c22 c23 c24 c25 c26 c27, ⟨0, .gone⟩, ⟨0, .gone⟩, zr2 p27, zr2 c29, zr3 p29])) c0 c1 c2 c3 c4 c5 c6 c7 c8 c9 c10 c11 c12 c13 c14 c15 c16 c17 c18 c19 c20 c21 c22 c23 c24 c25 c26 c27 c29 m c28 c30 := by
 induction m with
 | zero => intros; rfl
 | succ m ih =>
   intro c28 c30
   simp only [iter]
   rw [← Q9 T an123 (Q0 F) 3 k 42 (S123 k) (L123 k K) Q3s (Qc _ _ _ _ _ _ _ _ Q3s (l := []) (by kernel_rfl) trivial)]
   have h := fx2 ih
   simp only [Q3f]
   rw [← h]
   show _ = _
   kernel_rfl
theorem Q1hg : L123 k K 0 ws rs N X = Qtw k K ws rs N X := by
 show Qv3 k K ws rs N X = _
 unfold Qv3
 rw [Qdb]
 exact Q5 (a := Qvx) (b := Qws) (G := fun ws rs => Qtw k K ws rs N X) (fun x y => Eq.trans (by kernel_rfl) (Eq.trans (Q1gh k K N X x.2.1 y.1.1 y.1.2.1 y.1.2.2.1 y.1.2.2.2.1 y.1.2.2.2.2.1 y.1.2.2.2.2.2.1 y.1.2.2.2.2.2.2.1 y.1.2.2.2.2.2.2.2.1 y.1.2.2.2.2.2.2.2.2.1 y.1.2.2.2.2.2.2.2.2.2.1 y.1.2.2.2.2.2.2.2.2.2.2.1 y.1.2.2.2.2.2.2.2.2.2.2.2.1 y.1.2.2.2.2.2.2.2.2.2.2.2.2.1 y.1.2.2.2.2.2.2.2.2.2.2.2.2.2.1 y.1.2.2.2.2.2.2.2.2.2.2.2.2.2.2.1 y.1.2.2.2.2.2.2.2.2.2.2.2.2.2.2.2.1 y.1.2.2.2.2.2.2.2.2.2.2.2.2.2.2.2.2.1 y.1.2.2.2.2.2.2.2.2.2.2.2.2.2.2.2.2.2.1 y.1.2.2.2.2.2.2.2.2.2.2.2.2.2.2.2.2.2.2.1 y.1.2.2.2.2.2.2.2.2.2.2.2.2.2.2.2.2.2.2.2.1 y.1.2.2.2.2.2.2.2.2.2.2.2.2.2.2.2.2.2.2.2.2.1 y.1.2.2.2.2.2.2.2.2.2.2.2.2.2.2.2.2.2.2.2.2.2.1 y.1.2.2.2.2.2.2.2.2.2.2.2.2.2.2.2.2.2.2.2.2.2.2.1 y.1.2.2.2.2.2.2.2.2.2.2.2.2.2.2.2.2.2.2.2.2.2.2.2.1 y.1.2.2.2.2.2.2.2.2.2.2.2.2.2.2.2.2.2.2.2.2.2.2.2.2.2.1 y.1.2.2.2.2.2.2.2.2.2.2.2.2.2.2.2.2.2.2.2.2.2.2.2.2.2.2.1 y.1.2.2.2.2.2.2.2.2.2.2.2.2.2.2.2.2.2.2.2.2.2.2.2.2.2.2.2.2.1 y.2.2.2.2.1 k y.2.2.2.1 y.2.2.2.2.2.1).symm (by kernel_rfl))) ws rs
theorem tu123 : tOk (R := R) 123 aa123 ab123 g123 := by
 intro k x y K
 unfold g123
 rw [Qr0]
 cases k with
 | zero => rfl
 | succ k => exact eS Try.f123 an123 3 42 (L123 k K) [(0, Q4p, Qez)] (by kernel_rfl) (Q1ai k) (by kernel_rfl) ⟨Q1hg k K, trivial⟩ (by kernel_rfl)
noncomputable def s123 := onS (R := R) aa123 ab123 g123 (fun k => callC T F k 123)
theorem Q1do : sOk (R := R) s123 123 := Q6 (fun _ _ _ _ => rfl) tu123
noncomputable abbrev kt119 : Bool → Option R := (fun z0 => K [.val [] .bool z0] [])
abbrev aa119 : List Sh := [.agg [zv, zv, .val [] .str, .val [(0, 0)] zT2, .val [(0, 0)] zT1, zv, zv, zv, zv], .agg [zv, zv, .val [] .str, zv, zv, zv, .val [(0, 0)] zT2, .val [(0, 0)] zT1, .val [] .bool]]
abbrev ab119 : List RSh := []
noncomputable def g119 (k : Nat) (v : Sh.D.DL aa119 × RSh.DL ab119) (K : KT R) : Option R := let u0 := v.1.1.2.2.2.2.2.2.2; let u1 := v.1.2.1.2.2.2.2.2.2.2; f119 k v.1.1.1 v.1.1.2.1 v.1.1.2.2.1 v.1.1.2.2.2.1 v.1.1.2.2.2.2.1 v.1.1.2.2.2.2.2.1 v.1.1.2.2.2.2.2.2.1 v.1.1.2.2.2.2.2.2.2.1 u0.2.1 v.1.2.1.1 v.1.2.1.2.1 v.1.2.1.2.2.1 v.1.2.1.2.2.2.1 v.1.2.1.2.2.2.2.1 v.1.2.1.2.2.2.2.2.1 v.1.2.1.2.2.2.2.2.2.1 v.1.2.1.2.2.2.2.2.2.2.1 u1.2.1 (kt119 K)
noncomputable abbrev E119 := ending T Try.f119 an119 0 K
noncomputable def S119 := pickS (R := R) []
theorem Q1ae : ∀ k, S119 (R := R) k = callC T F k := Q3 trivial
theorem tu119 : tOk (R := R) 119 aa119 ab119 g119 := by
 intro k x y K
 unfold g119
 rw [Qqw]
 cases k with
 | zero => rfl
 | succ k => exact eS Try.f119 an119 0 64 L0 [] (by kernel_rfl) (Q1ae k) (by kernel_rfl) trivial (by kernel_rfl)
noncomputable def s119 := onS (R := R) aa119 ab119 g119 (fun k => callC T F k 119)
theorem Q1dk : sOk (R := R) s119 119 := Q6 (fun _ _ _ _ => rfl) tu119
noncomputable abbrev kt135 : List Int → Option R := (fun z0 => K [.rw 1] [zr0 z0])
abbrev aa135 : List Sh := [.val [(0, 0)] zT2, zv]
abbrev ab135 : List RSh := []
noncomputable def g135 (k : Nat) (v : Sh.D.DL aa135 × RSh.DL ab135) (K : KT R) : Option R := f135 k v.1.1 v.1.2.1 (kt135 K)
theorem e135 (k : Nat) (a0 : List Int) (a1 : Int) (K : KT R) : callC T F k 135 [.val [(0, 0)] zT2 a0, zi a1] [] K = f135 k a0 a1 (kt135 K) := by
 rw [Qra]
 cases k with
 | zero => rfl
 | succ k => exact Q17c (m := [.lend (.int .u8), .any]) (by kernel_rfl) [(0, 0)] [] a0 a1 K
theorem tu135 : tOk (R := R) 135 aa135 ab135 g135 := fun k x y K => e135 k x.1 x.2.1 K
noncomputable def s135 := onS (R := R) aa135 ab135 g135 (fun k => callC T F k 135)
theorem Q1dx : sOk (R := R) s135 135 := Q6 (fun _ _ _ _ => rfl) tu135
noncomputable abbrev kt87 : zL6 → Option R := (fun z0 => K [.rw 1] [zr4 z0])
abbrev aa87 : List Sh := [.val [(0, 0)] zT1, zv]
abbrev ab87 : List RSh := []
noncomputable def g87 (k : Nat) (v : Sh.D.DL aa87 × RSh.DL ab87) (K : KT R) : Option R := f87 k v.1.1 v.1.2.1 (kt87 K)
noncomputable abbrev E87 := ending T Try.f87 an87 0 K
noncomputable def S87 := pickS (R := R) []
theorem Q1f4 : ∀ k, S87 (R := R) k = callC T F k := Q3 trivial
noncomputable abbrev Qu3 : Option R := inner T an87 (Q0 F) 0 k 39 (S87 k) (E87 K) Qpi (sh Qh4 ws rs) N X
abbrev Q13u : List Sh := [zv, .rw 1, zv, .ptr 2 0, .val [(0, 0)] zT1, zv, zv, .val [] .bool]
abbrev Q14n : List RSh := [.arr [] zP1, zs2]
noncomputable def Qkw : Option R :=
 Q4 Q13u Q14n (fun v => Qmx k (fun p4 => N (sh Q19d [zi v.1.1, .rw 1, .ptr 2 0, .val [(0, 0)] zT1 v.1.2.2.2.2.1, zi v.1.2.2.2.2.2.1, zi v.1.2.2.2.2.2.2.1] [zr4 p4, ⟨0, .vars [zi v.2.2.1.1, zi v.2.2.1.2.1]⟩])) v.1.2.2.1 v.1.2.2.2.2.2.2.2.1 v.2.1 v.2.2.1.1) (Qu3 k K ws rs N X) ws rs
noncomputable abbrev I87_0 : Option R := inner T an87 (Q0 F) 0 k 39 (S87 k) (E87 K) Q190 (sh Qkh ws rs) N X
abbrev Q180 : List Sh := [zv, .rw 1, zv, .val [(0, 0)] zT1, zv, zv]
abbrev Q18h : List RSh := [.arr [] zP1]
noncomputable def L87_0 : Option R :=
 Q4 Q180 Q18h (fun v => f87_0 k (fun p1 p2 => N (sh Q127 [zi v.1.1, .rw 1, zi p1] [zr4 p2])) v.1.1 v.1.2.2.2.1 v.1.2.2.2.2.1 k v.1.2.2.1 v.1.2.2.2.2.2.1 v.2.1) (I87_0 k K ws rs N X) ws rs
noncomputable abbrev Qu4 : Option R := inner T an87 (Q0 F) 0 k 39 (S87 k) (E87 K) Qpj (sh Qh5 ws rs) N X
abbrev Q13v : List Sh := [zv, .rw 1, zv, .val [] .bool]
abbrev Q14o : List RSh := [.arr [] zP1]
noncomputable def Qkx : Option R :=
 Q4 Q13v Q14o (fun v => Qmy k (fun p0 => N (sh Q10y [.rw 1] [zr4 p0])) v.1.1 v.1.2.2.1 v.1.2.2.2.1 v.2.1) (Qu4 k K ws rs N X) ws rs
noncomputable def L87 : Option R := bif id == 1000007 then Qkw k K ws rs N X else bif id == 0 then L87_0 k K ws rs N X else bif id == 1000011 then Qkx k K ws rs N X else none
theorem Q1c8 : L87 k K 1000007 ws rs N X = Qu3 k K ws rs N X := by
 show Qkw k K ws rs N X = _
 unfold Qkw
 rw [Qa9]
 exact lC (L87 k K) [] (by kernel_rfl) trivial fun x y => by kernel_rfl
theorem i87_0 (c0 : Int) (c2 : zL5) (c3 : Int) (m : Nat) : ∀ (c1 c4 : Int) (c5 : zL6),
  iter (atHead an87 0 Qp8) m (fun st N' => exec T an87 (Q0 F) 0 k 39 (S87 k) (E87 K) Qp8 st N' (outX an87 0 0 N X)) (sh Qkh [zi c0, .rw 1, zi c1, .val [(0, 0)] zT1 c2, zi c3, zi c4] [zr4 c5]) = Q8i k (fun p1 p2 => N (sh Q127 [zi c0, .rw 1, zi p1] [zr4 p2])) c0 c2 c3 m c1 c4 c5 := by
 induction m with
 | zero => intros; rfl
 | succ m ih =>
   intro c1 c4 c5
   simp only [iter]
   rw [← Q9 T an87 (Q0 F) 0 k 39 (S87 k) (L87 k K) Qp8 (Qc _ _ _ _ _ _ _ _ Qp8 (l := [(1000007, Qh4, Qpi)]) (by kernel_rfl) ⟨Q1c8 k K, trivial⟩)]
   have h := fx3 ih
   simp only [Q8i]
   rw [← h]
   show _ = _
   kernel_rfl
theorem l87_0 : L87 k K 0 ws rs N X = I87_0 k K ws rs N X := by
 show L87_0 k K ws rs N X = _
 unfold L87_0
 rw [Qjc]
 exact Q5 (a := Q180) (b := Q18h) (G := fun ws rs => I87_0 k K ws rs N X) (fun x y => Eq.trans (by kernel_rfl) (Eq.trans (i87_0 k K N X x.1 x.2.2.2.1 x.2.2.2.2.1 k x.2.2.1 x.2.2.2.2.2.1 y.1).symm (by kernel_rfl))) ws rs
theorem Q1c9 : L87 k K 1000011 ws rs N X = Qu4 k K ws rs N X := by
 show Qkx k K ws rs N X = _
 unfold Qkx
 rw [Qaa]
 exact lC (L87 k K) [] (by kernel_rfl) trivial fun x y => by kernel_rfl
theorem tu87 : tOk (R := R) 87 aa87 ab87 g87 := by
 intro k x y K
 unfold g87
 rw [Q10b]
 cases k with
 | zero => rfl
 | succ k => exact eS Try.f87 an87 0 39 (L87 k K) [(0, Qkh, Q190), (1000011, Qh5, Qpj)] (by kernel_rfl) (Q1f4 k) (by kernel_rfl) ⟨l87_0 k K, Q1c9 k K, trivial⟩ (by kernel_rfl)
noncomputable def s87 := onS (R := R) aa87 ab87 g87 (fun k => callC T F k 87)
theorem Q19u : sOk (R := R) s87 87 := Q6 (fun _ _ _ _ => rfl) tu87
noncomputable abbrev kt132 : zL6 → Option R := (fun z0 => K [.rw 1] [zr4 z0])
abbrev aa132 : List Sh := [.nils, zv]
abbrev ab132 : List RSh := []
noncomputable def g132 (k : Nat) (v : Sh.D.DL aa132 × RSh.DL ab132) (K : KT R) : Option R := f132 k v.1.2.1 (kt132 K)
noncomputable abbrev E132 := ending T Try.f132 an132 0 K
noncomputable def S132 := pickS (R := R) []
theorem Q1ar : ∀ k, S132 (R := R) k = callC T F k := Q3 trivial
noncomputable abbrev Qoq : Option R := inner T an132 (Q0 F) 0 k 27 (S132 k) (E132 K) Qis (sh Qci ws rs) N X
abbrev Qw4 : List Sh := [.nils, zv, .val [] .bool]
abbrev Qwz : List RSh := []
noncomputable def Qei : Option R :=
 Q4 Qw4 Qwz (fun v => Qfm k (N (sh Q10u [.nils, zi v.1.2.1] [])) v.1.2.2.1) (Qoq k K ws rs N X) ws rs
noncomputable abbrev Qor : Option R := inner T an132 (Q0 F) 0 k 27 (S132 k) (E132 K) Qit (sh Qcj ws rs) N X
abbrev Qw5 : List Sh := [.nils, zv, .val [] .bool]
abbrev Qx0 : List RSh := []
noncomputable def Qej : Option R :=
 Q4 Qw5 Qx0 (fun v => Qfn k (fun p0 => N (sh Q10v [.rw 1] [zr4 p0])) v.1.2.1 v.1.2.2.1) (Qor k K ws rs N X) ws rs
noncomputable def L132 : Option R := bif id == 1000002 then Qei k K ws rs N X else bif id == 1000005 then Qej k K ws rs N X else none
theorem Q16o : L132 k K 1000002 ws rs N X = Qoq k K ws rs N X := by
 show Qei k K ws rs N X = _
 unfold Qei
 rw [Q85]
 exact lC (L132 k K) [] (by kernel_rfl) trivial fun x y => by kernel_rfl
theorem Q16p : L132 k K 1000005 ws rs N X = Qor k K ws rs N X := by
 show Qej k K ws rs N X = _
 unfold Qej
 rw [Q86]
 exact lC (L132 k K) [] (by kernel_rfl) trivial fun x y => by kernel_rfl
theorem tu132 : tOk (R := R) 132 aa132 ab132 g132 := by
 intro k x y K
 unfold g132
 rw [Qr9]
 cases k with
 | zero => rfl
 | succ k => exact eS Try.f132 an132 0 27 (L132 k K) [(1000002, Qci, Qis), (1000005, Qcj, Qit)] (by kernel_rfl) (Q1ar k) (by kernel_rfl) ⟨Q16o k K, Q16p k K, trivial⟩ (by kernel_rfl)
noncomputable def s132 := onS (R := R) aa132 ab132 g132 (fun k => callC T F k 132)
theorem Q1dw : sOk (R := R) s132 132 := Q6 (fun _ _ _ _ => rfl) tu132
noncomputable abbrev kt114 : zL6 → Option R := (fun z0 => K [.rw 1] [zr4 z0])
abbrev aa114 : List Sh := [.val [(0, 0)] (.slice zT1)]
abbrev ab114 : List RSh := []
noncomputable def g114 (k : Nat) (v : Sh.D.DL aa114 × RSh.DL ab114) (K : KT R) : Option R := f114 k v.1.1 (kt114 K)
noncomputable abbrev E114 := ending T Try.f114 an114 0 K
noncomputable def S114 := pickS (R := R) [(132, s132)]
theorem Q1ab : ∀ k, S114 (R := R) k = callC T F k := Q3 ⟨Q1dw, trivial⟩
noncomputable abbrev Qoe : Option R := inner T an114 (Q0 F) 0 k 36 (S114 k) (E114 K) Qii (sh Qc4 ws rs) N X
abbrev Qvk : List Sh := [.val [(0, 0)] (.slice zT1), zv, .val [(0, 0)] (.slice zT1), zv, zv, .val [] .bool]
abbrev Qwf : List RSh := []
noncomputable def Qe2 : Option R :=
 Q4 Qvk Qwf (fun v => Qf8 k (N (sh Q10o [.val [(0, 0)] (.slice zT1) v.1.1, zi v.1.2.1, .val [(0, 0)] (.slice zT1) v.1.2.2.1, zi v.1.2.2.2.1, zi v.1.2.2.2.2.1] [])) v.1.2.2.2.2.2.1) (Qoe k K ws rs N X) ws rs
noncomputable abbrev Qtq : Option R := inner T an114 (Q0 F) 0 k 36 (S114 k) (E114 K) Qxf (sh Qc2 ws rs) N X
abbrev Qvi : List Sh := [.val [(0, 0)] (.slice zT1), zv, .val [(0, 0)] (.slice zT1), zv, zv]
abbrev Qwd : List RSh := []
noncomputable def Qux : Option R :=
 Q4 Qvi Qwd (fun v => Qy7 k (fun p1 => N (sh Qni [.val [(0, 0)] (.slice zT1) v.1.1, zi p1] [])) v.1.1 v.1.2.2.1 v.1.2.2.2.1 k v.1.2.1 v.1.2.2.2.2.1) (Qtq k K ws rs N X) ws rs
noncomputable abbrev Qtr : Option R := inner T an114 (Q0 F) 0 k 36 (S114 k) (E114 K) Qxg (sh Qc3 ws rs) N X
abbrev Qvj : List Sh := [.rw 1, .val [(0, 0)] (.slice zT1), zv, zv]
abbrev Qwe : List RSh := [.arr [] zP1]
noncomputable def Quy : Option R :=
 Q4 Qvj Qwe (fun v => Qy9 k (fun p0 => N (sh Qnj [.rw 1] [zr4 p0])) v.1.2.1 v.1.2.2.1 k v.1.2.2.2.1 v.2.1) (Qtr k K ws rs N X) ws rs
noncomputable def L114 : Option R := bif id == 1000007 then Qe2 k K ws rs N X else bif id == 0 then Qux k K ws rs N X else bif id == 2 then Quy k K ws rs N X else none
theorem Q168 : L114 k K 1000007 ws rs N X = Qoe k K ws rs N X := by
 show Qe2 k K ws rs N X = _
 unfold Qe2
 rw [Q7s]
 exact lC (L114 k K) [] (by kernel_rfl) trivial fun x y => by kernel_rfl
theorem Q1gb (c0 c2 : List (zL5)) (c3 : Int) (m : Nat) : ∀ (c1 c4 : Int),
  iter (atHead an114 0 Qes) m (fun st N' => exec T an114 (Q0 F) 0 k 36 (S114 k) (E114 K) Qes st N' (outX an114 0 0 N X)) (sh Qc2 [.val [(0, 0)] (.slice zT1) c0, zi c1, .val [(0, 0)] (.slice zT1) c2, zi c3, zi c4] []) = Q79 k (fun p1 => N (sh Qni [.val [(0, 0)] (.slice zT1) c0, zi p1] [])) c0 c2 c3 m c1 c4 := by
 induction m with
 | zero => intros; rfl
 | succ m ih =>
   intro c1 c4
   simp only [iter]
   rw [← Q9 T an114 (Q0 F) 0 k 36 (S114 k) (L114 k K) Qes (Qc _ _ _ _ _ _ _ _ Qes (l := [(1000007, Qc4, Qii)]) (by kernel_rfl) ⟨Q168 k K, trivial⟩)]
   have h := fx2 ih
   simp only [Q79]
   rw [← h]
   show _ = _
   kernel_rfl
theorem Q1ha : L114 k K 0 ws rs N X = Qtq k K ws rs N X := by
 show Qux k K ws rs N X = _
 unfold Qux
 rw [Qd5]
 exact Q5 (a := Qvi) (b := Qwd) (G := fun ws rs => Qtq k K ws rs N X) (fun x y => Eq.trans (by kernel_rfl) (Eq.trans (Q1gb k K N X x.1 x.2.2.1 x.2.2.2.1 k x.2.1 x.2.2.2.2.1).symm (by kernel_rfl))) ws rs
theorem Q1gc (c0 : List (zL5)) (c1 : Int) (m : Nat) : ∀ (c2 : Int) (c3 : zL6),
  iter (atHead an114 0 Qet) m (fun st N' => exec T an114 (Q0 F) 0 k 36 (S114 k) (E114 K) Qet st N' (outX an114 0 2 N X)) (sh Qc3 [.rw 1, .val [(0, 0)] (.slice zT1) c0, zi c1, zi c2] [zr4 c3]) = Q7a k (fun p0 => N (sh Qnj [.rw 1] [zr4 p0])) c0 c1 m c2 c3 := by
 induction m with
 | zero => intros; rfl
 | succ m ih =>
   intro c2 c3
   simp only [iter]
   rw [← Q9 T an114 (Q0 F) 0 k 36 (S114 k) (L114 k K) Qet (Qc _ _ _ _ _ _ _ _ Qet (l := []) (by kernel_rfl) trivial)]
   have h := fx2 ih
   simp only [Q7a]
   rw [← h]
   show _ = _
   kernel_rfl
theorem Q1hb : L114 k K 2 ws rs N X = Qtr k K ws rs N X := by
 show Quy k K ws rs N X = _
 unfold Quy
 rw [Qd6]
 exact Q5 (a := Qvj) (b := Qwe) (G := fun ws rs => Qtr k K ws rs N X) (fun x y => Eq.trans (by kernel_rfl) (Eq.trans (Q1gc k K N X x.2.1 x.2.2.1 k x.2.2.2.1 y.1).symm (by kernel_rfl))) ws rs
theorem tu114 : tOk (R := R) 114 aa114 ab114 g114 := by
 intro k x y K
 unfold g114
 rw [Qqt]
 cases k with
 | zero => rfl
 | succ k => exact eS Try.f114 an114 0 36 (L114 k K) [(0, Qc2, Qxf), (2, Qc3, Qxg)] (by kernel_rfl) (Q1ab k) (by kernel_rfl) ⟨Q1ha k K, Q1hb k K, trivial⟩ (by kernel_rfl)
noncomputable def s114 := onS (R := R) aa114 ab114 g114 (fun k => callC T F k 114)
theorem Q12y : sOk (R := R) s114 114 := Q6 (fun _ _ _ _ => rfl) tu114
noncomputable abbrev kt115 : zL6 → Option R := (fun z0 => K [] [zr4 z0])
abbrev aa115 : List Sh := [.rw 1, .fn 116 []]
abbrev ab115 : List RSh := [.arr [] zP1]
noncomputable def g115 (k : Nat) (v : Sh.D.DL aa115 × RSh.DL ab115) (K : KT R) : Option R := f115 k v.2.1 (kt115 K)
theorem e115 (k : Nat) (a0 : zL6) (K : KT R) : callC T F k 115 [.rw 1, .fn 116 []] [zr4 a0] K = f115 k a0 (kt115 K) := by
 rw [Qqu]
 cases k with
 | zero => rfl
 | succ k => exact Q138 (m := [.any, .any]) (c := 116) (by kernel_rfl) a0 K
theorem tu115 : tOk (R := R) 115 aa115 ab115 g115 := fun k x y K => e115 k y.1 K
noncomputable def s115 := onS (R := R) aa115 ab115 g115 (fun k => callC T F k 115)
theorem Q1di : sOk (R := R) s115 115 := Q6 (fun _ _ _ _ => rfl) tu115
noncomputable abbrev kt86 : zL6 → Option R := (fun z0 => K [.rw 1] [zr4 z0])
abbrev aa86 : List Sh := [.val [(0, 0)] zT1, .val [(0, 0)] zT1]
abbrev ab86 : List RSh := []
noncomputable def g86 (k : Nat) (v : Sh.D.DL aa86 × RSh.DL ab86) (K : KT R) : Option R := f86 k v.1.1 v.1.2.1 (kt86 K)
noncomputable abbrev E86 := ending T Try.f86 an86 0 K
noncomputable def S86 := pickS (R := R) [(114, s114), (115, s115)]
theorem Q1f3 : ∀ k, S86 (R := R) k = callC T F k := Q3 ⟨Q12y, Q1di, trivial⟩
noncomputable abbrev Qu2 : Option R := inner T an86 (Q0 F) 0 k 57 (S86 k) (E86 K) Qph (sh Qh3 ws rs) N X
abbrev Q13t : List Sh := [.rw 1, .ptr 2 0, zv, .rw 3, zv, zv, .val [] .bool]
abbrev Q14m : List RSh := [.arr [] zP1, zs2, .arr [] zP1]
noncomputable def Qkv : Option R :=
 Q4 Q13t Q14m (fun v => Qfr k (fun p2 => N (sh Q19c [.rw 1, .rw 2, zi v.1.2.2.2.2.1, zi v.1.2.2.2.2.2.1] [zr4 p2, zr4 v.2.2.2.1])) v.1.2.2.1 v.1.2.2.2.2.2.2.1 v.2.1 v.2.2.1.1 v.2.2.1.2.1) (Qu2 k K ws rs N X) ws rs
noncomputable abbrev I86_0 : Option R := inner T an86 (Q0 F) 0 k 57 (S86 k) (E86 K) Q18z (sh Qkg ws rs) N X
abbrev Q17z : List Sh := [.rw 1, .rw 2, zv, zv]
abbrev Q18g : List RSh := [.arr [] zP1, .arr [] zP1]
noncomputable def L86_0 : Option R :=
 Q4 Q17z Q18g (fun v => f86_0 k (fun p0 => N (sh Q126 [.rw 1] [zr4 p0])) v.1.2.2.1 v.2.2.1 k v.1.2.2.2.1 v.2.1) (I86_0 k K ws rs N X) ws rs
noncomputable def L86 : Option R := bif id == 1000009 then Qkv k K ws rs N X else bif id == 0 then L86_0 k K ws rs N X else none
theorem Q1c7 : L86 k K 1000009 ws rs N X = Qu2 k K ws rs N X := by
 show Qkv k K ws rs N X = _
 unfold Qkv
 rw [Qa8]
 exact lC (L86 k K) [] (by kernel_rfl) trivial fun x y => by kernel_rfl
theorem i86_0 (c0 : Int) (c3 : zL6) (m : Nat) : ∀ (c1 : Int) (c2 : zL6),
  iter (atHead an86 0 Qp7) m (fun st N' => exec T an86 (Q0 F) 0 k 57 (S86 k) (E86 K) Qp7 st N' (outX an86 0 0 N X)) (sh Qkg [.rw 1, .rw 2, zi c0, zi c1] [zr4 c2, zr4 c3]) = Q6g k (fun p0 => N (sh Q126 [.rw 1] [zr4 p0])) c0 c3 m c1 c2 := by
 induction m with
 | zero => intros; rfl
 | succ m ih =>
   intro c1 c2
   simp only [iter]
   rw [← Q9 T an86 (Q0 F) 0 k 57 (S86 k) (L86 k K) Qp7 (Qc _ _ _ _ _ _ _ _ Qp7 (l := [(1000009, Qh3, Qph)]) (by kernel_rfl) ⟨Q1c7 k K, trivial⟩)]
   have h := fx2 ih
   simp only [Q6g]
   rw [← h]
   show _ = _
   kernel_rfl
theorem l86_0 : L86 k K 0 ws rs N X = I86_0 k K ws rs N X := by
 show L86_0 k K ws rs N X = _
 unfold L86_0
 rw [Qjb]
 exact Q5 (a := Q17z) (b := Q18g) (G := fun ws rs => I86_0 k K ws rs N X) (fun x y => Eq.trans (by kernel_rfl) (Eq.trans (i86_0 k K N X x.2.2.1 y.2.1 k x.2.2.2.1 y.1).symm (by kernel_rfl))) ws rs
theorem tu86 : tOk (R := R) 86 aa86 ab86 g86 := by
 intro k x y K
 unfold g86
 rw [Q109]
 cases k with
 | zero => rfl
 | succ k => exact eS Try.f86 an86 0 57 (L86 k K) [(0, Qkg, Q18z)] (by kernel_rfl) (Q1f3 k) (by kernel_rfl) ⟨l86_0 k K, trivial⟩ (by kernel_rfl)
noncomputable def s86 := onS (R := R) aa86 ab86 g86 (fun k => callC T F k 86)
theorem Q19t : sOk (R := R) s86 86 := Q6 (fun _ _ _ _ => rfl) tu86
noncomputable abbrev kt120 : Bool → List Int → zL6 → Option R := (fun z0 z1 z2 => K [.rw 1, .rw 2, .val [] .bool z0] [zr0 z1, zr4 z2])
abbrev aa120 : List Sh := [.val [(0, 0)] zT2, .val [(0, 0)] zT1, zv, .val [(0, 0)] zT2]
abbrev ab120 : List RSh := []
noncomputable def g120 (k : Nat) (v : Sh.D.DL aa120 × RSh.DL ab120) (K : KT R) : Option R := f120 k v.1.1 v.1.2.1 v.1.2.2.1 v.1.2.2.2.1 (kt120 K)
noncomputable abbrev E120 := ending T Try.f120 an120 0 K
noncomputable def S120 := pickS (R := R) [(77, s77), (86, s86), (87, s87), (135, s135)]
theorem Q1af : ∀ k, S120 (R := R) k = callC T F k := Q3 ⟨Q135, Q19t, Q19u, Q1dx, trivial⟩
noncomputable abbrev Qoi : Option R := inner T an120 (Q0 F) 0 k 80 (S120 k) (E120 K) Qim (sh Qca ws rs) N X
abbrev Qvq : List Sh := [.val [(0, 0)] zT2, .val [(0, 0)] zT1, zv, .val [(0, 0)] zT2, zv, .rw 1, .val [] .bool]
abbrev Qwl : List RSh := [.arr [] (.int .u8)]
noncomputable def Qe6 : Option R :=
 Q4 Qvq Qwl (fun v => Qfc k (fun p5 => N (sh Q10r [.val [(0, 0)] zT2 v.1.1, .val [(0, 0)] zT1 v.1.2.1, zi v.1.2.2.1, .val [(0, 0)] zT2 v.1.2.2.2.1, zi v.1.2.2.2.2.1, .rw 1] [zr0 p5])) v.1.2.2.2.2.1 v.1.2.2.2.2.2.2.1 v.2.1) (Qoi k K ws rs N X) ws rs
noncomputable abbrev Qoj : Option R := inner T an120 (Q0 F) 0 k 80 (S120 k) (E120 K) Qin (sh Qcb ws rs) N X
abbrev Qvr : List Sh := [.val [(0, 0)] zT1, zv, .val [(0, 0)] zT2, zv, .rw 1, .val [] .bool, zv, zv, .rw 2, zv, zv, .val [] .bool]
abbrev Qwm : List RSh := [.arr [] (.int .u8), .arr [] zP1]
noncomputable def Qe7 : Option R :=
 Q4 Qvr Qwm (fun v => let u0 := v.1.2.2.2.2.2.2.2; Qfd k (fun p4 p7 => N (sh Qru [.val [(0, 0)] zT1 v.1.1, zi v.1.2.1, .val [(0, 0)] zT2 v.1.2.2.1, zi v.1.2.2.2.1, .rw 1, .val [] .bool p4, .rw 2, zi u0.2.2.1, zi u0.2.2.2.1] [zr0 p7, zr4 v.2.2.1])) v.1.2.1 v.1.2.2.1 v.1.2.2.2.2.2.1 v.1.2.2.2.2.2.2.1 v.1.2.2.2.2.2.2.2.1 u0.2.2.2.2.1 v.2.1) (Qoj k K ws rs N X) ws rs
noncomputable abbrev Qtt : Option R := inner T an120 (Q0 F) 0 k 80 (S120 k) (E120 K) Qxi (sh Qc9 ws rs) N X
abbrev Qvp : List Sh := [.val [(0, 0)] zT1, zv, .val [(0, 0)] zT2, zv, .rw 1, .val [] .bool, .rw 2, zv, zv]
abbrev Qwk : List RSh := [.arr [] (.int .u8), .arr [] zP1]
noncomputable def Qv0 : Option R :=
 Q4 Qvp Qwk (fun v => let u0 := v.1.2.2.2.2.2.2.2; Qye k (fun p3 p4 => N (sh Qnl [.val [(0, 0)] zT1 v.1.1, zi v.1.2.1, zi v.1.2.2.2.1, .rw 1, .val [] .bool p3] [zr0 p4])) v.1.1 v.1.2.1 v.1.2.2.1 v.1.2.2.2.1 v.1.2.2.2.2.2.2.2.1 v.2.2.1 k v.1.2.2.2.2.2.1 u0.2.1 v.2.1) (Qtt k K ws rs N X) ws rs
noncomputable def L120 : Option R := bif id == 1000004 then Qe6 k K ws rs N X else bif id == 1000011 then Qe7 k K ws rs N X else bif id == 0 then Qv0 k K ws rs N X else none
theorem Q16c : L120 k K 1000004 ws rs N X = Qoi k K ws rs N X := by
 show Qe6 k K ws rs N X = _
 unfold Qe6
 rw [Q7v]
 exact lC (L120 k K) [] (by kernel_rfl) trivial fun x y => by kernel_rfl
theorem Q16d : L120 k K 1000011 ws rs N X = Qoj k K ws rs N X := by
 show Qe7 k K ws rs N X = _
 unfold Qe7
 rw [Q7w]
 exact lC (L120 k K) [] (by kernel_rfl) trivial fun x y => by kernel_rfl
theorem Q1ge (c0 : zL5) (c1 : Int) (c2 : List Int) (c3 c5 : Int) (c8 : zL6) (m : Nat) : ∀ (c4 : Bool) (c6 : Int) (c7 : List Int),
  iter (atHead an120 0 Qev) m (fun st N' => exec T an120 (Q0 F) 0 k 80 (S120 k) (E120 K) Qev st N' (outX an120 0 0 N X)) (sh Qc9 [.val [(0, 0)] zT1 c0, zi c1, .val [(0, 0)] zT2 c2, zi c3, .rw 1, .val [] .bool c4, .rw 2, zi c5, zi c6] [zr0 c7, zr4 c8]) = Q4a k (fun p3 p4 => N (sh Qnl [.val [(0, 0)] zT1 c0, zi c1, zi c3, .rw 1, .val [] .bool p3] [zr0 p4])) c0 c1 c2 c3 c5 c8 m c4 c6 c7 := by
 induction m with
 | zero => intros; rfl
 | succ m ih =>
   intro c4 c6 c7
   simp only [iter]
   rw [← Q9 T an120 (Q0 F) 0 k 80 (S120 k) (L120 k K) Qev (Qc _ _ _ _ _ _ _ _ Qev (l := [(1000011, Qcb, Qin)]) (by kernel_rfl) ⟨Q16d k K, trivial⟩)]
   have h := fx3 ih
   simp only [Q4a]
   rw [← h]
   show _ = _
   kernel_rfl
theorem Q1hd : L120 k K 0 ws rs N X = Qtt k K ws rs N X := by
 show Qv0 k K ws rs N X = _
 unfold Qv0
 rw [Qd8]
 exact Q5 (a := Qvp) (b := Qwk) (G := fun ws rs => Qtt k K ws rs N X) (fun x y => Eq.trans (by kernel_rfl) (Eq.trans (Q1ge k K N X x.1 x.2.1 x.2.2.1 x.2.2.2.1 x.2.2.2.2.2.2.2.1 y.2.1 k x.2.2.2.2.2.1 x.2.2.2.2.2.2.2.2.1 y.1).symm (by kernel_rfl))) ws rs
theorem tu120 : tOk (R := R) 120 aa120 ab120 g120 := by
 intro k x y K
 unfold g120
 rw [Qqx]
 cases k with
 | zero => rfl
 | succ k => exact eS Try.f120 an120 0 80 (L120 k K) [(1000004, Qca, Qim), (0, Qc9, Qxi)] (by kernel_rfl) (Q1af k) (by kernel_rfl) ⟨Q16c k K, Q1hd k K, trivial⟩ (by kernel_rfl)
noncomputable def s120 := onS (R := R) aa120 ab120 g120 (fun k => callC T F k 120)
theorem Q1dl : sOk (R := R) s120 120 := Q6 (fun _ _ _ _ => rfl) tu120
noncomputable abbrev kt95 : zL6 → Option R := (fun z0 => K [.rw 1] [zr4 z0])
abbrev aa95 : List Sh := [.agg [zv, zv, .val [] .str, .val [(0, 0)] zT2, .val [(0, 0)] zT1, zv, zv, zv, zv]]
abbrev ab95 : List RSh := []
noncomputable def g95 (k : Nat) (v : Sh.D.DL aa95 × RSh.DL ab95) (K : KT R) : Option R := let u0 := v.1.1.2.2.2.2.2.2.2; f95 k v.1.1.1 v.1.1.2.1 v.1.1.2.2.1 v.1.1.2.2.2.1 v.1.1.2.2.2.2.1 v.1.1.2.2.2.2.2.1 v.1.1.2.2.2.2.2.2.1 v.1.1.2.2.2.2.2.2.2.1 u0.2.1 (kt95 K)
noncomputable abbrev E95 := ending T Try.f95 an95 0 K
noncomputable def S95 := pickS (R := R) [(87, s87)]
theorem Q1fb : ∀ k, S95 (R := R) k = callC T F k := Q3 ⟨Q19u, trivial⟩
theorem tu95 : tOk (R := R) 95 aa95 ab95 g95 := by
 intro k x y K
 unfold g95
 rw [Q10k]
 cases k with
 | zero => rfl
 | succ k => exact eS Try.f95 an95 0 8 L0 [] (by kernel_rfl) (Q1fb k) (by kernel_rfl) trivial (by kernel_rfl)
noncomputable def s95 := onS (R := R) aa95 ab95 g95 (fun k => callC T F k 95)
theorem Q19w : sOk (R := R) s95 95 := Q6 (fun _ _ _ _ => rfl) tu95
noncomputable abbrev kt64 : Int → Option R := (fun z0 => K [zi z0] [])
abbrev aa64 : List Sh := [.val [(0, 0)] zT2]
abbrev ab64 : List RSh := []
noncomputable def g64 (k : Nat) (v : Sh.D.DL aa64 × RSh.DL ab64) (K : KT R) : Option R := f64 k v.1.1 (kt64 K)
noncomputable abbrev E64 := ending T Try.f64 an64 0 K
noncomputable def S64 := pickS (R := R) []
theorem Q1en : ∀ k, S64 (R := R) k = callC T F k := Q3 trivial
noncomputable abbrev I64_0 : Option R := inner T an64 (Q0 F) 0 k 25 (S64 k) (E64 K) Q18s (sh Qk9 ws rs) N X
abbrev Q17s : List Sh := [zv, .val [(0, 0)] zT2, zv, zv]
abbrev Q189 : List RSh := []
noncomputable def L64_0 : Option R :=
 Q4 Q17s Q189 (fun v => f64_0 k (fun p0 => N (sh Q11z [zi p0] [])) v.1.2.1 v.1.2.2.1 k v.1.1 v.1.2.2.2.1) (I64_0 k K ws rs N X) ws rs
noncomputable def L64 : Option R := bif id == 0 then L64_0 k K ws rs N X else none
theorem i64_0 (c1 : List Int) (c2 : Int) (m : Nat) : ∀ (c0 c3 : Int),
  iter (atHead an64 0 Qp0) m (fun st N' => exec T an64 (Q0 F) 0 k 25 (S64 k) (E64 K) Qp0 st N' (outX an64 0 0 N X)) (sh Qk9 [zi c0, .val [(0, 0)] zT2 c1, zi c2, zi c3] []) = Q8b k (fun p0 => N (sh Q11z [zi p0] [])) c1 c2 m c0 c3 := by
 induction m with
 | zero => intros; rfl
 | succ m ih =>
   intro c0 c3
   simp only [iter]
   rw [← Q9 T an64 (Q0 F) 0 k 25 (S64 k) (L64 k K) Qp0 (Qc _ _ _ _ _ _ _ _ Qp0 (l := []) (by kernel_rfl) trivial)]
   have h := fx2 ih
   simp only [Q8b]
   rw [← h]
   show _ = _
   kernel_rfl
theorem l64_0 : L64 k K 0 ws rs N X = I64_0 k K ws rs N X := by
 show L64_0 k K ws rs N X = _
 unfold L64_0
 rw [Qa6]
 exact Q5 (a := Q17s) (b := Q189) (G := fun ws rs => I64_0 k K ws rs N X) (fun x y => Eq.trans (by kernel_rfl) (Eq.trans (i64_0 k K N X x.2.1 x.2.2.1 k x.1 x.2.2.2.1).symm (by kernel_rfl))) ws rs
theorem tu64 : tOk (R := R) 64 aa64 ab64 g64 := by
 intro k x y K
 unfold g64
 rw [Qmv]
 cases k with
 | zero => rfl
 | succ k => exact eS Try.f64 an64 0 25 (L64 k K) [(0, Qk9, Q18s)] (by kernel_rfl) (Q1en k) (by kernel_rfl) ⟨l64_0 k K, trivial⟩ (by kernel_rfl)
noncomputable def s64 := onS (R := R) aa64 ab64 g64 (fun k => callC T F k 64)
theorem Qsm : sOk (R := R) s64 64 := Q6 (fun _ _ _ _ => rfl) tu64
noncomputable abbrev kt104 : Int → Int → Option R := (fun z0 z1 => K [.agg [zi z0, zi z1]] [])
abbrev aa104 : List Sh := []
abbrev ab104 : List RSh := []
noncomputable def g104 (k : Nat) (v : Sh.D.DL aa104 × RSh.DL ab104) (K : KT R) : Option R := f104 k (kt104 K)
noncomputable abbrev E104 := ending T Try.f104 an104 0 K
noncomputable def S104 := pickS (R := R) []
theorem Q1a2 : ∀ k, S104 (R := R) k = callC T F k := Q3 trivial
theorem tu104 : tOk (R := R) 104 aa104 ab104 g104 := by
 intro k x y K
 unfold g104
 rw [Q90]
 cases k with
 | zero => rfl
 | succ k => exact eS Try.f104 an104 0 2 L0 [] (by kernel_rfl) (Q1a2 k) (by kernel_rfl) trivial (by kernel_rfl)
noncomputable def s104 := onS (R := R) aa104 ab104 g104 (fun k => callC T F k 104)
theorem Qnz : sOk (R := R) s104 104 := Q6 (fun _ _ _ _ => rfl) tu104
noncomputable abbrev kt131 : zL5 → Option R := (fun z0 => K [.val [(0, 0)] zT1 z0] [])
abbrev aa131 : List Sh := [.val [(0, 0)] zT1, .val [] .bool]
abbrev ab131 : List RSh := []
noncomputable def g131 (k : Nat) (v : Sh.D.DL aa131 × RSh.DL ab131) (K : KT R) : Option R := f131 k v.1.1 v.1.2.1 (kt131 K)
noncomputable abbrev E131 := ending T Try.f131 an131 0 K
noncomputable def S131 := pickS (R := R) [(104, s104), (114, s114)]
theorem Q1aq : ∀ k, S131 (R := R) k = callC T F k := Q3 ⟨Qnz, Q12y, trivial⟩
theorem tu131 : tOk (R := R) 131 aa131 ab131 g131 := by
 intro k x y K
 unfold g131
 rw [Qr8]
 cases k with
 | zero => rfl
 | succ k => exact eS Try.f131 an131 0 12 L0 [] (by kernel_rfl) (Q1aq k) (by kernel_rfl) trivial (by kernel_rfl)
noncomputable def s131 := onS (R := R) aa131 ab131 g131 (fun k => callC T F k 131)
theorem Q133 : sOk (R := R) s131 131 := Q6 (fun _ _ _ _ => rfl) tu131
noncomputable abbrev kt112 : zL5 → Int → Option R := (fun z0 z1 => K [.val [(0, 0)] zT1 z0, zi z1] [])
abbrev aa112 : List Sh := [.agg [zv, zv, .val [] .str, .val [(0, 0)] zT2, .val [(0, 0)] zT1, zv, zv, zv, zv]]
abbrev ab112 : List RSh := []
noncomputable def g112 (k : Nat) (v : Sh.D.DL aa112 × RSh.DL ab112) (K : KT R) : Option R := let u0 := v.1.1.2.2.2.2.2.2.2; f112 k v.1.1.1 v.1.1.2.1 v.1.1.2.2.1 v.1.1.2.2.2.1 v.1.1.2.2.2.2.1 v.1.1.2.2.2.2.2.1 v.1.1.2.2.2.2.2.2.1 v.1.1.2.2.2.2.2.2.2.1 u0.2.1 (kt112 K)
noncomputable abbrev E112 := ending T Try.f112 an112 0 K
noncomputable def S112 := pickS (R := R) [(95, s95), (131, s131)]
theorem Q1a9 : ∀ k, S112 (R := R) k = callC T F k := Q3 ⟨Q19w, Q133, trivial⟩
theorem tu112 : tOk (R := R) 112 aa112 ab112 g112 := by
 intro k x y K
 unfold g112
 rw [Qqr]
 cases k with
 | zero => rfl
 | succ k => exact eS Try.f112 an112 0 15 L0 [] (by kernel_rfl) (Q1a9 k) (by kernel_rfl) trivial (by kernel_rfl)
noncomputable def s112 := onS (R := R) aa112 ab112 g112 (fun k => callC T F k 112)
theorem Q12x : sOk (R := R) s112 112 := Q6 (fun _ _ _ _ => rfl) tu112
noncomputable abbrev kt92 : zK2 R := (fun z0 z1 z2 z3 z4 z5 z6 z7 z8 z9 z10 => K [.agg [zi z0, zi z1, .val [] .str z2, .val [(0, 0)] zT2 z3, .val [(0, 0)] zT1 z4, zi z5, zi z6, zi z7, zi z8], .rw 1, zi z9] [zr3 z10])
abbrev aa92 : List Sh := [.agg [zv, zv, zv, zv, zv], .agg [zv, zv, .val [] .str, .val [(0, 0)] zT2, .val [(0, 0)] zT1, zv, zv, zv, zv], .agg [zv, zv, .val [] .str, zv, zv, zv, .val [(0, 0)] zT2, .val [(0, 0)] zT1, .val [] .bool]]
abbrev ab92 : List RSh := []
noncomputable def g92 (k : Nat) (v : Sh.D.DL aa92 × RSh.DL ab92) (K : KT R) : Option R := let u0 := v.1.2.1.2.2.2.2.2.2.2; let u1 := v.1.2.2.1.2.2.2.2.2.2.2; f92 k v.1.1.1 v.1.1.2.1 v.1.1.2.2.1 v.1.1.2.2.2.1 v.1.1.2.2.2.2.1 v.1.2.1.1 v.1.2.1.2.1 v.1.2.1.2.2.1 v.1.2.1.2.2.2.1 v.1.2.1.2.2.2.2.1 v.1.2.1.2.2.2.2.2.1 v.1.2.1.2.2.2.2.2.2.1 v.1.2.1.2.2.2.2.2.2.2.1 u0.2.1 v.1.2.2.1.1 v.1.2.2.1.2.1 v.1.2.2.1.2.2.1 v.1.2.2.1.2.2.2.1 v.1.2.2.1.2.2.2.2.1 v.1.2.2.1.2.2.2.2.2.1 v.1.2.2.1.2.2.2.2.2.2.1 v.1.2.2.1.2.2.2.2.2.2.2.1 u1.2.1 (kt92 K)
noncomputable abbrev E92 := ending T Try.f92 an92 0 K
noncomputable def S92 := pickS (R := R) [(64, s64), (95, s95), (112, s112), (119, s119), (120, s120)]
theorem Q1f9 : ∀ k, S92 (R := R) k = callC T F k := Q3 ⟨Qsm, Q19w, Q12x, Q1dk, Q1dl, trivial⟩
noncomputable abbrev Qui : Option R := inner T an92 (Q0 F) 0 k 169 (S92 k) (E92 K) Qpx (sh Qhj ws rs) N X
abbrev Q149 : List Sh := [.ptr 1 0, .ptr 2 0, .ptr 5 0, .ptr 6 0, .val [] .bool]
abbrev Q152 : List RSh := [zs3, .vars [zv, zv, .val [] .str, .rw 3, .rw 4, zv, zv, zv, zv], .arr [] (.int .u8), .arr [] zP1, zs4, zs5]
noncomputable def Qlb : Option R :=
 Q4 Q149 Q152 (fun v => let u0 := v.2.2.1.2.2.2.2.2.2.2; let u1 := v.2.2.2.2.2.1.2.2.2.2.2.2.2; let u2 := v.2.2.2.2.2.2.1.2.2.2.2.2.2.2; Qn6 k (fun p11 => N (sh Q117 [.ptr 1 0, .ptr 2 0, .ptr 5 0, .ptr 6 0] [zr5 v.2.1.1 v.2.1.2.1 v.2.1.2.2.1 v.2.1.2.2.2.1 v.2.1.2.2.2.2.1, ⟨0, .vars [zi v.2.2.1.1, zi v.2.2.1.2.1, .val [] .str v.2.2.1.2.2.1, .rw 3, .rw 4, zi v.2.2.1.2.2.2.2.2.1, zi v.2.2.1.2.2.2.2.2.2.1, zi v.2.2.1.2.2.2.2.2.2.2.1, zi p11]⟩, zr0 v.2.2.2.1, zr4 v.2.2.2.2.1, zr6 v.2.2.2.2.2.1.1 v.2.2.2.2.2.1.2.1 v.2.2.2.2.2.1.2.2.1 v.2.2.2.2.2.1.2.2.2.1 v.2.2.2.2.2.1.2.2.2.2.1 v.2.2.2.2.2.1.2.2.2.2.2.1 v.2.2.2.2.2.1.2.2.2.2.2.2.1 v.2.2.2.2.2.1.2.2.2.2.2.2.2.1 u1.2.1, zr7 v.2.2.2.2.2.2.1.1 v.2.2.2.2.2.2.1.2.1 v.2.2.2.2.2.2.1.2.2.1 v.2.2.2.2.2.2.1.2.2.2.2.2.1 v.2.2.2.2.2.2.1.2.2.2.2.2.2.1 v.2.2.2.2.2.2.1.2.2.2.2.2.2.2.1 u2.2.1])) v.1.2.2.2.2.1 u0.2.1) (Qui k K ws rs N X) ws rs
noncomputable abbrev Quj : Option R := inner T an92 (Q0 F) 0 k 169 (S92 k) (E92 K) Qpy (sh Qhk ws rs) N X
abbrev Q14a : List Sh := [.ptr 1 0, .ptr 2 0, .ptr 3 0, .ptr 4 0, .val [] .bool]
abbrev Q153 : List RSh := [zs3, zs6, zs4, zs5]
noncomputable def Qlc : Option R :=
 Q4 Q14a Q153 (fun v => let u0 := v.2.2.1.2.2.2.2.2.2.2; let u1 := v.2.2.2.1.2.2.2.2.2.2.2; let u2 := v.2.2.2.2.1.2.2.2.2.2.2.2; Qn7 k (fun p7 => N (sh Q118 [.ptr 1 0, .ptr 2 0, .ptr 3 0, .ptr 4 0] [zr5 v.2.1.1 v.2.1.2.1 v.2.1.2.2.1 v.2.1.2.2.2.1 v.2.1.2.2.2.2.1, zr8 v.2.2.1.1 v.2.2.1.2.1 p7 v.2.2.1.2.2.2.1 v.2.2.1.2.2.2.2.1 v.2.2.1.2.2.2.2.2.1 v.2.2.1.2.2.2.2.2.2.1 v.2.2.1.2.2.2.2.2.2.2.1 u0.2.1, zr6 v.2.2.2.1.1 v.2.2.2.1.2.1 v.2.2.2.1.2.2.1 v.2.2.2.1.2.2.2.1 v.2.2.2.1.2.2.2.2.1 v.2.2.2.1.2.2.2.2.2.1 v.2.2.2.1.2.2.2.2.2.2.1 v.2.2.2.1.2.2.2.2.2.2.2.1 u1.2.1, zr7 v.2.2.2.2.1.1 v.2.2.2.2.1.2.1 v.2.2.2.2.1.2.2.1 v.2.2.2.2.1.2.2.2.2.2.1 v.2.2.2.2.1.2.2.2.2.2.2.1 v.2.2.2.2.1.2.2.2.2.2.2.2.1 u2.2.1])) v.1.2.2.2.2.1 v.2.2.1.2.2.1 v.2.2.2.1.2.2.1) (Quj k K ws rs N X) ws rs
noncomputable abbrev Quh : Option R := inner T an92 (Q0 F) 0 k 169 (S92 k) (E92 K) Qpw (sh Qhi ws rs) N X
abbrev Q148 : List Sh := [.ptr 1 0, .ptr 2 0, .ptr 3 0, .ptr 4 0, .val [] .bool]
abbrev Q151 : List RSh := [zs3, zs6, zs4, zs5]
noncomputable def Qla : Option R :=
 Q4 Q148 Q151 (fun v => let u0 := v.2.2.1.2.2.2.2.2.2.2; let u1 := v.2.2.2.1.2.2.2.2.2.2.2; let u2 := v.2.2.2.2.1.2.2.2.2.2.2.2; Q7b k (kt92 K) (fun p7 p8 p9 p10 p11 p13 => N (sh Q116 [.ptr 1 0, .ptr 2 0, .ptr 3 0, .ptr 4 0] [zr5 v.2.1.1 v.2.1.2.1 v.2.1.2.2.1 v.2.1.2.2.2.1 v.2.1.2.2.2.2.1, zr8 v.2.2.1.1 v.2.2.1.2.1 p7 p8 p9 p10 p11 v.2.2.1.2.2.2.2.2.2.2.1 p13, zr6 v.2.2.2.1.1 v.2.2.2.1.2.1 v.2.2.2.1.2.2.1 v.2.2.2.1.2.2.2.1 v.2.2.2.1.2.2.2.2.1 v.2.2.2.1.2.2.2.2.2.1 v.2.2.2.1.2.2.2.2.2.2.1 v.2.2.2.1.2.2.2.2.2.2.2.1 u1.2.1, zr7 v.2.2.2.2.1.1 v.2.2.2.2.1.2.1 v.2.2.2.2.1.2.2.1 v.2.2.2.2.1.2.2.2.2.2.1 v.2.2.2.2.1.2.2.2.2.2.2.1 v.2.2.2.2.1.2.2.2.2.2.2.2.1 u2.2.1])) v.1.2.2.2.2.1 v.2.2.1.2.2.1 v.2.2.1.2.2.2.1 v.2.2.1.2.2.2.2.1 v.2.2.1.2.2.2.2.2.1 v.2.2.1.2.2.2.2.2.2.1 u0.2.1 v.2.2.2.1.1 v.2.2.2.1.2.2.1 v.2.2.2.1.2.2.2.1 v.2.2.2.1.2.2.2.2.1 v.2.2.2.1.2.2.2.2.2.1 v.2.2.2.1.2.2.2.2.2.2.1) (Quh k K ws rs N X) ws rs
noncomputable abbrev Quk : Option R := inner T an92 (Q0 F) 0 k 169 (S92 k) (E92 K) Qpz (sh Qhl ws rs) N X
abbrev Q14b : List Sh := [.ptr 1 0, .ptr 2 0, .ptr 3 0, .ptr 4 0, .val [] .bool]
abbrev Q154 : List RSh := [zs3, zs6, zs4, zs5]
noncomputable def Qld : Option R :=
 Q4 Q14b Q154 (fun v => let u0 := v.2.2.1.2.2.2.2.2.2.2; let u1 := v.2.2.2.1.2.2.2.2.2.2.2; let u2 := v.2.2.2.2.1.2.2.2.2.2.2.2; Q5o k (fun p5 => N (sh Q119 [.ptr 1 0, .ptr 2 0, .ptr 3 0, .ptr 4 0] [zr5 v.2.1.1 v.2.1.2.1 v.2.1.2.2.1 v.2.1.2.2.2.1 v.2.1.2.2.2.2.1, zr8 p5 v.2.2.1.2.1 v.2.2.1.2.2.1 v.2.2.1.2.2.2.1 v.2.2.1.2.2.2.2.1 v.2.2.1.2.2.2.2.2.1 v.2.2.1.2.2.2.2.2.2.1 v.2.2.1.2.2.2.2.2.2.2.1 u0.2.1, zr6 v.2.2.2.1.1 v.2.2.2.1.2.1 v.2.2.2.1.2.2.1 v.2.2.2.1.2.2.2.1 v.2.2.2.1.2.2.2.2.1 v.2.2.2.1.2.2.2.2.2.1 v.2.2.2.1.2.2.2.2.2.2.1 v.2.2.2.1.2.2.2.2.2.2.2.1 u1.2.1, zr7 v.2.2.2.2.1.1 v.2.2.2.2.1.2.1 v.2.2.2.2.1.2.2.1 v.2.2.2.2.1.2.2.2.2.2.1 v.2.2.2.2.1.2.2.2.2.2.2.1 v.2.2.2.2.1.2.2.2.2.2.2.2.1 u2.2.1])) v.1.2.2.2.2.1 v.2.2.1.1) (Quk k K ws rs N X) ws rs
noncomputable abbrev Qul : Option R := inner T an92 (Q0 F) 0 k 169 (S92 k) (E92 K) Qq0 (sh Qhm ws rs) N X
abbrev Q14c : List Sh := [.ptr 1 0, .ptr 2 0, .val [] .bool, .val [] .bool]
abbrev Q155 : List RSh := [zs6, zs5]
noncomputable def Qle : Option R :=
 Q4 Q14c Q155 (fun v => let u0 := v.2.1.2.2.2.2.2.2.2; let u1 := v.2.2.1.2.2.2.2.2.2.2; Q5p k (fun p1 => N (sh Q11a [.ptr 1 0, .ptr 2 0, .val [] .bool v.1.2.2.1] [zr8 p1 v.2.1.2.1 v.2.1.2.2.1 v.2.1.2.2.2.1 v.2.1.2.2.2.2.1 v.2.1.2.2.2.2.2.1 v.2.1.2.2.2.2.2.2.1 v.2.1.2.2.2.2.2.2.2.1 u0.2.1, zr7 v.2.2.1.1 v.2.2.1.2.1 v.2.2.1.2.2.1 v.2.2.1.2.2.2.2.2.1 v.2.2.1.2.2.2.2.2.2.1 v.2.2.1.2.2.2.2.2.2.2.1 u1.2.1])) v.1.2.2.2.1 v.2.1.1) (Qul k K ws rs N X) ws rs
noncomputable def L92 : Option R := bif id == 1000018 then Qlb k K ws rs N X else bif id == 1000023 then Qlc k K ws rs N X else bif id == 1000015 then Qla k K ws rs N X else bif id == 1000025 then Qld k K ws rs N X else bif id == 1000030 then Qle k K ws rs N X else none
theorem Q1cn : L92 k K 1000018 ws rs N X = Qui k K ws rs N X := by
 show Qlb k K ws rs N X = _
 unfold Qlb
 rw [Qam]
 exact lC (L92 k K) [] (by kernel_rfl) trivial fun x y => by kernel_rfl
theorem Q1co : L92 k K 1000023 ws rs N X = Quj k K ws rs N X := by
 show Qlc k K ws rs N X = _
 unfold Qlc
 rw [Q5n]
 exact lC (L92 k K) [] (by kernel_rfl) trivial fun x y => by kernel_rfl
theorem Q1cm : L92 k K 1000015 ws rs N X = Quh k K ws rs N X := by
 show Qla k K ws rs N X = _
 unfold Qla
 rw [Q3i]
 exact lC (L92 k K) [(1000018, Qhj, Qpx), (1000023, Qhk, Qpy)] (by kernel_rfl) ⟨Q1cn k K, Q1co k K, trivial⟩ fun x y => by kernel_rfl
theorem Q1cp : L92 k K 1000025 ws rs N X = Quk k K ws rs N X := by
 show Qld k K ws rs N X = _
 unfold Qld
 rw [Qan]
 exact lC (L92 k K) [] (by kernel_rfl) trivial fun x y => by kernel_rfl
theorem Q1cq : L92 k K 1000030 ws rs N X = Qul k K ws rs N X := by
 show Qle k K ws rs N X = _
 unfold Qle
 rw [Qao]
 exact lC (L92 k K) [] (by kernel_rfl) trivial fun x y => by kernel_rfl
theorem tu92 : tOk (R := R) 92 aa92 ab92 g92 := by
 intro k x y K
 unfold g92
 rw [Q10i]
 cases k with
 | zero => rfl
 | succ k => exact eS Try.f92 an92 0 169 (L92 k K) [(1000015, Qhi, Qpw), (1000025, Qhl, Qpz), (1000030, Qhm, Qq0)] (by kernel_rfl) (Q1f9 k) (by kernel_rfl) ⟨Q1cm k K, Q1cp k K, Q1cq k K, trivial⟩ (by kernel_rfl)
noncomputable def s92 := onS (R := R) aa92 ab92 g92 (fun k => callC T F k 92)
theorem Q1ij : sOk (R := R) s92 92 := Q6 (fun _ _ _ _ => rfl) tu92
noncomputable abbrev kt124 : zK4 R := (fun z0 z1 z2 z3 z4 z5 z6 z7 z8 z9 z10 z11 z12 z13 z14 z15 z16 z17 z18 z19 z20 z21 z22 z23 z24 z25 z26 z27 z28 => K [] [zr1 z0 z1 z2 z3 z4 z5 z6 z7 z8 z9 z10 z11 z12 z13 z14 z15 z16 z17 z18 z19 z20 z21 z22 z23 z24 z25 z26, ⟨0, .gone⟩, ⟨0, .gone⟩, zr2 z27, zr2 z28])
abbrev aa124 : List Sh := [.ptr 1 25, zv, .val [(0, 0)] (.slice zP0)]
abbrev ab124 : List RSh := [zs0, .arr [(0, 0)] zP2, .arr [(0, 0)] zP2]
noncomputable def g124 (k : Nat) (v : Sh.D.DL aa124 × RSh.DL ab124) (K : KT R) : Option R := let u0 := v.2.1.2.2.2.2.2.2.2; let u1 := u0.2.2.2.2.2.2.2; let u2 := u1.2.2.2.2.2.2.2; f124 k v.1.2.1 v.1.2.2.1 v.2.1.1 v.2.1.2.1 v.2.1.2.2.1 v.2.1.2.2.2.1 v.2.1.2.2.2.2.1 v.2.1.2.2.2.2.2.1 v.2.1.2.2.2.2.2.2.1 v.2.1.2.2.2.2.2.2.2.1 u0.2.1 u0.2.2.1 u0.2.2.2.1 u0.2.2.2.2.1 u0.2.2.2.2.2.1 u0.2.2.2.2.2.2.1 u0.2.2.2.2.2.2.2.1 u1.2.1 u1.2.2.1 u1.2.2.2.1 u1.2.2.2.2.1 u1.2.2.2.2.2.1 u1.2.2.2.2.2.2.1 u1.2.2.2.2.2.2.2.1 u2.2.1 u2.2.2.1 u2.2.2.2.2.1 u2.2.2.2.2.2.1 u2.2.2.2.2.2.2.2.1 v.2.2.1 v.2.2.2.1 (kt124 K)
noncomputable abbrev E124 := ending T Try.f124 an124 3 K
noncomputable def S124 := pickS (R := R) []
theorem Q1aj : ∀ k, S124 (R := R) k = callC T F k := Q3 trivial
noncomputable abbrev Qon : Option R := inner T an124 (Q0 F) 3 k 57 (S124 k) (E124 K) Q67 (sh Q4r ws rs) N X
abbrev Qvz : List Sh := [.ptr 1 25, zv, .ptr 6 0, .val [(0, 0)] (.slice zP0), zv, zv, .val [] .bool]
abbrev Qwu : List RSh := [zs1, .gone, .gone, .arr [(0, 0)] zP2, .arr [(0, 0)] zP2, zs4]
noncomputable def Qec : Option R :=
 Q4 Qvz Qwu (fun v => let u0 := v.2.1.2.2.2.2.2.2.2; let u1 := u0.2.2.2.2.2.2.2; let u2 := u1.2.2.2.2.2.2.2; let u3 := v.2.2.2.2.2.2.1.2.2.2.2.2.2.2; Q93 k (fun p32 => N (sh Qn9 [.ptr 1 25, zi v.1.2.1, .val [(0, 0)] (.slice zP0) v.1.2.2.2.1, zi v.1.2.2.2.2.1, zi v.1.2.2.2.2.2.1] [zr1 v.2.1.1 v.2.1.2.1 v.2.1.2.2.1 v.2.1.2.2.2.1 v.2.1.2.2.2.2.1 v.2.1.2.2.2.2.2.1 v.2.1.2.2.2.2.2.2.1 v.2.1.2.2.2.2.2.2.2.1 u0.2.1 u0.2.2.1 u0.2.2.2.1 u0.2.2.2.2.1 u0.2.2.2.2.2.1 u0.2.2.2.2.2.2.1 u0.2.2.2.2.2.2.2.1 u1.2.1 u1.2.2.1 u1.2.2.2.1 u1.2.2.2.2.1 u1.2.2.2.2.2.1 u1.2.2.2.2.2.2.1 u1.2.2.2.2.2.2.2.1 u2.2.1 u2.2.2.1 u2.2.2.2.2.1 u2.2.2.2.2.2.1 u2.2.2.2.2.2.2.2.1, ⟨0, .gone⟩, ⟨0, .gone⟩, zr2 v.2.2.2.2.1, zr2 p32])) v.1.2.1 v.1.2.2.2.2.2.2.1 v.2.2.2.2.2.1 v.2.2.2.2.2.2.1.1 v.2.2.2.2.2.2.1.2.1 v.2.2.2.2.2.2.1.2.2.1 v.2.2.2.2.2.2.1.2.2.2.1 v.2.2.2.2.2.2.1.2.2.2.2.1 v.2.2.2.2.2.2.1.2.2.2.2.2.1 v.2.2.2.2.2.2.1.2.2.2.2.2.2.1 v.2.2.2.2.2.2.1.2.2.2.2.2.2.2.1 u3.2.1) (Qon k K ws rs N X) ws rs
noncomputable abbrev Qtx : Option R := inner T an124 (Q0 F) 3 k 57 (S124 k) (E124 K) Qf0 (sh Q4q ws rs) N X
abbrev Qvy : List Sh := [.ptr 1 25, zv, .val [(0, 0)] (.slice zP0), zv, zv]
abbrev Qwt : List RSh := [zs1, .gone, .gone, .arr [(0, 0)] zP2, .arr [(0, 0)] zP2]
noncomputable def Qv4 : Option R :=
 Q4 Qvy Qwt (fun v => let u0 := v.2.1.2.2.2.2.2.2.2; let u1 := u0.2.2.2.2.2.2.2; let u2 := u1.2.2.2.2.2.2.2; Qyl k (fun p25 p28 => N (sh Qb1 [] [zr1 v.2.1.1 v.2.1.2.1 v.2.1.2.2.1 v.2.1.2.2.2.1 v.2.1.2.2.2.2.1 v.2.1.2.2.2.2.2.1 v.2.1.2.2.2.2.2.2.1 v.2.1.2.2.2.2.2.2.2.1 u0.2.1 u0.2.2.1 u0.2.2.2.1 u0.2.2.2.2.1 u0.2.2.2.2.2.1 u0.2.2.2.2.2.2.1 u0.2.2.2.2.2.2.2.1 u1.2.1 u1.2.2.1 u1.2.2.2.1 u1.2.2.2.2.1 u1.2.2.2.2.2.1 u1.2.2.2.2.2.2.1 u1.2.2.2.2.2.2.2.1 u2.2.1 u2.2.2.1 u2.2.2.2.2.1 p25 u2.2.2.2.2.2.2.2.1, ⟨0, .gone⟩, ⟨0, .gone⟩, zr2 v.2.2.2.2.1, zr2 p28])) v.1.2.1 v.1.2.2.1 v.1.2.2.2.1 v.2.1.1 v.2.1.2.1 v.2.1.2.2.1 v.2.1.2.2.2.1 v.2.1.2.2.2.2.1 v.2.1.2.2.2.2.2.1 v.2.1.2.2.2.2.2.2.1 v.2.1.2.2.2.2.2.2.2.1 u0.2.1 u0.2.2.1 u0.2.2.2.1 u0.2.2.2.2.1 u0.2.2.2.2.2.1 u0.2.2.2.2.2.2.1 u0.2.2.2.2.2.2.2.1 u1.2.1 u1.2.2.1 u1.2.2.2.1 u1.2.2.2.2.1 u1.2.2.2.2.2.1 u1.2.2.2.2.2.2.1 u1.2.2.2.2.2.2.2.1 u2.2.1 u2.2.2.1 u2.2.2.2.2.1 u2.2.2.2.2.2.2.2.1 v.2.2.2.2.1 k v.1.2.2.2.2.1 u2.2.2.2.2.2.1 v.2.2.2.2.2.1) (Qtx k K ws rs N X) ws rs
noncomputable def L124 : Option R := bif id == 1000004 then Qec k K ws rs N X else bif id == 0 then Qv4 k K ws rs N X else none
theorem Q16i : L124 k K 1000004 ws rs N X = Qon k K ws rs N X := by
 show Qec k K ws rs N X = _
 unfold Qec
 rw [Q2q]
 exact lC (L124 k K) [] (by kernel_rfl) trivial fun x y => by kernel_rfl
theorem Q1gi (c0 : Int) (c1 : zL2) (c2 c4 c5 c6 c7 c8 c9 c10 : Int) (c11 : ByteArray) (c12 : List Int) (c13 : Int) (c14 : zL5) (c15 c16 c17 c18 : Int) (c19 : ByteArray) (c20 : List Int) (c21 : zL5) (c22 c23 c24 c25 : Int) (c26 : List Bool) (c27 : Int) (c28 : List Bool) (c30 : Int) (c31 : zL1) (m : Nat) : ∀ (c3 c29 : Int) (c32 : zL1),
  iter (atHead an124 3 Q3t) m (fun st N' => exec T an124 (Q0 F) 3 k 57 (S124 k) (E124 K) Q3t st N' (outX an124 3 0 N X)) (sh Q4q [.ptr 1 25, zi c0, .val [(0, 0)] (.slice zP0) c1, zi c2, zi c3] [zr1 c4 c5 c6 c7 c8 c9 c10 c11 c12 c13 c14 c15 c16 c17 c18 c19 c20 c21 c22 c23 c24 c25 c26 c27 c28 c29 c30, ⟨0, .gone⟩, ⟨0, .gone⟩, zr2 c31, zr2 c32]) = Q2x k (fun p25 p28 => N (sh Qb1 [] [zr1 c4 c5 c6 c7 c8 c9 c10 c11 c12 c13 c14 c15 c16 c17 c18 c19 c20 c21 c22 c23 c24 c25 c26 c27 c28 p25 c30, ⟨0, .gone⟩, ⟨0, .gone⟩, zr2 c31, zr2 p28])) c0 c1 c2 c4 c5 c6 c7 c8 c9 c10 c11 c12 c13 c14 c15 c16 c17 c18 c19 c20 c21 c22 c23 c24 c25 c26 c27 c28 c30 c31 m c3 c29 c32 := by
 induction m with
 | zero => intros; rfl
 | succ m ih =>
   intro c3 c29 c32
   simp only [iter]
   rw [← Q9 T an124 (Q0 F) 3 k 57 (S124 k) (L124 k K) Q3t (Qc _ _ _ _ _ _ _ _ Q3t (l := [(1000004, Q4r, Q67)]) (by kernel_rfl) ⟨Q16i k K, trivial⟩)]
   have h := fx3 ih
   simp only [Q2x]
   rw [← h]
   show _ = _
   kernel_rfl
theorem Q1hh : L124 k K 0 ws rs N X = Qtx k K ws rs N X := by
 show Qv4 k K ws rs N X = _
 unfold Qv4
 rw [Qdd]
 exact Q5 (a := Qvy) (b := Qwt) (G := fun ws rs => Qtx k K ws rs N X) (fun x y => Eq.trans (by kernel_rfl) (Eq.trans (Q1gi k K N X x.2.1 x.2.2.1 x.2.2.2.1 y.1.1 y.1.2.1 y.1.2.2.1 y.1.2.2.2.1 y.1.2.2.2.2.1 y.1.2.2.2.2.2.1 y.1.2.2.2.2.2.2.1 y.1.2.2.2.2.2.2.2.1 y.1.2.2.2.2.2.2.2.2.1 y.1.2.2.2.2.2.2.2.2.2.1 y.1.2.2.2.2.2.2.2.2.2.2.1 y.1.2.2.2.2.2.2.2.2.2.2.2.1 y.1.2.2.2.2.2.2.2.2.2.2.2.2.1 y.1.2.2.2.2.2.2.2.2.2.2.2.2.2.1 y.1.2.2.2.2.2.2.2.2.2.2.2.2.2.2.1 y.1.2.2.2.2.2.2.2.2.2.2.2.2.2.2.2.1 y.1.2.2.2.2.2.2.2.2.2.2.2.2.2.2.2.2.1 y.1.2.2.2.2.2.2.2.2.2.2.2.2.2.2.2.2.2.1 y.1.2.2.2.2.2.2.2.2.2.2.2.2.2.2.2.2.2.2.1 y.1.2.2.2.2.2.2.2.2.2.2.2.2.2.2.2.2.2.2.2.1 y.1.2.2.2.2.2.2.2.2.2.2.2.2.2.2.2.2.2.2.2.2.1 y.1.2.2.2.2.2.2.2.2.2.2.2.2.2.2.2.2.2.2.2.2.2.1 y.1.2.2.2.2.2.2.2.2.2.2.2.2.2.2.2.2.2.2.2.2.2.2.1 y.1.2.2.2.2.2.2.2.2.2.2.2.2.2.2.2.2.2.2.2.2.2.2.2.1 y.1.2.2.2.2.2.2.2.2.2.2.2.2.2.2.2.2.2.2.2.2.2.2.2.2.2.1 y.1.2.2.2.2.2.2.2.2.2.2.2.2.2.2.2.2.2.2.2.2.2.2.2.2.2.2.2.2.1 y.2.2.2.1 k x.2.2.2.2.1 y.1.2.2.2.2.2.2.2.2.2.2.2.2.2.2.2.2.2.2.2.2.2.2.2.2.2.2.1 y.2.2.2.2.1).symm (by kernel_rfl))) ws rs
theorem tu124 : tOk (R := R) 124 aa124 ab124 g124 := by
 intro k x y K
 unfold g124
 rw [Qr1]
 cases k with
 | zero => rfl
 | succ k => exact eS Try.f124 an124 3 57 (L124 k K) [(0, Q4q, Qf0)] (by kernel_rfl) (Q1aj k) (by kernel_rfl) ⟨Q1hh k K, trivial⟩ (by kernel_rfl)
noncomputable def s124 := onS (R := R) aa124 ab124 g124 (fun k => callC T F k 124)
theorem Q1dp : sOk (R := R) s124 124 := Q6 (fun _ _ _ _ => rfl) tu124
noncomputable abbrev Q1c1 : zK1 R := (fun z0 z1 z2 z3 z4 z5 z6 z7 z8 z9 z10 z11 z12 z13 z14 z15 z16 z17 z18 z19 z20 z21 z22 z23 z24 z25 z26 z27 z28 z29 => K [.rw 6] [zr1 z0 z1 z2 z3 z4 z5 z6 z7 z8 z9 z10 z11 z12 z13 z14 z15 z16 z17 z18 z19 z20 z21 z22 z23 z24 z25 z26, ⟨0, .gone⟩, ⟨0, .gone⟩, zr2 z27, zr2 z28, zr3 z29])
abbrev Qlm : List Sh := [.ptr 1 25, zv]
abbrev Qls : List RSh := [zs0, .arr [(0, 0)] zP2, .arr [(0, 0)] zP2]
noncomputable def g123v1 (k : Nat) (v : Sh.D.DL Qlm × RSh.DL Qls) (K : KT R) : Option R := let u0 := v.2.1.2.2.2.2.2.2.2; let u1 := u0.2.2.2.2.2.2.2; let u2 := u1.2.2.2.2.2.2.2; f123v1 k v.1.2.1 v.2.1.1 v.2.1.2.1 v.2.1.2.2.1 v.2.1.2.2.2.1 v.2.1.2.2.2.2.1 v.2.1.2.2.2.2.2.1 v.2.1.2.2.2.2.2.2.1 v.2.1.2.2.2.2.2.2.2.1 u0.2.1 u0.2.2.1 u0.2.2.2.1 u0.2.2.2.2.1 u0.2.2.2.2.2.1 u0.2.2.2.2.2.2.1 u0.2.2.2.2.2.2.2.1 u1.2.1 u1.2.2.1 u1.2.2.2.1 u1.2.2.2.2.1 u1.2.2.2.2.2.1 u1.2.2.2.2.2.2.1 u1.2.2.2.2.2.2.2.1 u2.2.1 u2.2.2.1 u2.2.2.2.2.1 u2.2.2.2.2.2.1 u2.2.2.2.2.2.2.2.1 v.2.2.1 v.2.2.2.1 (Q1c1 K)
noncomputable abbrev E123v1 := ending T Try.f123 an123 3 K
noncomputable def S123v1 := pickS (R := R) []
theorem Qv7 : ∀ k, S123v1 (R := R) k = callC T F k := Q3 trivial
noncomputable abbrev Qdv : Option R := inner T an123 (Q0 F) 3 k 42 (S123v1 k) (E123v1 K) Qez (sh Q4p ws rs) N X
abbrev Qhz : List Sh := [.ptr 1 25, zv, .rw 6]
abbrev Qi3 : List RSh := [zs1, .gone, .gone, .arr [(0, 0)] zP2, .arr [(0, 0)] zP2, .arr [(0, 0)] zP0]
noncomputable def Qeb : Option R :=
 Q4 Qhz Qi3 (fun v => let u0 := v.2.1.2.2.2.2.2.2.2; let u1 := u0.2.2.2.2.2.2.2; let u2 := u1.2.2.2.2.2.2.2; Qfh k (fun p28 p29 => N (sh Qb0 [.rw 6] [zr1 v.2.1.1 v.2.1.2.1 v.2.1.2.2.1 v.2.1.2.2.2.1 v.2.1.2.2.2.2.1 v.2.1.2.2.2.2.2.1 v.2.1.2.2.2.2.2.2.1 v.2.1.2.2.2.2.2.2.2.1 u0.2.1 u0.2.2.1 u0.2.2.2.1 u0.2.2.2.2.1 u0.2.2.2.2.2.1 u0.2.2.2.2.2.2.1 u0.2.2.2.2.2.2.2.1 u1.2.1 u1.2.2.1 u1.2.2.2.1 u1.2.2.2.2.1 u1.2.2.2.2.2.1 u1.2.2.2.2.2.2.1 u1.2.2.2.2.2.2.2.1 u2.2.1 u2.2.2.1 u2.2.2.2.2.1 u2.2.2.2.2.2.1 u2.2.2.2.2.2.2.2.1, ⟨0, .gone⟩, ⟨0, .gone⟩, zr2 v.2.2.2.2.1, zr2 p28, zr3 p29])) v.1.2.1 v.2.1.1 v.2.1.2.1 v.2.1.2.2.1 v.2.1.2.2.2.1 v.2.1.2.2.2.2.1 v.2.1.2.2.2.2.2.1 v.2.1.2.2.2.2.2.2.1 v.2.1.2.2.2.2.2.2.2.1 u0.2.1 u0.2.2.1 u0.2.2.2.1 u0.2.2.2.2.1 u0.2.2.2.2.2.1 u0.2.2.2.2.2.2.1 u0.2.2.2.2.2.2.2.1 u1.2.1 u1.2.2.1 u1.2.2.2.1 u1.2.2.2.2.1 u1.2.2.2.2.2.1 u1.2.2.2.2.2.2.1 u1.2.2.2.2.2.2.2.1 u2.2.1 u2.2.2.1 u2.2.2.2.2.1 u2.2.2.2.2.2.1 u2.2.2.2.2.2.2.2.1 v.2.2.2.2.1 k v.2.2.2.2.2.1 v.2.2.2.2.2.2.1) (Qdv k K ws rs N X) ws rs
noncomputable def L123v1 : Option R := bif id == 0 then Qeb k K ws rs N X else none
theorem Q15y (c0 c1 c2 c3 c4 c5 c6 c7 : Int) (c8 : ByteArray) (c9 : List Int) (c10 : Int) (c11 : zL5) (c12 c13 c14 c15 : Int) (c16 : ByteArray) (c17 : List Int) (c18 : zL5) (c19 c20 c21 c22 : Int) (c23 : List Bool) (c24 : Int) (c25 : List Bool) (c26 c27 : Int) (c28 : zL1) (m : Nat) : ∀ (c29 : zL1) (c30 : zL3),
  iter (atHead an123 3 Q3s) m (fun st N' => exec T an123 (Q0 F) 3 k 42 (S123v1 k) (E123v1 K) Q3s st N' (outX an123 3 0 N X)) (sh Q4p [.ptr 1 25, zi c0, .rw 6] [zr1 c1 c2 c3 c4 c5 c6 c7 c8 c9 c10 c11 c12 c13 c14 c15 c16 c17 c18 c19 c20 c21 c22 c23 c24 c25 c26 c27, ⟨0, .gone⟩, ⟨0, .gone⟩, zr2 c28, zr2 c29, zr3 c30]) = Q1m k (fun p28 p29 => N (sh Qb0 [.rw 6] [zr1 c1 c2 c3 c4 c5 c6 c7 c8 c9 c10 c11 c12 c13 c14 c15 c16 c17 c18 c19 c20 c21 c22 c23 c24 c25 c26 c27, ⟨0, .gone⟩, ⟨0, .gone⟩, zr2 c28, zr2 p28, zr3 p29])) c0 c1 c2 c3 c4 c5 c6 c7 c8 c9 c10 c11 c12 c13 c14 c15 c16 c17 c18 c19 c20 c21 c22 c23 c24 c25 c26 c27 c28 m c29 c30 := by
 induction m with
 | zero => intros; rfl
 | succ m ih =>
   intro c29 c30
   simp only [iter]
   rw [← Q9 T an123 (Q0 F) 3 k 42 (S123v1 k) (L123v1 k K) Q3s (Qc _ _ _ _ _ _ _ _ Q3s (l := []) (by kernel_rfl) trivial)]
   have h := fx2 ih
   simp only [Q1m]
   rw [← h]
   show _ = _
   kernel_rfl
theorem Q16h : L123v1 k K 0 ws rs N X = Qdv k K ws rs N X := by
 show Qeb k K ws rs N X = _
 unfold Qeb
 rw [Q80]
 exact Q5 (a := Qhz) (b := Qi3) (G := fun ws rs => Qdv k K ws rs N X) (fun x y => Eq.trans (by kernel_rfl) (Eq.trans (Q15y k K N X x.2.1 y.1.1 y.1.2.1 y.1.2.2.1 y.1.2.2.2.1 y.1.2.2.2.2.1 y.1.2.2.2.2.2.1 y.1.2.2.2.2.2.2.1 y.1.2.2.2.2.2.2.2.1 y.1.2.2.2.2.2.2.2.2.1 y.1.2.2.2.2.2.2.2.2.2.1 y.1.2.2.2.2.2.2.2.2.2.2.1 y.1.2.2.2.2.2.2.2.2.2.2.2.1 y.1.2.2.2.2.2.2.2.2.2.2.2.2.1 y.1.2.2.2.2.2.2.2.2.2.2.2.2.2.1 y.1.2.2.2.2.2.2.2.2.2.2.2.2.2.2.1 y.1.2.2.2.2.2.2.2.2.2.2.2.2.2.2.2.1 y.1.2.2.2.2.2.2.2.2.2.2.2.2.2.2.2.2.1 y.1.2.2.2.2.2.2.2.2.2.2.2.2.2.2.2.2.2.1 y.1.2.2.2.2.2.2.2.2.2.2.2.2.2.2.2.2.2.2.1 y.1.2.2.2.2.2.2.2.2.2.2.2.2.2.2.2.2.2.2.2.1 y.1.2.2.2.2.2.2.2.2.2.2.2.2.2.2.2.2.2.2.2.2.1 y.1.2.2.2.2.2.2.2.2.2.2.2.2.2.2.2.2.2.2.2.2.2.1 y.1.2.2.2.2.2.2.2.2.2.2.2.2.2.2.2.2.2.2.2.2.2.2.1 y.1.2.2.2.2.2.2.2.2.2.2.2.2.2.2.2.2.2.2.2.2.2.2.2.1 y.1.2.2.2.2.2.2.2.2.2.2.2.2.2.2.2.2.2.2.2.2.2.2.2.2.2.1 y.1.2.2.2.2.2.2.2.2.2.2.2.2.2.2.2.2.2.2.2.2.2.2.2.2.2.2.1 y.1.2.2.2.2.2.2.2.2.2.2.2.2.2.2.2.2.2.2.2.2.2.2.2.2.2.2.2.2.1 y.2.2.2.1 k y.2.2.2.2.1 y.2.2.2.2.2.1).symm (by kernel_rfl))) ws rs
theorem Q1dz : tOk (R := R) 123 Qlm Qls g123v1 := by
 intro k x y K
 unfold g123v1
 rw [Qdc]
 cases k with
 | zero => rfl
 | succ k => exact eS Try.f123 an123 3 42 (L123v1 k K) [(0, Q4p, Qez)] (by kernel_rfl) (Qv7 k) (by kernel_rfl) ⟨Q16h k K, trivial⟩ (by kernel_rfl)
noncomputable def s123v1 := onS (R := R) Qlm Qls g123v1 s123
theorem Q12z : sOk (R := R) s123v1 123 := Q6 Q1do Q1dz
noncomputable abbrev kt71 : zL5 → Bool → Option R := (fun z0 z1 => K [.val [(0, 0)] zT1 z0, .val [] .bool z1] [])
abbrev aa71 : List Sh := [.val [(0, 0)] zT1]
abbrev ab71 : List RSh := []
noncomputable def g71 (k : Nat) (v : Sh.D.DL aa71 × RSh.DL ab71) (K : KT R) : Option R := f71 k v.1.1 (kt71 K)
noncomputable abbrev E71 := ending T Try.f71 an71 0 K
noncomputable def S71 := pickS (R := R) [(104, s104)]
theorem Q1et : ∀ k, S71 (R := R) k = callC T F k := Q3 ⟨Qnz, trivial⟩
theorem tu71 : tOk (R := R) 71 aa71 ab71 g71 := by
 intro k x y K
 unfold g71
 rw [Qzt]
 cases k with
 | zero => rfl
 | succ k => exact eS Try.f71 an71 0 17 L0 [] (by kernel_rfl) (Q1et k) (by kernel_rfl) trivial (by kernel_rfl)
noncomputable def s71 := onS (R := R) aa71 ab71 g71 (fun k => callC T F k 71)
theorem Q1i8 : sOk (R := R) s71 71 := Q6 (fun _ _ _ _ => rfl) tu71
end Go.Proofs.Ytlcklflbhhnnhaa.PM
