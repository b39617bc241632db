/- The small machine's run is the typed form (printed by a program of this work). -/
import Derived.Test.YtoepnomdklhhlaaGreatPA0
set_option linter.unusedVariables false
set_option linter.unusedSimpArgs false
set_option maxRecDepth 100000
namespace Go.Proofs.YtoepnomdklhhlaaGreat.PM
open Go
abbrev KT (R : Type) := List PV → List RowS → Option R
noncomputable def F : Nat → Option PFn := findN [(11, .code Tryz.f11 an11), (26, .code Tryz.f26 an26), (32, .code Tryz.f32 an32), (33, .code Tryz.f33 an33), (31, .code Tryz.f31 an31), (34, .code Tryz.f34 an34), (106, .code Tryz.f106 an106), (70, .code Tryz.f70 an70), (35, .code Tryz.f35 an35), (12, .code Tryz.f12 an12), (24, .code Tryz.f24 an24), (92, .code Tryz.f92 an92), (59, .code Tryz.f59 an59), (43, .ext [.lend (.int .u8)] (cloneSpec (.int .u8) 1)), (25, .code Tryz.f25 an25), (27, .code Tryz.f27 an27), (60, .code Tryz.f60 an60), (93, .code Tryz.f93 an93), (125, .ext [.lend (.int .u8), .any] repSpec), (126, .code Tryz.f126 an126), (172, .code Tryz.f172 an172), (153, .code Tryz.f153 an153), (154, .ext [.any, .any] (sortSpec 155)), (127, .code Tryz.f127 an127), (94, .code Tryz.f94 an94), (95, .code Tryz.f95 an95), (96, .code Tryz.f96 an96), (130, .code Tryz.f130 an130), (128, .code Tryz.f128 an128), (97, .code Tryz.f97 an97), (61, .code Tryz.f61 an61), (62, .code Tryz.f62 an62), (129, .code Tryz.f129 an129), (98, .code Tryz.f98 an98), (63, .code Tryz.f63 an63), (99, .code Tryz.f99 an99), (131, .ext [.lend zP1] (cloneSpec zP1 16)), (132, .code Tryz.f132 an132), (100, .code Tryz.f100 an100), (64, .code Tryz.f64 an64), (65, .code Tryz.f65 an65), (28, .code Tryz.f28 an28), (8, .code Tryz.f8 an8), (71, .code Tryz.f71 an71), (72, .code Tryz.f72 an72), (73, .code Tryz.f73 an73), (137, .code Tryz.f137 an137), (107, .code Tryz.f107 an107), (74, .code Tryz.f74 an74), (36, .code Tryz.f36 an36), (75, .code Tryz.f75 an75), (37, .code Tryz.f37 an37), (38, .code Tryz.f38 an38), (13, .code Tryz.f13 an13), (14, .code Tryz.f14 an14), (39, .code Tryz.f39 an39), (40, .ext [.lend (.int .i64)] (cloneSpec (.int .i64) 8)), (76, .code Tryz.f76 an76), (85, .code Tryz.f85 an85), (52, .code Tryz.f52 an52), (49, .ext [.any] sortISpec), (77, .code Tryz.f77 an77), (41, .code Tryz.f41 an41), (15, .code Tryz.f15 an15), (4, .code Tryz.f4 an4)]
theorem fx1 {α β : Type} {f g : α → β} (h : ∀ a, f a = g a) : f = g := funext h
theorem fx2 {α0 α1 β : Type} {f g : α0 → α1 → β} (h : ∀ a0 a1, f a0 a1 = g a0 a1) : f = g := funext fun a0 => fx1 fun a1 => h a0 a1
theorem fx3 {α0 α1 α2 β : Type} {f g : α0 → α1 → α2 → β} (h : ∀ a0 a1 a2, f a0 a1 a2 = g a0 a1 a2) : f = g := funext fun a0 => fx2 fun a1 a2 => h a0 a1 a2
theorem fx4 {α0 α1 α2 α3 β : Type} {f g : α0 → α1 → α2 → α3 → β} (h : ∀ a0 a1 a2 a3, f a0 a1 a2 a3 = g a0 a1 a2 a3) : f = g := funext fun a0 => fx3 fun a1 a2 a3 => h a0 a1 a2 a3
theorem fx5 {α0 α1 α2 α3 α4 β : Type} {f g : α0 → α1 → α2 → α3 → α4 → β} (h : ∀ a0 a1 a2 a3 a4, f a0 a1 a2 a3 a4 = g a0 a1 a2 a3 a4) : f = g := funext fun a0 => fx4 fun a1 a2 a3 a4 => h a0 a1 a2 a3 a4
theorem fx6 {α0 α1 α2 α3 α4 α5 β : Type} {f g : α0 → α1 → α2 → α3 → α4 → α5 → β} (h : ∀ a0 a1 a2 a3 a4 a5, f a0 a1 a2 a3 a4 a5 = g a0 a1 a2 a3 a4 a5) : f = g := funext fun a0 => fx5 fun a1 a2 a3 a4 a5 => h a0 a1 a2 a3 a4 a5
theorem fx7 {α0 α1 α2 α3 α4 α5 α6 β : Type} {f g : α0 → α1 → α2 → α3 → α4 → α5 → α6 → β} (h : ∀ a0 a1 a2 a3 a4 a5 a6, f a0 a1 a2 a3 a4 a5 a6 = g a0 a1 a2 a3 a4 a5 a6) : f = g := funext fun a0 => fx6 fun a1 a2 a3 a4 a5 a6 => h a0 a1 a2 a3 a4 a5 a6
theorem fx8 {α0 α1 α2 α3 α4 α5 α6 α7 β : Type} {f g : α0 → α1 → α2 → α3 → α4 → α5 → α6 → α7 → β} (h : ∀ a0 a1 a2 a3 a4 a5 a6 a7, f a0 a1 a2 a3 a4 a5 a6 a7 = g a0 a1 a2 a3 a4 a5 a6 a7) : f = g := funext fun a0 => fx7 fun a1 a2 a3 a4 a5 a6 a7 => h a0 a1 a2 a3 a4 a5 a6 a7
theorem fx9 {α0 α1 α2 α3 α4 α5 α6 α7 α8 β : Type} {f g : α0 → α1 → α2 → α3 → α4 → α5 → α6 → α7 → α8 → β} (h : ∀ a0 a1 a2 a3 a4 a5 a6 a7 a8, f a0 a1 a2 a3 a4 a5 a6 a7 a8 = g a0 a1 a2 a3 a4 a5 a6 a7 a8) : f = g := funext fun a0 => fx8 fun a1 a2 a3 a4 a5 a6 a7 a8 => h a0 a1 a2 a3 a4 a5 a6 a7 a8
theorem fx10 {α0 α1 α2 α3 α4 α5 α6 α7 α8 α9 β : Type} {f g : α0 → α1 → α2 → α3 → α4 → α5 → α6 → α7 → α8 → α9 → β} (h : ∀ a0 a1 a2 a3 a4 a5 a6 a7 a8 a9, f a0 a1 a2 a3 a4 a5 a6 a7 a8 a9 = g a0 a1 a2 a3 a4 a5 a6 a7 a8 a9) : f = g := funext fun a0 => fx9 fun a1 a2 a3 a4 a5 a6 a7 a8 a9 => h a0 a1 a2 a3 a4 a5 a6 a7 a8 a9
theorem fx11 {α0 α1 α2 α3 α4 α5 α6 α7 α8 α9 α10 β : Type} {f g : α0 → α1 → α2 → α3 → α4 → α5 → α6 → α7 → α8 → α9 → α10 → β} (h : ∀ a0 a1 a2 a3 a4 a5 a6 a7 a8 a9 a10, f a0 a1 a2 a3 a4 a5 a6 a7 a8 a9 a10 = g a0 a1 a2 a3 a4 a5 a6 a7 a8 a9 a10) : f = g := funext fun a0 => fx10 fun a1 a2 a3 a4 a5 a6 a7 a8 a9 a10 => h a0 a1 a2 a3 a4 a5 a6 a7 a8 a9 a10
theorem fx12 {α0 α1 α2 α3 α4 α5 α6 α7 α8 α9 α10 α11 β : Type} {f g : α0 → α1 → α2 → α3 → α4 → α5 → α6 → α7 → α8 → α9 → α10 → α11 → β} (h : ∀ a0 a1 a2 a3 a4 a5 a6 a7 a8 a9 a10 a11, f a0 a1 a2 a3 a4 a5 a6 a7 a8 a9 a10 a11 = g a0 a1 a2 a3 a4 a5 a6 a7 a8 a9 a10 a11) : f = g := funext fun a0 => fx11 fun a1 a2 a3 a4 a5 a6 a7 a8 a9 a10 a11 => h a0 a1 a2 a3 a4 a5 a6 a7 a8 a9 a10 a11
theorem fx13 {α0 α1 α2 α3 α4 α5 α6 α7 α8 α9 α10 α11 α12 β : Type} {f g : α0 → α1 → α2 → α3 → α4 → α5 → α6 → α7 → α8 → α9 → α10 → α11 → α12 → β} (h : ∀ a0 a1 a2 a3 a4 a5 a6 a7 a8 a9 a10 a11 a12, f a0 a1 a2 a3 a4 a5 a6 a7 a8 a9 a10 a11 a12 = g a0 a1 a2 a3 a4 a5 a6 a7 a8 a9 a10 a11 a12) : f = g := funext fun a0 => fx12 fun a1 a2 a3 a4 a5 a6 a7 a8 a9 a10 a11 a12 => h a0 a1 a2 a3 a4 a5 a6 a7 a8 a9 a10 a11 a12
theorem fx14 {α0 α1 α2 α3 α4 α5 α6 α7 α8 α9 α10 α11 α12 α13 β : Type} {f g : α0 → α1 → α2 → α3 → α4 → α5 → α6 → α7 → α8 → α9 → α10 → α11 → α12 → α13 → β} (h : ∀ a0 a1 a2 a3 a4 a5 a6 a7 a8 a9 a10 a11 a12 a13, f a0 a1 a2 a3 a4 a5 a6 a7 a8 a9 a10 a11 a12 a13 = g a0 a1 a2 a3 a4 a5 a6 a7 a8 a9 a10 a11 a12 a13) : f = g := funext fun a0 => fx13 fun a1 a2 a3 a4 a5 a6 a7 a8 a9 a10 a11 a12 a13 => h a0 a1 a2 a3 a4 a5 a6 a7 a8 a9 a10 a11 a12 a13
theorem fx15 {α0 α1 α2 α3 α4 α5 α6 α7 α8 α9 α10 α11 α12 α13 α14 β : Type} {f g : α0 → α1 → α2 → α3 → α4 → α5 → α6 → α7 → α8 → α9 → α10 → α11 → α12 → α13 → α14 → β} (h : ∀ a0 a1 a2 a3 a4 a5 a6 a7 a8 a9 a10 a11 a12 a13 a14, f a0 a1 a2 a3 a4 a5 a6 a7 a8 a9 a10 a11 a12 a13 a14 = g a0 a1 a2 a3 a4 a5 a6 a7 a8 a9 a10 a11 a12 a13 a14) : f = g := funext fun a0 => fx14 fun a1 a2 a3 a4 a5 a6 a7 a8 a9 a10 a11 a12 a13 a14 => h a0 a1 a2 a3 a4 a5 a6 a7 a8 a9 a10 a11 a12 a13 a14
theorem fx16 {α0 α1 α2 α3 α4 α5 α6 α7 α8 α9 α10 α11 α12 α13 α14 α15 β : Type} {f g : α0 → α1 → α2 → α3 → α4 → α5 → α6 → α7 → α8 → α9 → α10 → α11 → α12 → α13 → α14 → α15 → β} (h : ∀ a0 a1 a2 a3 a4 a5 a6 a7 a8 a9 a10 a11 a12 a13 a14 a15, f a0 a1 a2 a3 a4 a5 a6 a7 a8 a9 a10 a11 a12 a13 a14 a15 = g a0 a1 a2 a3 a4 a5 a6 a7 a8 a9 a10 a11 a12 a13 a14 a15) : f = g := funext fun a0 => fx15 fun a1 a2 a3 a4 a5 a6 a7 a8 a9 a10 a11 a12 a13 a14 a15 => h a0 a1 a2 a3 a4 a5 a6 a7 a8 a9 a10 a11 a12 a13 a14 a15
theorem fx17 {α0 α1 α2 α3 α4 α5 α6 α7 α8 α9 α10 α11 α12 α13 α14 α15 α16 β : Type} {f g : α0 → α1 → α2 → α3 → α4 → α5 → α6 → α7 → α8 → α9 → α10 → α11 → α12 → α13 → α14 → α15 → α16 → β} (h : ∀ a0 a1 a2 a3 a4 a5 a6 a7 a8 a9 a10 a11 a12 a13 a14 a15 a16, f a0 a1 a2 a3 a4 a5 a6 a7 a8 a9 a10 a11 a12 a13 a14 a15 a16 = g a0 a1 a2 a3 a4 a5 a6 a7 a8 a9 a10 a11 a12 a13 a14 a15 a16) : f = g := funext fun a0 => fx16 fun a1 a2 a3 a4 a5 a6 a7 a8 a9 a10 a11 a12 a13 a14 a15 a16 => h a0 a1 a2 a3 a4 a5 a6 a7 a8 a9 a10 a11 a12 a13 a14 a15 a16
theorem fx18 {α0 α1 α2 α3 α4 α5 α6 α7 α8 α9 α10 α11 α12 α13 α14 α15 α16 α17 β : Type} {f g : α0 → α1 → α2 → α3 → α4 → α5 → α6 → α7 → α8 → α9 → α10 → α11 → α12 → α13 → α14 → α15 → α16 → α17 → β} (h : ∀ a0 a1 a2 a3 a4 a5 a6 a7 a8 a9 a10 a11 a12 a13 a14 a15 a16 a17, f a0 a1 a2 a3 a4 a5 a6 a7 a8 a9 a10 a11 a12 a13 a14 a15 a16 a17 = g a0 a1 a2 a3 a4 a5 a6 a7 a8 a9 a10 a11 a12 a13 a14 a15 a16 a17) : f = g := funext fun a0 => fx17 fun a1 a2 a3 a4 a5 a6 a7 a8 a9 a10 a11 a12 a13 a14 a15 a16 a17 => h a0 a1 a2 a3 a4 a5 a6 a7 a8 a9 a10 a11 a12 a13 a14 a15 a16 a17
theorem fx19 {α0 α1 α2 α3 α4 α5 α6 α7 α8 α9 α10 α11 α12 α13 α14 α15 α16 α17 α18 β : Type} {f g : α0 → α1 → α2 → α3 → α4 → α5 → α6 → α7 → α8 → α9 → α10 → α11 → α12 → α13 → α14 → α15 → α16 → α17 → α18 → β} (h : ∀ a0 a1 a2 a3 a4 a5 a6 a7 a8 a9 a10 a11 a12 a13 a14 a15 a16 a17 a18, f a0 a1 a2 a3 a4 a5 a6 a7 a8 a9 a10 a11 a12 a13 a14 a15 a16 a17 a18 = g a0 a1 a2 a3 a4 a5 a6 a7 a8 a9 a10 a11 a12 a13 a14 a15 a16 a17 a18) : f = g := funext fun a0 => fx18 fun a1 a2 a3 a4 a5 a6 a7 a8 a9 a10 a11 a12 a13 a14 a15 a16 a17 a18 => h a0 a1 a2 a3 a4 a5 a6 a7 a8 a9 a10 a11 a12 a13 a14 a15 a16 a17 a18
theorem fx20 {α0 α1 α2 α3 α4 α5 α6 α7 α8 α9 α10 α11 α12 α13 α14 α15 α16 α17 α18 α19 β : Type} {f g : α0 → α1 → α2 → α3 → α4 → α5 → α6 → α7 → α8 → α9 → α10 → α11 → α12 → α13 → α14 → α15 → α16 → α17 → α18 → α19 → β} (h : ∀ a0 a1 a2 a3 a4 a5 a6 a7 a8 a9 a10 a11 a12 a13 a14 a15 a16 a17 a18 a19, f a0 a1 a2 a3 a4 a5 a6 a7 a8 a9 a10 a11 a12 a13 a14 a15 a16 a17 a18 a19 = g a0 a1 a2 a3 a4 a5 a6 a7 a8 a9 a10 a11 a12 a13 a14 a15 a16 a17 a18 a19) : f = g := funext fun a0 => fx19 fun a1 a2 a3 a4 a5 a6 a7 a8 a9 a10 a11 a12 a13 a14 a15 a16 a17 a18 a19 => h a0 a1 a2 a3 a4 a5 a6 a7 a8 a9 a10 a11 a12 a13 a14 a15 a16 a17 a18 a19
theorem fx21 {α0 α1 α2 α3 α4 α5 α6 α7 α8 α9 α10 α11 α12 α13 α14 α15 α16 α17 α18 α19 α20 β : Type} {f g : α0 → α1 → α2 → α3 → α4 → α5 → α6 → α7 → α8 → α9 → α10 → α11 → α12 → α13 → α14 → α15 → α16 → α17 → α18 → α19 → α20 → β} (h : ∀ a0 a1 a2 a3 a4 a5 a6 a7 a8 a9 a10 a11 a12 a13 a14 a15 a16 a17 a18 a19 a20, f a0 a1 a2 a3 a4 a5 a6 a7 a8 a9 a10 a11 a12 a13 a14 a15 a16 a17 a18 a19 a20 = g a0 a1 a2 a3 a4 a5 a6 a7 a8 a9 a10 a11 a12 a13 a14 a15 a16 a17 a18 a19 a20) : f = g := funext fun a0 => fx20 fun a1 a2 a3 a4 a5 a6 a7 a8 a9 a10 a11 a12 a13 a14 a15 a16 a17 a18 a19 a20 => h a0 a1 a2 a3 a4 a5 a6 a7 a8 a9 a10 a11 a12 a13 a14 a15 a16 a17 a18 a19 a20
theorem fx22 {α0 α1 α2 α3 α4 α5 α6 α7 α8 α9 α10 α11 α12 α13 α14 α15 α16 α17 α18 α19 α20 α21 β : Type} {f g : α0 → α1 → α2 → α3 → α4 → α5 → α6 → α7 → α8 → α9 → α10 → α11 → α12 → α13 → α14 → α15 → α16 → α17 → α18 → α19 → α20 → α21 → β} (h : ∀ a0 a1 a2 a3 a4 a5 a6 a7 a8 a9 a10 a11 a12 a13 a14 a15 a16 a17 a18 a19 a20 a21, f a0 a1 a2 a3 a4 a5 a6 a7 a8 a9 a10 a11 a12 a13 a14 a15 a16 a17 a18 a19 a20 a21 = g a0 a1 a2 a3 a4 a5 a6 a7 a8 a9 a10 a11 a12 a13 a14 a15 a16 a17 a18 a19 a20 a21) : f = g := funext fun a0 => fx21 fun a1 a2 a3 a4 a5 a6 a7 a8 a9 a10 a11 a12 a13 a14 a15 a16 a17 a18 a19 a20 a21 => h a0 a1 a2 a3 a4 a5 a6 a7 a8 a9 a10 a11 a12 a13 a14 a15 a16 a17 a18 a19 a20 a21
theorem fx23 {α0 α1 α2 α3 α4 α5 α6 α7 α8 α9 α10 α11 α12 α13 α14 α15 α16 α17 α18 α19 α20 α21 α22 β : Type} {f g : α0 → α1 → α2 → α3 → α4 → α5 → α6 → α7 → α8 → α9 → α10 → α11 → α12 → α13 → α14 → α15 → α16 → α17 → α18 → α19 → α20 → α21 → α22 → β} (h : ∀ a0 a1 a2 a3 a4 a5 a6 a7 a8 a9 a10 a11 a12 a13 a14 a15 a16 a17 a18 a19 a20 a21 a22, f a0 a1 a2 a3 a4 a5 a6 a7 a8 a9 a10 a11 a12 a13 a14 a15 a16 a17 a18 a19 a20 a21 a22 = g a0 a1 a2 a3 a4 a5 a6 a7 a8 a9 a10 a11 a12 a13 a14 a15 a16 a17 a18 a19 a20 a21 a22) : f = g := funext fun a0 => fx22 fun a1 a2 a3 a4 a5 a6 a7 a8 a9 a10 a11 a12 a13 a14 a15 a16 a17 a18 a19 a20 a21 a22 => h a0 a1 a2 a3 a4 a5 a6 a7 a8 a9 a10 a11 a12 a13 a14 a15 a16 a17 a18 a19 a20 a21 a22
theorem fx24 {α0 α1 α2 α3 α4 α5 α6 α7 α8 α9 α10 α11 α12 α13 α14 α15 α16 α17 α18 α19 α20 α21 α22 α23 β : Type} {f g : α0 → α1 → α2 → α3 → α4 → α5 → α6 → α7 → α8 → α9 → α10 → α11 → α12 → α13 → α14 → α15 → α16 → α17 → α18 → α19 → α20 → α21 → α22 → α23 → β} (h : ∀ a0 a1 a2 a3 a4 a5 a6 a7 a8 a9 a10 a11 a12 a13 a14 a15 a16 a17 a18 a19 a20 a21 a22 a23, f a0 a1 a2 a3 a4 a5 a6 a7 a8 a9 a10 a11 a12 a13 a14 a15 a16 a17 a18 a19 a20 a21 a22 a23 = g a0 a1 a2 a3 a4 a5 a6 a7 a8 a9 a10 a11 a12 a13 a14 a15 a16 a17 a18 a19 a20 a21 a22 a23) : f = g := funext fun a0 => fx23 fun a1 a2 a3 a4 a5 a6 a7 a8 a9 a10 a11 a12 a13 a14 a15 a16 a17 a18 a19 a20 a21 a22 a23 => h a0 a1 a2 a3 a4 a5 a6 a7 a8 a9 a10 a11 a12 a13 a14 a15 a16 a17 a18 a19 a20 a21 a22 a23
theorem fx25 {α0 α1 α2 α3 α4 α5 α6 α7 α8 α9 α10 α11 α12 α13 α14 α15 α16 α17 α18 α19 α20 α21 α22 α23 α24 β : Type} {f g : α0 → α1 → α2 → α3 → α4 → α5 → α6 → α7 → α8 → α9 → α10 → α11 → α12 → α13 → α14 → α15 → α16 → α17 → α18 → α19 → α20 → α21 → α22 → α23 → α24 → β} (h : ∀ a0 a1 a2 a3 a4 a5 a6 a7 a8 a9 a10 a11 a12 a13 a14 a15 a16 a17 a18 a19 a20 a21 a22 a23 a24, f a0 a1 a2 a3 a4 a5 a6 a7 a8 a9 a10 a11 a12 a13 a14 a15 a16 a17 a18 a19 a20 a21 a22 a23 a24 = g a0 a1 a2 a3 a4 a5 a6 a7 a8 a9 a10 a11 a12 a13 a14 a15 a16 a17 a18 a19 a20 a21 a22 a23 a24) : f = g := funext fun a0 => fx24 fun a1 a2 a3 a4 a5 a6 a7 a8 a9 a10 a11 a12 a13 a14 a15 a16 a17 a18 a19 a20 a21 a22 a23 a24 => h a0 a1 a2 a3 a4 a5 a6 a7 a8 a9 a10 a11 a12 a13 a14 a15 a16 a17 a18 a19 a20 a21 a22 a23 a24
theorem fx26 {α0 α1 α2 α3 α4 α5 α6 α7 α8 α9 α10 α11 α12 α13 α14 α15 α16 α17 α18 α19 α20 α21 α22 α23 α24 α25 β : Type} {f g : α0 → α1 → α2 → α3 → α4 → α5 → α6 → α7 → α8 → α9 → α10 → α11 → α12 → α13 → α14 → α15 → α16 → α17 → α18 → α19 → α20 → α21 → α22 → α23 → α24 → α25 → β} (h : ∀ a0 a1 a2 a3 a4 a5 a6 a7 a8 a9 a10 a11 a12 a13 a14 a15 a16 a17 a18 a19 a20 a21 a22 a23 a24 a25, f a0 a1 a2 a3 a4 a5 a6 a7 a8 a9 a10 a11 a12 a13 a14 a15 a16 a17 a18 a19 a20 a21 a22 a23 a24 a25 = g a0 a1 a2 a3 a4 a5 a6 a7 a8 a9 a10 a11 a12 a13 a14 a15 a16 a17 a18 a19 a20 a21 a22 a23 a24 a25) : f = g := funext fun a0 => fx25 fun a1 a2 a3 a4 a5 a6 a7 a8 a9 a10 a11 a12 a13 a14 a15 a16 a17 a18 a19 a20 a21 a22 a23 a24 a25 => h a0 a1 a2 a3 a4 a5 a6 a7 a8 a9 a10 a11 a12 a13 a14 a15 a16 a17 a18 a19 a20 a21 a22 a23 a24 a25
theorem fx27 {α0 α1 α2 α3 α4 α5 α6 α7 α8 α9 α10 α11 α12 α13 α14 α15 α16 α17 α18 α19 α20 α21 α22 α23 α24 α25 α26 β : Type} {f g : α0 → α1 → α2 → α3 → α4 → α5 → α6 → α7 → α8 → α9 → α10 → α11 → α12 → α13 → α14 → α15 → α16 → α17 → α18 → α19 → α20 → α21 → α22 → α23 → α24 → α25 → α26 → β} (h : ∀ a0 a1 a2 a3 a4 a5 a6 a7 a8 a9 a10 a11 a12 a13 a14 a15 a16 a17 a18 a19 a20 a21 a22 a23 a24 a25 a26, f a0 a1 a2 a3 a4 a5 a6 a7 a8 a9 a10 a11 a12 a13 a14 a15 a16 a17 a18 a19 a20 a21 a22 a23 a24 a25 a26 = g a0 a1 a2 a3 a4 a5 a6 a7 a8 a9 a10 a11 a12 a13 a14 a15 a16 a17 a18 a19 a20 a21 a22 a23 a24 a25 a26) : f = g := funext fun a0 => fx26 fun a1 a2 a3 a4 a5 a6 a7 a8 a9 a10 a11 a12 a13 a14 a15 a16 a17 a18 a19 a20 a21 a22 a23 a24 a25 a26 => h a0 a1 a2 a3 a4 a5 a6 a7 a8 a9 a10 a11 a12 a13 a14 a15 a16 a17 a18 a19 a20 a21 a22 a23 a24 a25 a26
theorem fx28 {α0 α1 α2 α3 α4 α5 α6 α7 α8 α9 α10 α11 α12 α13 α14 α15 α16 α17 α18 α19 α20 α21 α22 α23 α24 α25 α26 α27 β : Type} {f g : α0 → α1 → α2 → α3 → α4 → α5 → α6 → α7 → α8 → α9 → α10 → α11 → α12 → α13 → α14 → α15 → α16 → α17 → α18 → α19 → α20 → α21 → α22 → α23 → α24 → α25 → α26 → α27 → β} (h : ∀ a0 a1 a2 a3 a4 a5 a6 a7 a8 a9 a10 a11 a12 a13 a14 a15 a16 a17 a18 a19 a20 a21 a22 a23 a24 a25 a26 a27, f a0 a1 a2 a3 a4 a5 a6 a7 a8 a9 a10 a11 a12 a13 a14 a15 a16 a17 a18 a19 a20 a21 a22 a23 a24 a25 a26 a27 = g a0 a1 a2 a3 a4 a5 a6 a7 a8 a9 a10 a11 a12 a13 a14 a15 a16 a17 a18 a19 a20 a21 a22 a23 a24 a25 a26 a27) : f = g := funext fun a0 => fx27 fun a1 a2 a3 a4 a5 a6 a7 a8 a9 a10 a11 a12 a13 a14 a15 a16 a17 a18 a19 a20 a21 a22 a23 a24 a25 a26 a27 => h a0 a1 a2 a3 a4 a5 a6 a7 a8 a9 a10 a11 a12 a13 a14 a15 a16 a17 a18 a19 a20 a21 a22 a23 a24 a25 a26 a27
theorem fx29 {α0 α1 α2 α3 α4 α5 α6 α7 α8 α9 α10 α11 α12 α13 α14 α15 α16 α17 α18 α19 α20 α21 α22 α23 α24 α25 α26 α27 α28 β : Type} {f g : α0 → α1 → α2 → α3 → α4 → α5 → α6 → α7 → α8 → α9 → α10 → α11 → α12 → α13 → α14 → α15 → α16 → α17 → α18 → α19 → α20 → α21 → α22 → α23 → α24 → α25 → α26 → α27 → α28 → β} (h : ∀ a0 a1 a2 a3 a4 a5 a6 a7 a8 a9 a10 a11 a12 a13 a14 a15 a16 a17 a18 a19 a20 a21 a22 a23 a24 a25 a26 a27 a28, f a0 a1 a2 a3 a4 a5 a6 a7 a8 a9 a10 a11 a12 a13 a14 a15 a16 a17 a18 a19 a20 a21 a22 a23 a24 a25 a26 a27 a28 = g a0 a1 a2 a3 a4 a5 a6 a7 a8 a9 a10 a11 a12 a13 a14 a15 a16 a17 a18 a19 a20 a21 a22 a23 a24 a25 a26 a27 a28) : f = g := funext fun a0 => fx28 fun a1 a2 a3 a4 a5 a6 a7 a8 a9 a10 a11 a12 a13 a14 a15 a16 a17 a18 a19 a20 a21 a22 a23 a24 a25 a26 a27 a28 => h a0 a1 a2 a3 a4 a5 a6 a7 a8 a9 a10 a11 a12 a13 a14 a15 a16 a17 a18 a19 a20 a21 a22 a23 a24 a25 a26 a27 a28
theorem fx30 {α0 α1 α2 α3 α4 α5 α6 α7 α8 α9 α10 α11 α12 α13 α14 α15 α16 α17 α18 α19 α20 α21 α22 α23 α24 α25 α26 α27 α28 α29 β : Type} {f g : α0 → α1 → α2 → α3 → α4 → α5 → α6 → α7 → α8 → α9 → α10 → α11 → α12 → α13 → α14 → α15 → α16 → α17 → α18 → α19 → α20 → α21 → α22 → α23 → α24 → α25 → α26 → α27 → α28 → α29 → β} (h : ∀ a0 a1 a2 a3 a4 a5 a6 a7 a8 a9 a10 a11 a12 a13 a14 a15 a16 a17 a18 a19 a20 a21 a22 a23 a24 a25 a26 a27 a28 a29, f a0 a1 a2 a3 a4 a5 a6 a7 a8 a9 a10 a11 a12 a13 a14 a15 a16 a17 a18 a19 a20 a21 a22 a23 a24 a25 a26 a27 a28 a29 = g a0 a1 a2 a3 a4 a5 a6 a7 a8 a9 a10 a11 a12 a13 a14 a15 a16 a17 a18 a19 a20 a21 a22 a23 a24 a25 a26 a27 a28 a29) : f = g := funext fun a0 => fx29 fun a1 a2 a3 a4 a5 a6 a7 a8 a9 a10 a11 a12 a13 a14 a15 a16 a17 a18 a19 a20 a21 a22 a23 a24 a25 a26 a27 a28 a29 => h a0 a1 a2 a3 a4 a5 a6 a7 a8 a9 a10 a11 a12 a13 a14 a15 a16 a17 a18 a19 a20 a21 a22 a23 a24 a25 a26 a27 a28 a29
section
variable {R : Type}
noncomputable def onS (a : List Sh) (b : List RSh) (g : Nat → Sh.D.DL a × RSh.DL b → KT R → Option R) (o : Nat → List PV → List RowS → KT R → Option R) (k : Nat) (ws : List PV) (rs : List RowS) (K : KT R) : Option R := onShape a b (fun v => g k v K) (o k ws rs K) ws rs
abbrev sOk (s : Nat → List PV → List RowS → KT R → Option R) (f : Nat) : Prop := ∀ k ws rs K, s k ws rs K = callC T F k f ws rs K
abbrev tOk (f : Nat) (a : List Sh) (b : List RSh) (g : Nat → Sh.D.DL a × RSh.DL b → KT R → Option R) : Prop := ∀ k x y K, callC T F k f (Sh.build.buildL a x) (RSh.buildL b y) K = g k (x, y) K
theorem onS_eq {a : List Sh} {b : List RSh} {g : Nat → Sh.D.DL a × RSh.DL b → KT R → Option R} {o : Nat → List PV → List RowS → KT R → Option R} {f : Nat} (ho : sOk o f) (h : tOk f a b g) : sOk (onS a b g o) f := by
  intro k ws rs K
  unfold onS
  rw [ho]
  exact onShape_eq (G := fun ws rs => callC T F k f ws rs K) (fun x y => (h k x y K).symm) ws rs
noncomputable def pickS (l : List (Nat × (Nat → List PV → List RowS → KT R → Option R))) (k g : Nat) (ws : List PV) (rs : List RowS) (K : KT R) : Option R := match l with
  | [] => callC T F k g ws rs K
  | (n, s) :: l => bif g == n then s k ws rs K else pickS l k g ws rs K
def pickOk : List (Nat × (Nat → List PV → List RowS → KT R → Option R)) → Prop
  | [] => True
  | (n, s) :: l => sOk s n ∧ pickOk l
theorem pickS_eq : ∀ {l : List (Nat × (Nat → List PV → List RowS → KT R → Option R))}, pickOk l → ∀ k, pickS l k = callC T F k
  | [], _, k => rfl
  | (n, s) :: l, h, k => by
    funext g ws rs K
    unfold pickS
    exact pick_eq (fun e => by subst e; exact h.1 k ws rs K) (by rw [pickS_eq h.2 k])
theorem eS (fn : Func) (an : Ann) (n nt : Nat) {f k : Nat} {ws : List PV} {rs : List RowS} {K : KT R} {S : Nat → List PV → List RowS → KT R → Option R} (L : Nat → List PV → List RowS → (St → Option R) → (Nat → St → Option R) → Option R) (l : List (Nat × List (Nat × Mode) × Code)) {q : Option R}
    (h1 : callC T F (k + 1) f ws rs K = exec T an (modesOf F) n k nt (callC T F k) (ending T fn an n K) (bodyOf fn) ⟨argEnv 0 ws (fun _ => none), rowsOf rs⟩ (ending T fn an n K) (fun _ _ => none))
    (h2 : S = callC T F k) (h3 : cutBlocks an (bodyOf fn) = l) (h4 : CutsOkL T an (modesOf F) n k nt S L (ending T fn an n K) l)
    (h5 : execS T an (modesOf F) n k nt S L (ending T fn an n K) (bodyOf fn) ⟨argEnv 0 ws (fun _ => none), rowsOf rs⟩ (ending T fn an n K) (fun _ _ => none) = q) : callC T F (k + 1) f ws rs K = q := by
  rw [h1, ← h2, ← execS_eq T an (modesOf F) n k nt S L (bodyOf fn) (cuts_of _ _ _ _ _ _ _ _ _ h3 h4)]
  exact h5
theorem lC {a : List Sh} {b : List RSh} {g : Sh.D.DL a × RSh.DL b → Option R} {an : Ann} {n k nt : Nat} {S : Nat → List PV → List RowS → KT R → Option R} (L : Nat → List PV → List RowS → (St → Option R) → (Nat → St → Option R) → Option R) (l : List (Nat × List (Nat × Mode) × Code)) {Rt : St → Option R} {cd : Code} {sp : List (Nat × Mode)} {ws : List PV} {rs : List RowS} {N : St → Option R} {X : Nat → St → Option R}
    (h3 : cutsIn an cd = l) (h4 : CutsOkL T an (modesOf F) n k nt S L Rt l) (h : ∀ x y, g (x, y) = innerS T an (modesOf F) n k nt S L Rt cd (sh sp (Sh.build.buildL a x) (RSh.buildL b y)) N X) :
    onShape a b g (inner T an (modesOf F) n k nt S Rt cd (sh sp ws rs) N X) ws rs = inner T an (modesOf F) n k nt S Rt cd (sh sp ws rs) N X :=
  onShape_eq (G := fun ws rs => inner T an (modesOf F) n k nt S Rt cd (sh sp ws rs) N X) (fun x y => (h x y).trans (innerS_eq T an (modesOf F) n k nt S L cd h3 h4 _ N X)) ws rs
noncomputable abbrev L0 : Nat → List PV → List RowS → (St → Option R) → (Nat → St → Option R) → Option R := fun _ _ _ _ _ => none
end
variable {R : Type} (k : Nat) (K : KT R) (id : Nat) (ws : List PV) (rs : List RowS) (N : St → Option R) (X : Nat → St → Option R)
noncomputable abbrev kt11 : Int → Option R := (fun z0 => K [zi z0] [])
abbrev aa11 : List Sh := [zv, zv]
abbrev ab11 : List RSh := []
noncomputable def g11 (k : Nat) (v : Sh.D.DL aa11 × RSh.DL ab11) (K : KT R) : Option R := f11 k v.1.1 v.1.2.1 (kt11 K)
noncomputable abbrev E11 := ending T Tryz.f11 an11 0 K
noncomputable def S11 := pickS (R := R) []
theorem S11_eq : ∀ k, S11 (R := R) k = callC T F k := pickS_eq trivial
noncomputable abbrev I11_1000003 : Option R := inner T an11 (modesOf F) 0 k 14 (S11 k) (E11 K) cd11_1000003 (sh sp11_1000003 ws rs) N X
abbrev aa11_1000003 : List Sh := [zv, zv, .val [] .bool]
abbrev ab11_1000003 : List RSh := []
noncomputable def L11_1000003 : Option R :=
  onShape aa11_1000003 ab11_1000003 (fun v => f11_1000003 k (fun p0 => N (sh fi11_3 [zi p0] [])) v.1.1 v.1.2.1 v.1.2.2.1) (I11_1000003 k K ws rs N X) ws rs
noncomputable def L11 : Option R := bif id == 1000003 then L11_1000003 k K ws rs N X else none
theorem l11_1000003 : L11 k K 1000003 ws rs N X = I11_1000003 k K ws rs N X := by
  show L11_1000003 k K ws rs N X = _
  unfold L11_1000003
  rw [f11_1000003_def]
  exact lC (L11 k K) [] (by kernel_rfl) trivial fun x y => by kernel_rfl
theorem tu11 : tOk (R := R) 11 aa11 ab11 g11 := by
  intro k x y K
  unfold g11
  rw [f11_def]
  cases k with
  | zero => rfl
  | succ k => exact eS Tryz.f11 an11 0 14 (L11 k K) [(1000003, sp11_1000003, cd11_1000003)] (by kernel_rfl) (S11_eq k) (by kernel_rfl) ⟨l11_1000003 k K, trivial⟩ (by kernel_rfl)
noncomputable def s11 := onS (R := R) aa11 ab11 g11 (fun k => callC T F k 11)
theorem s11_eq : sOk (R := R) s11 11 := onS_eq (fun _ _ _ _ => rfl) tu11
noncomputable abbrev kt26 : Bool → Option R := (fun z0 => K [.val [] .bool z0] [])
abbrev aa26 : List Sh := [zv, zv, zv]
abbrev ab26 : List RSh := []
noncomputable def g26 (k : Nat) (v : Sh.D.DL aa26 × RSh.DL ab26) (K : KT R) : Option R := f26 k v.1.1 v.1.2.1 v.1.2.2.1 (kt26 K)
noncomputable abbrev E26 := ending T Tryz.f26 an26 0 K
noncomputable def S26 := pickS (R := R) []
theorem S26_eq : ∀ k, S26 (R := R) k = callC T F k := pickS_eq trivial
theorem tu26 : tOk (R := R) 26 aa26 ab26 g26 := by
  intro k x y K
  unfold g26
  rw [f26_def]
  cases k with
  | zero => rfl
  | succ k => exact eS Tryz.f26 an26 0 15 L0 [] (by kernel_rfl) (S26_eq k) (by kernel_rfl) trivial (by kernel_rfl)
noncomputable def s26 := onS (R := R) aa26 ab26 g26 (fun k => callC T F k 26)
theorem s26_eq : sOk (R := R) s26 26 := onS_eq (fun _ _ _ _ => rfl) tu26
noncomputable abbrev kt32 : Int → Option R := (fun z0 => K [zi z0] [])
abbrev aa32 : List Sh := [zv, zv, zv]
abbrev ab32 : List RSh := []
noncomputable def g32 (k : Nat) (v : Sh.D.DL aa32 × RSh.DL ab32) (K : KT R) : Option R := f32 k v.1.1 v.1.2.1 v.1.2.2.1 (kt32 K)
noncomputable abbrev E32 := ending T Tryz.f32 an32 0 K
noncomputable def S32 := pickS (R := R) [(26, s26)]
theorem S32_eq : ∀ k, S32 (R := R) k = callC T F k := pickS_eq ⟨s26_eq, trivial⟩
theorem tu32 : tOk (R := R) 32 aa32 ab32 g32 := by
  intro k x y K
  unfold g32
  rw [f32_def]
  cases k with
  | zero => rfl
  | succ k => exact eS Tryz.f32 an32 0 12 L0 [] (by kernel_rfl) (S32_eq k) (by kernel_rfl) trivial (by kernel_rfl)
noncomputable def s32 := onS (R := R) aa32 ab32 g32 (fun k => callC T F k 32)
theorem s32_eq : sOk (R := R) s32 32 := onS_eq (fun _ _ _ _ => rfl) tu32
noncomputable abbrev kt33 : Int → Option R := (fun z0 => K [zi z0] [])
abbrev aa33 : List Sh := [.val [(0, 0)] zT2]
abbrev ab33 : List RSh := []
noncomputable def g33 (k : Nat) (v : Sh.D.DL aa33 × RSh.DL ab33) (K : KT R) : Option R := f33 k v.1.1 (kt33 K)
noncomputable abbrev E33 := ending T Tryz.f33 an33 0 K
noncomputable def S33 := pickS (R := R) []
theorem S33_eq : ∀ k, S33 (R := R) k = callC T F k := pickS_eq trivial
theorem tu33 : tOk (R := R) 33 aa33 ab33 g33 := by
  intro k x y K
  unfold g33
  rw [f33_def]
  cases k with
  | zero => rfl
  | succ k => exact eS Tryz.f33 an33 0 11 L0 [] (by kernel_rfl) (S33_eq k) (by kernel_rfl) trivial (by kernel_rfl)
noncomputable def s33 := onS (R := R) aa33 ab33 g33 (fun k => callC T F k 33)
theorem s33_eq : sOk (R := R) s33 33 := onS_eq (fun _ _ _ _ => rfl) tu33
noncomputable abbrev kt31 : Int → Option R := (fun z0 => K [zi z0] [])
abbrev aa31 : List Sh := [.val [(0, 0)] zP3]
abbrev ab31 : List RSh := []
noncomputable def g31 (k : Nat) (v : Sh.D.DL aa31 × RSh.DL ab31) (K : KT R) : Option R := f31 k v.1.1 (kt31 K)
noncomputable abbrev E31 := ending T Tryz.f31 an31 0 K
noncomputable def S31 := pickS (R := R) []
theorem S31_eq : ∀ k, S31 (R := R) k = callC T F k := pickS_eq trivial
noncomputable abbrev I31_0 : Option R := inner T an31 (modesOf F) 0 k 15 (S31 k) (E31 K) cd31_0 (sh sp31_0 ws rs) N X
abbrev aa31_0 : List Sh := [.val [(0, 0)] zP3, zv, zv]
abbrev ab31_0 : List RSh := []
noncomputable def L31_0 : Option R :=
  onShape aa31_0 ab31_0 (fun v => f31_0 k (kt31 K) (N (sh jn31_0 [] [])) v.1.1 v.1.2.1 k v.1.2.2.1) (I31_0 k K ws rs N X) ws rs
noncomputable def L31 : Option R := bif id == 0 then L31_0 k K ws rs N X else none
theorem i31_0 (c0 : List Int) (c1 : Int) (m : Nat) : ∀ (c2 : Int),
    iter (atHead an31 0 bd31_0) m (fun st N' => exec T an31 (modesOf F) 0 k 15 (S31 k) (E31 K) bd31_0 st N' (outX an31 0 0 N X)) (sh sp31_0 [.val [(0, 0)] zP3 c0, zi c1, zi c2] []) = f31_0d k (kt31 K) (N (sh jn31_0 [] [])) c0 c1 m c2 := by
  induction m with
  | zero => intros; rfl
  | succ m ih =>
    intro c2
    simp only [iter]
    rw [← execS_eq T an31 (modesOf F) 0 k 15 (S31 k) (L31 k K) bd31_0 (cuts_of _ _ _ _ _ _ _ _ bd31_0 (l := []) (by kernel_rfl) trivial)]
    have h := fx1 ih
    simp only [f31_0d]
    rw [← h]
    show _ = _
    kernel_rfl
theorem l31_0 : L31 k K 0 ws rs N X = I31_0 k K ws rs N X := by
  show L31_0 k K ws rs N X = _
  unfold L31_0
  rw [f31_0_def]
  exact onShape_eq (a := aa31_0) (b := ab31_0) (G := fun ws rs => I31_0 k K ws rs N X) (fun x y => Eq.trans (by kernel_rfl) (Eq.trans (i31_0 k K N X x.1 x.2.1 k x.2.2.1).symm (by kernel_rfl))) ws rs
theorem tu31 : tOk (R := R) 31 aa31 ab31 g31 := by
  intro k x y K
  unfold g31
  rw [f31_def]
  cases k with
  | zero => rfl
  | succ k => exact eS Tryz.f31 an31 0 15 (L31 k K) [(0, sp31_0, cd31_0)] (by kernel_rfl) (S31_eq k) (by kernel_rfl) ⟨l31_0 k K, trivial⟩ (by kernel_rfl)
noncomputable def s31 := onS (R := R) aa31 ab31 g31 (fun k => callC T F k 31)
theorem s31_eq : sOk (R := R) s31 31 := onS_eq (fun _ _ _ _ => rfl) tu31
noncomputable abbrev kt34 : List Int → Option R := (fun z0 => K [.rw 1] [zr0 z0])
abbrev aa34 : List Sh := [.val [] (.int .u64)]
abbrev ab34 : List RSh := []
noncomputable def g34 (k : Nat) (v : Sh.D.DL aa34 × RSh.DL ab34) (K : KT R) : Option R := f34 k v.1.1 (kt34 K)
noncomputable abbrev E34 := ending T Tryz.f34 an34 0 K
noncomputable def S34 := pickS (R := R) []
theorem S34_eq : ∀ k, S34 (R := R) k = callC T F k := pickS_eq trivial
noncomputable abbrev I34_0 : Option R := inner T an34 (modesOf F) 0 k 17 (S34 k) (E34 K) cd34_0 (sh sp34_0 ws rs) N X
abbrev aa34_0 : List Sh := [.val [] (.int .u64), .rw 1, zv]
abbrev ab34_0 : List RSh := [.arr [] (.int .u8)]
noncomputable def L34_0 : Option R :=
  onShape aa34_0 ab34_0 (fun v => f34_0 k (fun p0 => N (sh jn34_0 [.rw 1] [zr0 p0])) v.1.1 k v.1.2.2.1 v.2.1) (I34_0 k K ws rs N X) ws rs
noncomputable def L34 : Option R := bif id == 0 then L34_0 k K ws rs N X else none
theorem i34_0 (c0 : Int) (m : Nat) : ∀ (c1 : Int) (c2 : List Int),
    iter (atHead an34 0 bd34_0) m (fun st N' => exec T an34 (modesOf F) 0 k 17 (S34 k) (E34 K) bd34_0 st N' (outX an34 0 0 N X)) (sh sp34_0 [.val [] (.int .u64) c0, .rw 1, zi c1] [zr0 c2]) = f34_0d k (fun p0 => N (sh jn34_0 [.rw 1] [zr0 p0])) c0 m c1 c2 := by
  induction m with
  | zero => intros; rfl
  | succ m ih =>
    intro c1 c2
    simp only [iter]
    rw [← execS_eq T an34 (modesOf F) 0 k 17 (S34 k) (L34 k K) bd34_0 (cuts_of _ _ _ _ _ _ _ _ bd34_0 (l := []) (by kernel_rfl) trivial)]
    have h := fx2 ih
    simp only [f34_0d]
    rw [← h]
    show _ = _
    kernel_rfl
theorem l34_0 : L34 k K 0 ws rs N X = I34_0 k K ws rs N X := by
  show L34_0 k K ws rs N X = _
  unfold L34_0
  rw [f34_0_def]
  exact onShape_eq (a := aa34_0) (b := ab34_0) (G := fun ws rs => I34_0 k K ws rs N X) (fun x y => Eq.trans (by kernel_rfl) (Eq.trans (i34_0 k K N X x.1 k x.2.2.1 y.1).symm (by kernel_rfl))) ws rs
theorem tu34 : tOk (R := R) 34 aa34 ab34 g34 := by
  intro k x y K
  unfold g34
  rw [f34_def]
  cases k with
  | zero => rfl
  | succ k => exact eS Tryz.f34 an34 0 17 (L34 k K) [(0, sp34_0, cd34_0)] (by kernel_rfl) (S34_eq k) (by kernel_rfl) ⟨l34_0 k K, trivial⟩ (by kernel_rfl)
noncomputable def s34 := onS (R := R) aa34 ab34 g34 (fun k => callC T F k 34)
theorem s34_eq : sOk (R := R) s34 34 := onS_eq (fun _ _ _ _ => rfl) tu34
noncomputable abbrev kt106 : List Int → Option R := (fun z0 => K [.rw 1] [zr0 z0])
abbrev aa106 : List Sh := [.nils, zv]
abbrev ab106 : List RSh := []
noncomputable def g106 (k : Nat) (v : Sh.D.DL aa106 × RSh.DL ab106) (K : KT R) : Option R := f106 k v.1.2.1 (kt106 K)
noncomputable abbrev E106 := ending T Tryz.f106 an106 0 K
noncomputable def S106 := pickS (R := R) []
theorem S106_eq : ∀ k, S106 (R := R) k = callC T F k := pickS_eq trivial
noncomputable abbrev I106_1000002 : Option R := inner T an106 (modesOf F) 0 k 27 (S106 k) (E106 K) cd106_1000002 (sh sp106_1000002 ws rs) N X
abbrev aa106_1000002 : List Sh := [.nils, zv, .val [] .bool]
abbrev ab106_1000002 : List RSh := []
noncomputable def L106_1000002 : Option R :=
  onShape aa106_1000002 ab106_1000002 (fun v => f106_1000002 k (N (sh fi106_2 [.nils, zi v.1.2.1] [])) v.1.2.2.1) (I106_1000002 k K ws rs N X) ws rs
noncomputable abbrev I106_1000005 : Option R := inner T an106 (modesOf F) 0 k 27 (S106 k) (E106 K) cd106_1000005 (sh sp106_1000005 ws rs) N X
abbrev aa106_1000005 : List Sh := [.nils, zv, .val [] .bool]
abbrev ab106_1000005 : List RSh := []
noncomputable def L106_1000005 : Option R :=
  onShape aa106_1000005 ab106_1000005 (fun v => f106_1000005 k (fun p0 => N (sh fi106_5 [.rw 1] [zr0 p0])) v.1.2.1 v.1.2.2.1) (I106_1000005 k K ws rs N X) ws rs
noncomputable def L106 : Option R := bif id == 1000002 then L106_1000002 k K ws rs N X else bif id == 1000005 then L106_1000005 k K ws rs N X else none
theorem l106_1000002 : L106 k K 1000002 ws rs N X = I106_1000002 k K ws rs N X := by
  show L106_1000002 k K ws rs N X = _
  unfold L106_1000002
  rw [f106_1000002_def]
  exact lC (L106 k K) [] (by kernel_rfl) trivial fun x y => by kernel_rfl
theorem l106_1000005 : L106 k K 1000005 ws rs N X = I106_1000005 k K ws rs N X := by
  show L106_1000005 k K ws rs N X = _
  unfold L106_1000005
  rw [f106_1000005_def]
  exact lC (L106 k K) [] (by kernel_rfl) trivial fun x y => by kernel_rfl
theorem tu106 : tOk (R := R) 106 aa106 ab106 g106 := by
  intro k x y K
  unfold g106
  rw [f106_def]
  cases k with
  | zero => rfl
  | succ k => exact eS Tryz.f106 an106 0 27 (L106 k K) [(1000002, sp106_1000002, cd106_1000002), (1000005, sp106_1000005, cd106_1000005)] (by kernel_rfl) (S106_eq k) (by kernel_rfl) ⟨l106_1000002 k K, l106_1000005 k K, trivial⟩ (by kernel_rfl)
noncomputable def s106 := onS (R := R) aa106 ab106 g106 (fun k => callC T F k 106)
theorem s106_eq : sOk (R := R) s106 106 := onS_eq (fun _ _ _ _ => rfl) tu106
noncomputable abbrev kt70 : List Int → Option R := (fun z0 => K [.rw 1] [zr0 z0])
abbrev aa70 : List Sh := [.val [(0, 0)] (.slice zT2)]
abbrev ab70 : List RSh := []
noncomputable def g70 (k : Nat) (v : Sh.D.DL aa70 × RSh.DL ab70) (K : KT R) : Option R := f70 k v.1.1 (kt70 K)
noncomputable abbrev E70 := ending T Tryz.f70 an70 0 K
noncomputable def S70 := pickS (R := R) [(106, s106)]
theorem S70_eq : ∀ k, S70 (R := R) k = callC T F k := pickS_eq ⟨s106_eq, trivial⟩
noncomputable abbrev I70_1000007 : Option R := inner T an70 (modesOf F) 0 k 36 (S70 k) (E70 K) cd70_1000007 (sh sp70_1000007 ws rs) N X
abbrev aa70_1000007 : List Sh := [.val [(0, 0)] (.slice zT2), zv, .val [(0, 0)] (.slice zT2), zv, zv, .val [] .bool]
abbrev ab70_1000007 : List RSh := []
noncomputable def L70_1000007 : Option R :=
  onShape aa70_1000007 ab70_1000007 (fun v => f70_1000007 k (N (sh fi70_7 [.val [(0, 0)] (.slice zT2) v.1.1, zi v.1.2.1, .val [(0, 0)] (.slice zT2) v.1.2.2.1, zi v.1.2.2.2.1, zi v.1.2.2.2.2.1] [])) v.1.2.2.2.2.2.1) (I70_1000007 k K ws rs N X) ws rs
noncomputable abbrev I70_0 : Option R := inner T an70 (modesOf F) 0 k 36 (S70 k) (E70 K) cd70_0 (sh sp70_0 ws rs) N X
abbrev aa70_0 : List Sh := [.val [(0, 0)] (.slice zT2), zv, .val [(0, 0)] (.slice zT2), zv, zv]
abbrev ab70_0 : List RSh := []
noncomputable def L70_0 : Option R :=
  onShape aa70_0 ab70_0 (fun v => f70_0 k (fun p1 => N (sh jn70_0 [.val [(0, 0)] (.slice zT2) v.1.1, zi p1] [])) v.1.1 v.1.2.2.1 v.1.2.2.2.1 k v.1.2.1 v.1.2.2.2.2.1) (I70_0 k K ws rs N X) ws rs
noncomputable abbrev I70_2 : Option R := inner T an70 (modesOf F) 0 k 36 (S70 k) (E70 K) cd70_2 (sh sp70_2 ws rs) N X
abbrev aa70_2 : List Sh := [.rw 1, .val [(0, 0)] (.slice zT2), zv, zv]
abbrev ab70_2 : List RSh := [.arr [] (.int .u8)]
noncomputable def L70_2 : Option R :=
  onShape aa70_2 ab70_2 (fun v => f70_2 k (fun p0 => N (sh jn70_2 [.rw 1] [zr0 p0])) v.1.2.1 v.1.2.2.1 k v.1.2.2.2.1 v.2.1) (I70_2 k K ws rs N X) ws rs
noncomputable def L70 : Option R := bif id == 1000007 then L70_1000007 k K ws rs N X else bif id == 0 then L70_0 k K ws rs N X else bif id == 2 then L70_2 k K ws rs N X else none
theorem l70_1000007 : L70 k K 1000007 ws rs N X = I70_1000007 k K ws rs N X := by
  show L70_1000007 k K ws rs N X = _
  unfold L70_1000007
  rw [f70_1000007_def]
  exact lC (L70 k K) [] (by kernel_rfl) trivial fun x y => by kernel_rfl
theorem i70_0 (c0 c2 : List (List Int)) (c3 : Int) (m : Nat) : ∀ (c1 c4 : Int),
    iter (atHead an70 0 bd70_0) m (fun st N' => exec T an70 (modesOf F) 0 k 36 (S70 k) (E70 K) bd70_0 st N' (outX an70 0 0 N X)) (sh sp70_0 [.val [(0, 0)] (.slice zT2) c0, zi c1, .val [(0, 0)] (.slice zT2) c2, zi c3, zi c4] []) = f70_0d k (fun p1 => N (sh jn70_0 [.val [(0, 0)] (.slice zT2) c0, zi p1] [])) c0 c2 c3 m c1 c4 := by
  induction m with
  | zero => intros; rfl
  | succ m ih =>
    intro c1 c4
    simp only [iter]
    rw [← execS_eq T an70 (modesOf F) 0 k 36 (S70 k) (L70 k K) bd70_0 (cuts_of _ _ _ _ _ _ _ _ bd70_0 (l := [(1000007, sp70_1000007, cd70_1000007)]) (by kernel_rfl) ⟨l70_1000007 k K, trivial⟩)]
    have h := fx2 ih
    simp only [f70_0d]
    rw [← h]
    show _ = _
    kernel_rfl
theorem l70_0 : L70 k K 0 ws rs N X = I70_0 k K ws rs N X := by
  show L70_0 k K ws rs N X = _
  unfold L70_0
  rw [f70_0_def]
  exact onShape_eq (a := aa70_0) (b := ab70_0) (G := fun ws rs => I70_0 k K ws rs N X) (fun x y => Eq.trans (by kernel_rfl) (Eq.trans (i70_0 k K N X x.1 x.2.2.1 x.2.2.2.1 k x.2.1 x.2.2.2.2.1).symm (by kernel_rfl))) ws rs
theorem i70_2 (c0 : List (List Int)) (c1 : Int) (m : Nat) : ∀ (c2 : Int) (c3 : List Int),
    iter (atHead an70 0 bd70_2) m (fun st N' => exec T an70 (modesOf F) 0 k 36 (S70 k) (E70 K) bd70_2 st N' (outX an70 0 2 N X)) (sh sp70_2 [.rw 1, .val [(0, 0)] (.slice zT2) c0, zi c1, zi c2] [zr0 c3]) = f70_2d k (fun p0 => N (sh jn70_2 [.rw 1] [zr0 p0])) c0 c1 m c2 c3 := by
  induction m with
  | zero => intros; rfl
  | succ m ih =>
    intro c2 c3
    simp only [iter]
    rw [← execS_eq T an70 (modesOf F) 0 k 36 (S70 k) (L70 k K) bd70_2 (cuts_of _ _ _ _ _ _ _ _ bd70_2 (l := []) (by kernel_rfl) trivial)]
    have h := fx2 ih
    simp only [f70_2d]
    rw [← h]
    show _ = _
    kernel_rfl
theorem l70_2 : L70 k K 2 ws rs N X = I70_2 k K ws rs N X := by
  show L70_2 k K ws rs N X = _
  unfold L70_2
  rw [f70_2_def]
  exact onShape_eq (a := aa70_2) (b := ab70_2) (G := fun ws rs => I70_2 k K ws rs N X) (fun x y => Eq.trans (by kernel_rfl) (Eq.trans (i70_2 k K N X x.2.1 x.2.2.1 k x.2.2.2.1 y.1).symm (by kernel_rfl))) ws rs
theorem tu70 : tOk (R := R) 70 aa70 ab70 g70 := by
  intro k x y K
  unfold g70
  rw [f70_def]
  cases k with
  | zero => rfl
  | succ k => exact eS Tryz.f70 an70 0 36 (L70 k K) [(0, sp70_0, cd70_0), (2, sp70_2, cd70_2)] (by kernel_rfl) (S70_eq k) (by kernel_rfl) ⟨l70_0 k K, l70_2 k K, trivial⟩ (by kernel_rfl)
noncomputable def s70 := onS (R := R) aa70 ab70 g70 (fun k => callC T F k 70)
theorem s70_eq : sOk (R := R) s70 70 := onS_eq (fun _ _ _ _ => rfl) tu70
noncomputable abbrev kt35 : Int → Option R := (fun z0 => K [.val [] (.int .u64) z0] [])
abbrev aa35 : List Sh := [zv, .val [(0, 0)] zT2]
abbrev ab35 : List RSh := []
noncomputable def g35 (k : Nat) (v : Sh.D.DL aa35 × RSh.DL ab35) (K : KT R) : Option R := f35 k v.1.1 v.1.2.1 (kt35 K)
noncomputable abbrev E35 := ending T Tryz.f35 an35 0 K
noncomputable def S35 := pickS (R := R) [(34, s34), (70, s70)]
theorem S35_eq : ∀ k, S35 (R := R) k = callC T F k := pickS_eq ⟨s34_eq, s70_eq, trivial⟩
noncomputable abbrev I35_0 : Option R := inner T an35 (modesOf F) 0 k 29 (S35 k) (E35 K) cd35_0 (sh sp35_0 ws rs) N X
abbrev aa35_0 : List Sh := [.val [] (.int .u64), .rw 1, zv, zv]
abbrev ab35_0 : List RSh := [.arr [] (.int .u8)]
noncomputable def L35_0 : Option R :=
  onShape aa35_0 ab35_0 (fun v => f35_0 k (fun p0 => N (sh jn35_0 [.val [] (.int .u64) p0] [])) v.1.2.2.1 v.2.1 k v.1.1 v.1.2.2.2.1) (I35_0 k K ws rs N X) ws rs
noncomputable def L35 : Option R := bif id == 0 then L35_0 k K ws rs N X else none
theorem i35_0 (c1 : Int) (c3 : List Int) (m : Nat) : ∀ (c0 c2 : Int),
    iter (atHead an35 0 bd35_0) m (fun st N' => exec T an35 (modesOf F) 0 k 29 (S35 k) (E35 K) bd35_0 st N' (outX an35 0 0 N X)) (sh sp35_0 [.val [] (.int .u64) c0, .rw 1, zi c1, zi c2] [zr0 c3]) = f35_0d k (fun p0 => N (sh jn35_0 [.val [] (.int .u64) p0] [])) c1 c3 m c0 c2 := by
  induction m with
  | zero => intros; rfl
  | succ m ih =>
    intro c0 c2
    simp only [iter]
    rw [← execS_eq T an35 (modesOf F) 0 k 29 (S35 k) (L35 k K) bd35_0 (cuts_of _ _ _ _ _ _ _ _ bd35_0 (l := []) (by kernel_rfl) trivial)]
    have h := fx2 ih
    simp only [f35_0d]
    rw [← h]
    show _ = _
    kernel_rfl
theorem l35_0 : L35 k K 0 ws rs N X = I35_0 k K ws rs N X := by
  show L35_0 k K ws rs N X = _
  unfold L35_0
  rw [f35_0_def]
  exact onShape_eq (a := aa35_0) (b := ab35_0) (G := fun ws rs => I35_0 k K ws rs N X) (fun x y => Eq.trans (by kernel_rfl) (Eq.trans (i35_0 k K N X x.2.2.1 y.1 k x.1 x.2.2.2.1).symm (by kernel_rfl))) ws rs
theorem tu35 : tOk (R := R) 35 aa35 ab35 g35 := by
  intro k x y K
  unfold g35
  rw [f35_def]
  cases k with
  | zero => rfl
  | succ k => exact eS Tryz.f35 an35 0 29 (L35 k K) [(0, sp35_0, cd35_0)] (by kernel_rfl) (S35_eq k) (by kernel_rfl) ⟨l35_0 k K, trivial⟩ (by kernel_rfl)
noncomputable def s35 := onS (R := R) aa35 ab35 g35 (fun k => callC T F k 35)
theorem s35_eq : sOk (R := R) s35 35 := onS_eq (fun _ _ _ _ => rfl) tu35
noncomputable abbrev kt12 : Int → List Int → Option R := (fun z0 z1 => K [.rw 1, zi z0] [zr0 z1])
abbrev aa12 : List Sh := [zv, zv, .val [(0, 0)] zT2]
abbrev ab12 : List RSh := []
noncomputable def g12 (k : Nat) (v : Sh.D.DL aa12 × RSh.DL ab12) (K : KT R) : Option R := f12 k v.1.1 v.1.2.1 v.1.2.2.1 (kt12 K)
noncomputable abbrev E12 := ending T Tryz.f12 an12 0 K
noncomputable def S12 := pickS (R := R) [(31, s31), (32, s32), (33, s33), (34, s34), (35, s35)]
theorem S12_eq : ∀ k, S12 (R := R) k = callC T F k := pickS_eq ⟨s31_eq, s32_eq, s33_eq, s34_eq, s35_eq, trivial⟩
theorem tu12 : tOk (R := R) 12 aa12 ab12 g12 := by
  intro k x y K
  unfold g12
  rw [f12_def]
  cases k with
  | zero => rfl
  | succ k => exact eS Tryz.f12 an12 0 32 L0 [] (by kernel_rfl) (S12_eq k) (by kernel_rfl) trivial (by kernel_rfl)
noncomputable def s12 := onS (R := R) aa12 ab12 g12 (fun k => callC T F k 12)
theorem s12_eq : sOk (R := R) s12 12 := onS_eq (fun _ _ _ _ => rfl) tu12
noncomputable abbrev kt24 : Int → Option R := (fun z0 => K [zi z0] [])
abbrev aa24 : List Sh := [.agg [zv, zv, zv, zv, zv]]
abbrev ab24 : List RSh := []
noncomputable def g24 (k : Nat) (v : Sh.D.DL aa24 × RSh.DL ab24) (K : KT R) : Option R := f24 k v.1.1.1 v.1.1.2.1 v.1.1.2.2.1 v.1.1.2.2.2.1 v.1.1.2.2.2.2.1 (kt24 K)
noncomputable abbrev E24 := ending T Tryz.f24 an24 0 K
noncomputable def S24 := pickS (R := R) [(26, s26)]
theorem S24_eq : ∀ k, S24 (R := R) k = callC T F k := pickS_eq ⟨s26_eq, trivial⟩
theorem tu24 : tOk (R := R) 24 aa24 ab24 g24 := by
  intro k x y K
  unfold g24
  rw [f24_def]
  cases k with
  | zero => rfl
  | succ k => exact eS Tryz.f24 an24 0 31 L0 [] (by kernel_rfl) (S24_eq k) (by kernel_rfl) trivial (by kernel_rfl)
noncomputable def s24 := onS (R := R) aa24 ab24 g24 (fun k => callC T F k 24)
theorem s24_eq : sOk (R := R) s24 24 := onS_eq (fun _ _ _ _ => rfl) tu24
noncomputable abbrev kt92 : Bool → Option R := (fun z0 => K [.val [] .bool z0] [])
abbrev aa92 : List Sh := [.val [] .str]
abbrev ab92 : List RSh := []
noncomputable def g92 (k : Nat) (v : Sh.D.DL aa92 × RSh.DL ab92) (K : KT R) : Option R := f92 k v.1.1 (kt92 K)
noncomputable abbrev E92 := ending T Tryz.f92 an92 0 K
noncomputable def S92 := pickS (R := R) []
theorem S92_eq : ∀ k, S92 (R := R) k = callC T F k := pickS_eq trivial
noncomputable abbrev I92_0 : Option R := inner T an92 (modesOf F) 0 k 47 (S92 k) (E92 K) cd92_0 (sh sp92_0 ws rs) N X
abbrev aa92_0 : List Sh := [.val [] .str, zv, zv]
abbrev ab92_0 : List RSh := []
noncomputable def L92_0 : Option R :=
  onShape aa92_0 ab92_0 (fun v => f92_0 k (kt92 K) (N (sh jn92_0 [] [])) v.1.1 v.1.2.1 k v.1.2.2.1) (I92_0 k K ws rs N X) ws rs
noncomputable def L92 : Option R := bif id == 0 then L92_0 k K ws rs N X else none
theorem i92_0 (c0 : ByteArray) (c1 : Int) (m : Nat) : ∀ (c2 : Int),
    iter (atHead an92 0 bd92_0) m (fun st N' => exec T an92 (modesOf F) 0 k 47 (S92 k) (E92 K) bd92_0 st N' (outX an92 0 0 N X)) (sh sp92_0 [.val [] .str c0, zi c1, zi c2] []) = f92_0d k (kt92 K) (N (sh jn92_0 [] [])) c0 c1 m c2 := by
  induction m with
  | zero => intros; rfl
  | succ m ih =>
    intro c2
    simp only [iter]
    rw [← execS_eq T an92 (modesOf F) 0 k 47 (S92 k) (L92 k K) bd92_0 (cuts_of _ _ _ _ _ _ _ _ bd92_0 (l := []) (by kernel_rfl) trivial)]
    have h := fx1 ih
    simp only [f92_0d]
    rw [← h]
    show _ = _
    kernel_rfl
theorem l92_0 : L92 k K 0 ws rs N X = I92_0 k K ws rs N X := by
  show L92_0 k K ws rs N X = _
  unfold L92_0
  rw [f92_0_def]
  exact onShape_eq (a := aa92_0) (b := ab92_0) (G := fun ws rs => I92_0 k K ws rs N X) (fun x y => Eq.trans (by kernel_rfl) (Eq.trans (i92_0 k K N X x.1 x.2.1 k x.2.2.1).symm (by kernel_rfl))) ws rs
theorem tu92 : tOk (R := R) 92 aa92 ab92 g92 := by
  intro k x y K
  unfold g92
  rw [f92_def]
  cases k with
  | zero => rfl
  | succ k => exact eS Tryz.f92 an92 0 47 (L92 k K) [(0, sp92_0, cd92_0)] (by kernel_rfl) (S92_eq k) (by kernel_rfl) ⟨l92_0 k K, trivial⟩ (by kernel_rfl)
noncomputable def s92 := onS (R := R) aa92 ab92 g92 (fun k => callC T F k 92)
theorem s92_eq : sOk (R := R) s92 92 := onS_eq (fun _ _ _ _ => rfl) tu92
noncomputable abbrev kt59 : Int → Option R := (fun z0 => K [zi z0] [])
abbrev aa59 : List Sh := [zv, .val [] .str, .val [(0, 0)] zT2]
abbrev ab59 : List RSh := []
noncomputable def g59 (k : Nat) (v : Sh.D.DL aa59 × RSh.DL ab59) (K : KT R) : Option R := f59 k v.1.1 v.1.2.1 v.1.2.2.1 (kt59 K)
noncomputable abbrev E59 := ending T Tryz.f59 an59 0 K
noncomputable def S59 := pickS (R := R) [(26, s26), (92, s92)]
theorem S59_eq : ∀ k, S59 (R := R) k = callC T F k := pickS_eq ⟨s26_eq, s92_eq, trivial⟩
theorem tu59 : tOk (R := R) 59 aa59 ab59 g59 := by
  intro k x y K
  unfold g59
  rw [f59_def]
  cases k with
  | zero => rfl
  | succ k => exact eS Tryz.f59 an59 0 19 L0 [] (by kernel_rfl) (S59_eq k) (by kernel_rfl) trivial (by kernel_rfl)
noncomputable def s59 := onS (R := R) aa59 ab59 g59 (fun k => callC T F k 59)
theorem s59_eq : sOk (R := R) s59 59 := onS_eq (fun _ _ _ _ => rfl) tu59
noncomputable abbrev kt43 : List Int → Option R := (fun z0 => K [.rw 1] [zr0 z0])
abbrev aa43 : List Sh := [.val [(0, 0)] zT2]
abbrev ab43 : List RSh := []
noncomputable def g43 (k : Nat) (v : Sh.D.DL aa43 × RSh.DL ab43) (K : KT R) : Option R := f43 k v.1.1 (kt43 K)
theorem e43 (k : Nat) (a0 : List Int) (K : KT R) : callC T F k 43 [.val [(0, 0)] zT2 a0] [] K = f43 k a0 (kt43 K) := by
  rw [f43_def]
  cases k with
  | zero => rfl
  | succ k => exact clone_call (m := [.lend (.int .u8)]) (ty := (.int .u8)) (bytes := 1) (by kernel_rfl) a0 K
theorem tu43 : tOk (R := R) 43 aa43 ab43 g43 := fun k x y K => e43 k x.1 K
noncomputable def s43 := onS (R := R) aa43 ab43 g43 (fun k => callC T F k 43)
theorem s43_eq : sOk (R := R) s43 43 := onS_eq (fun _ _ _ _ => rfl) tu43
noncomputable abbrev kt25 : zK0 R := (fun z0 z1 z2 z3 z4 z5 z6 z7 => K [.agg [zi z0, zi z1, .val [] .str z2, .rw 1, zi z3, .nils, zi z4, zi z5], zi z6] [zr0 z7])
abbrev aa25 : List Sh := [zv, .val [] .str, .val [(0, 0)] zT2]
abbrev ab25 : List RSh := []
noncomputable def g25 (k : Nat) (v : Sh.D.DL aa25 × RSh.DL ab25) (K : KT R) : Option R := f25 k v.1.1 v.1.2.1 v.1.2.2.1 (kt25 K)
noncomputable abbrev E25 := ending T Tryz.f25 an25 0 K
noncomputable def S25 := pickS (R := R) [(43, s43), (59, s59)]
theorem S25_eq : ∀ k, S25 (R := R) k = callC T F k := pickS_eq ⟨s43_eq, s59_eq, trivial⟩
theorem tu25 : tOk (R := R) 25 aa25 ab25 g25 := by
  intro k x y K
  unfold g25
  rw [f25_def]
  cases k with
  | zero => rfl
  | succ k => exact eS Tryz.f25 an25 0 22 L0 [] (by kernel_rfl) (S25_eq k) (by kernel_rfl) trivial (by kernel_rfl)
noncomputable def s25 := onS (R := R) aa25 ab25 g25 (fun k => callC T F k 25)
theorem s25_eq : sOk (R := R) s25 25 := onS_eq (fun _ _ _ _ => rfl) tu25
noncomputable abbrev kt27 : Int → Int → ByteArray → Int → Int → Int → Int → Int → Option R := (fun z0 z1 z2 z3 z4 z5 z6 z7 => K [.agg [zi z0, zi z1, .val [] .str z2, .nils, .nils, zi z3, zi z4, zi z5, zi z6], zi z7] [])
abbrev aa27 : List Sh := [zv]
abbrev ab27 : List RSh := []
noncomputable def g27 (k : Nat) (v : Sh.D.DL aa27 × RSh.DL ab27) (K : KT R) : Option R := f27 k v.1.1 (kt27 K)
noncomputable abbrev E27 := ending T Tryz.f27 an27 0 K
noncomputable def S27 := pickS (R := R) [(26, s26)]
theorem S27_eq : ∀ k, S27 (R := R) k = callC T F k := pickS_eq ⟨s26_eq, trivial⟩
theorem tu27 : tOk (R := R) 27 aa27 ab27 g27 := by
  intro k x y K
  unfold g27
  rw [f27_def]
  cases k with
  | zero => rfl
  | succ k => exact eS Tryz.f27 an27 0 10 L0 [] (by kernel_rfl) (S27_eq k) (by kernel_rfl) trivial (by kernel_rfl)
noncomputable def s27 := onS (R := R) aa27 ab27 g27 (fun k => callC T F k 27)
theorem s27_eq : sOk (R := R) s27 27 := onS_eq (fun _ _ _ _ => rfl) tu27
noncomputable abbrev kt60 : zK1 R := (fun z0 z1 z2 z3 z4 z5 z6 z7 z8 z9 z10 z11 z12 z13 z14 z15 z16 z17 z18 z19 z20 z21 z22 z23 z24 z25 z26 z27 z28 z29 => K [.rw 6] [zr1 z0 z1 z2 z3 z4 z5 z6 z7 z8 z9 z10 z11 z12 z13 z14 z15 z16 z17 z18 z19 z20 z21 z22 z23 z24 z25 z26, ⟨0, .gone⟩, ⟨0, .gone⟩, zr2 z27, zr2 z28, zr3 z29])
abbrev aa60 : List Sh := [.ptr 1 22, zv]
abbrev ab60 : List RSh := [zs0, .arr [(0, 0)] zP2, .arr [(0, 0)] zP2]
noncomputable def g60 (k : Nat) (v : Sh.D.DL aa60 × RSh.DL ab60) (K : KT R) : Option R := let u0 := v.2.1.2.2.2.2.2.2.2; let u1 := u0.2.2.2.2.2.2.2; let u2 := u1.2.2.2.2.2.2.2; f60 k v.1.2.1 v.2.1.1 v.2.1.2.1 v.2.1.2.2.1 v.2.1.2.2.2.1 v.2.1.2.2.2.2.1 v.2.1.2.2.2.2.2.1 v.2.1.2.2.2.2.2.2.1 v.2.1.2.2.2.2.2.2.2.1 u0.2.1 u0.2.2.1 u0.2.2.2.1 u0.2.2.2.2.1 u0.2.2.2.2.2.1 u0.2.2.2.2.2.2.1 u0.2.2.2.2.2.2.2.1 u1.2.1 u1.2.2.1 u1.2.2.2.1 u1.2.2.2.2.1 u1.2.2.2.2.2.1 u1.2.2.2.2.2.2.1 u1.2.2.2.2.2.2.2.1 u2.2.1 u2.2.2.1 u2.2.2.2.2.1 u2.2.2.2.2.2.1 u2.2.2.2.2.2.2.2.1 v.2.2.1 v.2.2.2.1 (kt60 K)
noncomputable abbrev E60 := ending T Tryz.f60 an60 3 K
noncomputable def S60 := pickS (R := R) []
theorem S60_eq : ∀ k, S60 (R := R) k = callC T F k := pickS_eq trivial
noncomputable abbrev I60_0 : Option R := inner T an60 (modesOf F) 3 k 42 (S60 k) (E60 K) cd60_0 (sh sp60_0 ws rs) N X
abbrev aa60_0 : List Sh := [.ptr 1 22, zv, .rw 6]
abbrev ab60_0 : List RSh := [zs1, .gone, .gone, .arr [(0, 0)] zP2, .arr [(0, 0)] zP2, .arr [(0, 0)] zP0]
noncomputable def L60_0 : Option R :=
  onShape aa60_0 ab60_0 (fun v => let u0 := v.2.1.2.2.2.2.2.2.2; let u1 := u0.2.2.2.2.2.2.2; let u2 := u1.2.2.2.2.2.2.2; f60_0 k (fun p27 p29 => N (sh jn60_0 [.rw 6] [zr1 v.2.1.1 v.2.1.2.1 v.2.1.2.2.1 v.2.1.2.2.2.1 v.2.1.2.2.2.2.1 v.2.1.2.2.2.2.2.1 v.2.1.2.2.2.2.2.2.1 v.2.1.2.2.2.2.2.2.2.1 u0.2.1 u0.2.2.1 u0.2.2.2.1 u0.2.2.2.2.1 u0.2.2.2.2.2.1 u0.2.2.2.2.2.2.1 u0.2.2.2.2.2.2.2.1 u1.2.1 u1.2.2.1 u1.2.2.2.1 u1.2.2.2.2.1 u1.2.2.2.2.2.1 u1.2.2.2.2.2.2.1 u1.2.2.2.2.2.2.2.1 u2.2.1 u2.2.2.1 u2.2.2.2.2.1 u2.2.2.2.2.2.1 u2.2.2.2.2.2.2.2.1, ⟨0, .gone⟩, ⟨0, .gone⟩, zr2 p27, zr2 v.2.2.2.2.2.1, zr3 p29])) v.1.2.1 v.2.1.1 v.2.1.2.1 v.2.1.2.2.1 v.2.1.2.2.2.1 v.2.1.2.2.2.2.1 v.2.1.2.2.2.2.2.1 v.2.1.2.2.2.2.2.2.1 v.2.1.2.2.2.2.2.2.2.1 u0.2.1 u0.2.2.1 u0.2.2.2.1 u0.2.2.2.2.1 u0.2.2.2.2.2.1 u0.2.2.2.2.2.2.1 u0.2.2.2.2.2.2.2.1 u1.2.1 u1.2.2.1 u1.2.2.2.1 u1.2.2.2.2.1 u1.2.2.2.2.2.1 u1.2.2.2.2.2.2.1 u1.2.2.2.2.2.2.2.1 u2.2.1 u2.2.2.1 u2.2.2.2.2.1 u2.2.2.2.2.2.1 u2.2.2.2.2.2.2.2.1 v.2.2.2.2.2.1 k v.2.2.2.2.1 v.2.2.2.2.2.2.1) (I60_0 k K ws rs N X) ws rs
noncomputable def L60 : Option R := bif id == 0 then L60_0 k K ws rs N X else none
theorem i60_0 (c0 c1 c2 c3 c4 c5 c6 c7 : Int) (c8 : ByteArray) (c9 : List Int) (c10 : Int) (c11 : zL5) (c12 c13 c14 c15 : Int) (c16 : ByteArray) (c17 : List Int) (c18 : zL5) (c19 c20 c21 c22 : Int) (c23 : List Bool) (c24 : Int) (c25 : List Bool) (c26 c27 : Int) (c29 : zL1) (m : Nat) : ∀ (c28 : zL1) (c30 : zL3),
    iter (atHead an60 3 bd60_0) m (fun st N' => exec T an60 (modesOf F) 3 k 42 (S60 k) (E60 K) bd60_0 st N' (outX an60 3 0 N X)) (sh sp60_0 [.ptr 1 22, zi c0, .rw 6] [zr1 c1 c2 c3 c4 c5 c6 c7 c8 c9 c10 c11 c12 c13 c14 c15 c16 c17 c18 c19 c20 c21 c22 c23 c24 c25 c26 c27, ⟨0, .gone⟩, ⟨0, .gone⟩, zr2 c28, zr2 c29, zr3 c30]) = f60_0d k (fun p27 p29 => N (sh jn60_0 [.rw 6] [zr1 c1 c2 c3 c4 c5 c6 c7 c8 c9 c10 c11 c12 c13 c14 c15 c16 c17 c18 c19 c20 c21 c22 c23 c24 c25 c26 c27, ⟨0, .gone⟩, ⟨0, .gone⟩, zr2 p27, zr2 c29, zr3 p29])) c0 c1 c2 c3 c4 c5 c6 c7 c8 c9 c10 c11 c12 c13 c14 c15 c16 c17 c18 c19 c20 c21 c22 c23 c24 c25 c26 c27 c29 m c28 c30 := by
  induction m with
  | zero => intros; rfl
  | succ m ih =>
    intro c28 c30
    simp only [iter]
    rw [← execS_eq T an60 (modesOf F) 3 k 42 (S60 k) (L60 k K) bd60_0 (cuts_of _ _ _ _ _ _ _ _ bd60_0 (l := []) (by kernel_rfl) trivial)]
    have h := fx2 ih
    simp only [f60_0d]
    rw [← h]
    show _ = _
    kernel_rfl
theorem l60_0 : L60 k K 0 ws rs N X = I60_0 k K ws rs N X := by
  show L60_0 k K ws rs N X = _
  unfold L60_0
  rw [f60_0_def]
  exact onShape_eq (a := aa60_0) (b := ab60_0) (G := fun ws rs => I60_0 k K ws rs N X) (fun x y => Eq.trans (by kernel_rfl) (Eq.trans (i60_0 k K N X x.2.1 y.1.1 y.1.2.1 y.1.2.2.1 y.1.2.2.2.1 y.1.2.2.2.2.1 y.1.2.2.2.2.2.1 y.1.2.2.2.2.2.2.1 y.1.2.2.2.2.2.2.2.1 y.1.2.2.2.2.2.2.2.2.1 y.1.2.2.2.2.2.2.2.2.2.1 y.1.2.2.2.2.2.2.2.2.2.2.1 y.1.2.2.2.2.2.2.2.2.2.2.2.1 y.1.2.2.2.2.2.2.2.2.2.2.2.2.1 y.1.2.2.2.2.2.2.2.2.2.2.2.2.2.1 y.1.2.2.2.2.2.2.2.2.2.2.2.2.2.2.1 y.1.2.2.2.2.2.2.2.2.2.2.2.2.2.2.2.1 y.1.2.2.2.2.2.2.2.2.2.2.2.2.2.2.2.2.1 y.1.2.2.2.2.2.2.2.2.2.2.2.2.2.2.2.2.2.1 y.1.2.2.2.2.2.2.2.2.2.2.2.2.2.2.2.2.2.2.1 y.1.2.2.2.2.2.2.2.2.2.2.2.2.2.2.2.2.2.2.2.1 y.1.2.2.2.2.2.2.2.2.2.2.2.2.2.2.2.2.2.2.2.2.1 y.1.2.2.2.2.2.2.2.2.2.2.2.2.2.2.2.2.2.2.2.2.2.1 y.1.2.2.2.2.2.2.2.2.2.2.2.2.2.2.2.2.2.2.2.2.2.2.1 y.1.2.2.2.2.2.2.2.2.2.2.2.2.2.2.2.2.2.2.2.2.2.2.2.1 y.1.2.2.2.2.2.2.2.2.2.2.2.2.2.2.2.2.2.2.2.2.2.2.2.2.2.1 y.1.2.2.2.2.2.2.2.2.2.2.2.2.2.2.2.2.2.2.2.2.2.2.2.2.2.2.1 y.1.2.2.2.2.2.2.2.2.2.2.2.2.2.2.2.2.2.2.2.2.2.2.2.2.2.2.2.2.1 y.2.2.2.2.1 k y.2.2.2.1 y.2.2.2.2.2.1).symm (by kernel_rfl))) ws rs
theorem tu60 : tOk (R := R) 60 aa60 ab60 g60 := by
  intro k x y K
  unfold g60
  rw [f60_def]
  cases k with
  | zero => rfl
  | succ k => exact eS Tryz.f60 an60 3 42 (L60 k K) [(0, sp60_0, cd60_0)] (by kernel_rfl) (S60_eq k) (by kernel_rfl) ⟨l60_0 k K, trivial⟩ (by kernel_rfl)
noncomputable def s60 := onS (R := R) aa60 ab60 g60 (fun k => callC T F k 60)
theorem s60_eq : sOk (R := R) s60 60 := onS_eq (fun _ _ _ _ => rfl) tu60
noncomputable abbrev kt93 : Bool → Option R := (fun z0 => K [.val [] .bool z0] [])
abbrev aa93 : List Sh := [.agg [zv, zv, .val [] .str, .val [(0, 0)] zT2, .val [(0, 0)] zT1, zv, zv, zv, zv], .agg [zv, zv, .val [] .str, zv, zv, zv, .val [(0, 0)] zT2, .val [(0, 0)] zT1, .val [] .bool]]
abbrev ab93 : List RSh := []
noncomputable def g93 (k : Nat) (v : Sh.D.DL aa93 × RSh.DL ab93) (K : KT R) : Option R := let u0 := v.1.1.2.2.2.2.2.2.2; let u1 := v.1.2.1.2.2.2.2.2.2.2; f93 k v.1.1.1 v.1.1.2.1 v.1.1.2.2.1 v.1.1.2.2.2.1 v.1.1.2.2.2.2.1 v.1.1.2.2.2.2.2.1 v.1.1.2.2.2.2.2.2.1 v.1.1.2.2.2.2.2.2.2.1 u0.2.1 v.1.2.1.1 v.1.2.1.2.1 v.1.2.1.2.2.1 v.1.2.1.2.2.2.1 v.1.2.1.2.2.2.2.1 v.1.2.1.2.2.2.2.2.1 v.1.2.1.2.2.2.2.2.2.1 v.1.2.1.2.2.2.2.2.2.2.1 u1.2.1 (kt93 K)
noncomputable abbrev E93 := ending T Tryz.f93 an93 0 K
noncomputable def S93 := pickS (R := R) []
theorem S93_eq : ∀ k, S93 (R := R) k = callC T F k := pickS_eq trivial
theorem tu93 : tOk (R := R) 93 aa93 ab93 g93 := by
  intro k x y K
  unfold g93
  rw [f93_def]
  cases k with
  | zero => rfl
  | succ k => exact eS Tryz.f93 an93 0 64 L0 [] (by kernel_rfl) (S93_eq k) (by kernel_rfl) trivial (by kernel_rfl)
noncomputable def s93 := onS (R := R) aa93 ab93 g93 (fun k => callC T F k 93)
theorem s93_eq : sOk (R := R) s93 93 := onS_eq (fun _ _ _ _ => rfl) tu93
noncomputable abbrev kt125 : List Int → Option R := (fun z0 => K [.rw 1] [zr0 z0])
abbrev aa125 : List Sh := [.val [(0, 0)] zT2, zv]
abbrev ab125 : List RSh := []
noncomputable def g125 (k : Nat) (v : Sh.D.DL aa125 × RSh.DL ab125) (K : KT R) : Option R := f125 k v.1.1 v.1.2.1 (kt125 K)
theorem e125 (k : Nat) (a0 : List Int) (a1 : Int) (K : KT R) : callC T F k 125 [.val [(0, 0)] zT2 a0, zi a1] [] K = f125 k a0 a1 (kt125 K) := by
  rw [f125_def]
  cases k with
  | zero => rfl
  | succ k => exact rep_call (m := [.lend (.int .u8), .any]) (by kernel_rfl) [(0, 0)] [] a0 a1 K
theorem tu125 : tOk (R := R) 125 aa125 ab125 g125 := fun k x y K => e125 k x.1 x.2.1 K
noncomputable def s125 := onS (R := R) aa125 ab125 g125 (fun k => callC T F k 125)
theorem s125_eq : sOk (R := R) s125 125 := onS_eq (fun _ _ _ _ => rfl) tu125
noncomputable abbrev kt126 : zL6 → Option R := (fun z0 => K [.rw 1] [zr4 z0])
abbrev aa126 : List Sh := [.val [(0, 0)] zT1, zv]
abbrev ab126 : List RSh := []
noncomputable def g126 (k : Nat) (v : Sh.D.DL aa126 × RSh.DL ab126) (K : KT R) : Option R := f126 k v.1.1 v.1.2.1 (kt126 K)
noncomputable abbrev E126 := ending T Tryz.f126 an126 0 K
noncomputable def S126 := pickS (R := R) []
theorem S126_eq : ∀ k, S126 (R := R) k = callC T F k := pickS_eq trivial
noncomputable abbrev I126_1000007 : Option R := inner T an126 (modesOf F) 0 k 39 (S126 k) (E126 K) cd126_1000007 (sh sp126_1000007 ws rs) N X
abbrev aa126_1000007 : List Sh := [zv, .rw 1, zv, .ptr 2 0, .val [(0, 0)] zT1, zv, zv, .val [] .bool]
abbrev ab126_1000007 : List RSh := [.arr [] zP1, .vars [zv, zv]]
noncomputable def L126_1000007 : Option R :=
  onShape aa126_1000007 ab126_1000007 (fun v => f126_1000007 k (fun p4 => N (sh fi126_7 [zi v.1.1, .rw 1, .ptr 2 0, .val [(0, 0)] zT1 v.1.2.2.2.2.1, zi v.1.2.2.2.2.2.1, zi v.1.2.2.2.2.2.2.1] [zr4 p4, ⟨0, .vars [zi v.2.2.1.1, zi v.2.2.1.2.1]⟩])) v.1.2.2.1 v.1.2.2.2.2.2.2.2.1 v.2.1 v.2.2.1.1) (I126_1000007 k K ws rs N X) ws rs
noncomputable abbrev I126_0 : Option R := inner T an126 (modesOf F) 0 k 39 (S126 k) (E126 K) cd126_0 (sh sp126_0 ws rs) N X
abbrev aa126_0 : List Sh := [zv, .rw 1, zv, .val [(0, 0)] zT1, zv, zv]
abbrev ab126_0 : List RSh := [.arr [] zP1]
noncomputable def L126_0 : Option R :=
  onShape aa126_0 ab126_0 (fun v => f126_0 k (fun p1 p2 => N (sh jn126_0 [zi v.1.1, .rw 1, zi p1] [zr4 p2])) v.1.1 v.1.2.2.2.1 v.1.2.2.2.2.1 k v.1.2.2.1 v.1.2.2.2.2.2.1 v.2.1) (I126_0 k K ws rs N X) ws rs
noncomputable abbrev I126_1000011 : Option R := inner T an126 (modesOf F) 0 k 39 (S126 k) (E126 K) cd126_1000011 (sh sp126_1000011 ws rs) N X
abbrev aa126_1000011 : List Sh := [zv, .rw 1, zv, .val [] .bool]
abbrev ab126_1000011 : List RSh := [.arr [] zP1]
noncomputable def L126_1000011 : Option R :=
  onShape aa126_1000011 ab126_1000011 (fun v => f126_1000011 k (fun p0 => N (sh fi126_11 [.rw 1] [zr4 p0])) v.1.1 v.1.2.2.1 v.1.2.2.2.1 v.2.1) (I126_1000011 k K ws rs N X) ws rs
noncomputable def L126 : Option R := bif id == 1000007 then L126_1000007 k K ws rs N X else bif id == 0 then L126_0 k K ws rs N X else bif id == 1000011 then L126_1000011 k K ws rs N X else none
theorem l126_1000007 : L126 k K 1000007 ws rs N X = I126_1000007 k K ws rs N X := by
  show L126_1000007 k K ws rs N X = _
  unfold L126_1000007
  rw [f126_1000007_def]
  exact lC (L126 k K) [] (by kernel_rfl) trivial fun x y => by kernel_rfl
theorem i126_0 (c0 : Int) (c2 : zL5) (c3 : Int) (m : Nat) : ∀ (c1 c4 : Int) (c5 : zL6),
    iter (atHead an126 0 bd126_0) m (fun st N' => exec T an126 (modesOf F) 0 k 39 (S126 k) (E126 K) bd126_0 st N' (outX an126 0 0 N X)) (sh sp126_0 [zi c0, .rw 1, zi c1, .val [(0, 0)] zT1 c2, zi c3, zi c4] [zr4 c5]) = f126_0d k (fun p1 p2 => N (sh jn126_0 [zi c0, .rw 1, zi p1] [zr4 p2])) c0 c2 c3 m c1 c4 c5 := by
  induction m with
  | zero => intros; rfl
  | succ m ih =>
    intro c1 c4 c5
    simp only [iter]
    rw [← execS_eq T an126 (modesOf F) 0 k 39 (S126 k) (L126 k K) bd126_0 (cuts_of _ _ _ _ _ _ _ _ bd126_0 (l := [(1000007, sp126_1000007, cd126_1000007)]) (by kernel_rfl) ⟨l126_1000007 k K, trivial⟩)]
    have h := fx3 ih
    simp only [f126_0d]
    rw [← h]
    show _ = _
    kernel_rfl
theorem l126_0 : L126 k K 0 ws rs N X = I126_0 k K ws rs N X := by
  show L126_0 k K ws rs N X = _
  unfold L126_0
  rw [f126_0_def]
  exact onShape_eq (a := aa126_0) (b := ab126_0) (G := fun ws rs => I126_0 k K ws rs N X) (fun x y => Eq.trans (by kernel_rfl) (Eq.trans (i126_0 k K N X x.1 x.2.2.2.1 x.2.2.2.2.1 k x.2.2.1 x.2.2.2.2.2.1 y.1).symm (by kernel_rfl))) ws rs
theorem l126_1000011 : L126 k K 1000011 ws rs N X = I126_1000011 k K ws rs N X := by
  show L126_1000011 k K ws rs N X = _
  unfold L126_1000011
  rw [f126_1000011_def]
  exact lC (L126 k K) [] (by kernel_rfl) trivial fun x y => by kernel_rfl
theorem tu126 : tOk (R := R) 126 aa126 ab126 g126 := by
  intro k x y K
  unfold g126
  rw [f126_def]
  cases k with
  | zero => rfl
  | succ k => exact eS Tryz.f126 an126 0 39 (L126 k K) [(0, sp126_0, cd126_0), (1000011, sp126_1000011, cd126_1000011)] (by kernel_rfl) (S126_eq k) (by kernel_rfl) ⟨l126_0 k K, l126_1000011 k K, trivial⟩ (by kernel_rfl)
noncomputable def s126 := onS (R := R) aa126 ab126 g126 (fun k => callC T F k 126)
theorem s126_eq : sOk (R := R) s126 126 := onS_eq (fun _ _ _ _ => rfl) tu126
noncomputable abbrev kt172 : zL6 → Option R := (fun z0 => K [.rw 1] [zr4 z0])
abbrev aa172 : List Sh := [.nils, zv]
abbrev ab172 : List RSh := []
noncomputable def g172 (k : Nat) (v : Sh.D.DL aa172 × RSh.DL ab172) (K : KT R) : Option R := f172 k v.1.2.1 (kt172 K)
noncomputable abbrev E172 := ending T Tryz.f172 an172 0 K
noncomputable def S172 := pickS (R := R) []
theorem S172_eq : ∀ k, S172 (R := R) k = callC T F k := pickS_eq trivial
noncomputable abbrev I172_1000002 : Option R := inner T an172 (modesOf F) 0 k 27 (S172 k) (E172 K) cd172_1000002 (sh sp172_1000002 ws rs) N X
abbrev aa172_1000002 : List Sh := [.nils, zv, .val [] .bool]
abbrev ab172_1000002 : List RSh := []
noncomputable def L172_1000002 : Option R :=
  onShape aa172_1000002 ab172_1000002 (fun v => f172_1000002 k (N (sh fi172_2 [.nils, zi v.1.2.1] [])) v.1.2.2.1) (I172_1000002 k K ws rs N X) ws rs
noncomputable abbrev I172_1000005 : Option R := inner T an172 (modesOf F) 0 k 27 (S172 k) (E172 K) cd172_1000005 (sh sp172_1000005 ws rs) N X
abbrev aa172_1000005 : List Sh := [.nils, zv, .val [] .bool]
abbrev ab172_1000005 : List RSh := []
noncomputable def L172_1000005 : Option R :=
  onShape aa172_1000005 ab172_1000005 (fun v => f172_1000005 k (fun p0 => N (sh fi172_5 [.rw 1] [zr4 p0])) v.1.2.1 v.1.2.2.1) (I172_1000005 k K ws rs N X) ws rs
noncomputable def L172 : Option R := bif id == 1000002 then L172_1000002 k K ws rs N X else bif id == 1000005 then L172_1000005 k K ws rs N X else none
theorem l172_1000002 : L172 k K 1000002 ws rs N X = I172_1000002 k K ws rs N X := by
  show L172_1000002 k K ws rs N X = _
  unfold L172_1000002
  rw [f172_1000002_def]
  exact lC (L172 k K) [] (by kernel_rfl) trivial fun x y => by kernel_rfl
theorem l172_1000005 : L172 k K 1000005 ws rs N X = I172_1000005 k K ws rs N X := by
  show L172_1000005 k K ws rs N X = _
  unfold L172_1000005
  rw [f172_1000005_def]
  exact lC (L172 k K) [] (by kernel_rfl) trivial fun x y => by kernel_rfl
theorem tu172 : tOk (R := R) 172 aa172 ab172 g172 := by
  intro k x y K
  unfold g172
  rw [f172_def]
  cases k with
  | zero => rfl
  | succ k => exact eS Tryz.f172 an172 0 27 (L172 k K) [(1000002, sp172_1000002, cd172_1000002), (1000005, sp172_1000005, cd172_1000005)] (by kernel_rfl) (S172_eq k) (by kernel_rfl) ⟨l172_1000002 k K, l172_1000005 k K, trivial⟩ (by kernel_rfl)
noncomputable def s172 := onS (R := R) aa172 ab172 g172 (fun k => callC T F k 172)
theorem s172_eq : sOk (R := R) s172 172 := onS_eq (fun _ _ _ _ => rfl) tu172
noncomputable abbrev kt153 : zL6 → Option R := (fun z0 => K [.rw 1] [zr4 z0])
abbrev aa153 : List Sh := [.val [(0, 0)] (.slice zT1)]
abbrev ab153 : List RSh := []
noncomputable def g153 (k : Nat) (v : Sh.D.DL aa153 × RSh.DL ab153) (K : KT R) : Option R := f153 k v.1.1 (kt153 K)
noncomputable abbrev E153 := ending T Tryz.f153 an153 0 K
noncomputable def S153 := pickS (R := R) [(172, s172)]
theorem S153_eq : ∀ k, S153 (R := R) k = callC T F k := pickS_eq ⟨s172_eq, trivial⟩
noncomputable abbrev I153_1000007 : Option R := inner T an153 (modesOf F) 0 k 36 (S153 k) (E153 K) cd153_1000007 (sh sp153_1000007 ws rs) N X
abbrev aa153_1000007 : List Sh := [.val [(0, 0)] (.slice zT1), zv, .val [(0, 0)] (.slice zT1), zv, zv, .val [] .bool]
abbrev ab153_1000007 : List RSh := []
noncomputable def L153_1000007 : Option R :=
  onShape aa153_1000007 ab153_1000007 (fun v => f153_1000007 k (N (sh fi153_7 [.val [(0, 0)] (.slice zT1) v.1.1, zi v.1.2.1, .val [(0, 0)] (.slice zT1) v.1.2.2.1, zi v.1.2.2.2.1, zi v.1.2.2.2.2.1] [])) v.1.2.2.2.2.2.1) (I153_1000007 k K ws rs N X) ws rs
noncomputable abbrev I153_0 : Option R := inner T an153 (modesOf F) 0 k 36 (S153 k) (E153 K) cd153_0 (sh sp153_0 ws rs) N X
abbrev aa153_0 : List Sh := [.val [(0, 0)] (.slice zT1), zv, .val [(0, 0)] (.slice zT1), zv, zv]
abbrev ab153_0 : List RSh := []
noncomputable def L153_0 : Option R :=
  onShape aa153_0 ab153_0 (fun v => f153_0 k (fun p1 => N (sh jn153_0 [.val [(0, 0)] (.slice zT1) v.1.1, zi p1] [])) v.1.1 v.1.2.2.1 v.1.2.2.2.1 k v.1.2.1 v.1.2.2.2.2.1) (I153_0 k K ws rs N X) ws rs
noncomputable abbrev I153_2 : Option R := inner T an153 (modesOf F) 0 k 36 (S153 k) (E153 K) cd153_2 (sh sp153_2 ws rs) N X
abbrev aa153_2 : List Sh := [.rw 1, .val [(0, 0)] (.slice zT1), zv, zv]
abbrev ab153_2 : List RSh := [.arr [] zP1]
noncomputable def L153_2 : Option R :=
  onShape aa153_2 ab153_2 (fun v => f153_2 k (fun p0 => N (sh jn153_2 [.rw 1] [zr4 p0])) v.1.2.1 v.1.2.2.1 k v.1.2.2.2.1 v.2.1) (I153_2 k K ws rs N X) ws rs
noncomputable def L153 : Option R := bif id == 1000007 then L153_1000007 k K ws rs N X else bif id == 0 then L153_0 k K ws rs N X else bif id == 2 then L153_2 k K ws rs N X else none
theorem l153_1000007 : L153 k K 1000007 ws rs N X = I153_1000007 k K ws rs N X := by
  show L153_1000007 k K ws rs N X = _
  unfold L153_1000007
  rw [f153_1000007_def]
  exact lC (L153 k K) [] (by kernel_rfl) trivial fun x y => by kernel_rfl
theorem i153_0 (c0 c2 : List (zL5)) (c3 : Int) (m : Nat) : ∀ (c1 c4 : Int),
    iter (atHead an153 0 bd153_0) m (fun st N' => exec T an153 (modesOf F) 0 k 36 (S153 k) (E153 K) bd153_0 st N' (outX an153 0 0 N X)) (sh sp153_0 [.val [(0, 0)] (.slice zT1) c0, zi c1, .val [(0, 0)] (.slice zT1) c2, zi c3, zi c4] []) = f153_0d k (fun p1 => N (sh jn153_0 [.val [(0, 0)] (.slice zT1) c0, zi p1] [])) c0 c2 c3 m c1 c4 := by
  induction m with
  | zero => intros; rfl
  | succ m ih =>
    intro c1 c4
    simp only [iter]
    rw [← execS_eq T an153 (modesOf F) 0 k 36 (S153 k) (L153 k K) bd153_0 (cuts_of _ _ _ _ _ _ _ _ bd153_0 (l := [(1000007, sp153_1000007, cd153_1000007)]) (by kernel_rfl) ⟨l153_1000007 k K, trivial⟩)]
    have h := fx2 ih
    simp only [f153_0d]
    rw [← h]
    show _ = _
    kernel_rfl
theorem l153_0 : L153 k K 0 ws rs N X = I153_0 k K ws rs N X := by
  show L153_0 k K ws rs N X = _
  unfold L153_0
  rw [f153_0_def]
  exact onShape_eq (a := aa153_0) (b := ab153_0) (G := fun ws rs => I153_0 k K ws rs N X) (fun x y => Eq.trans (by kernel_rfl) (Eq.trans (i153_0 k K N X x.1 x.2.2.1 x.2.2.2.1 k x.2.1 x.2.2.2.2.1).symm (by kernel_rfl))) ws rs
theorem i153_2 (c0 : List (zL5)) (c1 : Int) (m : Nat) : ∀ (c2 : Int) (c3 : zL6),
    iter (atHead an153 0 bd153_2) m (fun st N' => exec T an153 (modesOf F) 0 k 36 (S153 k) (E153 K) bd153_2 st N' (outX an153 0 2 N X)) (sh sp153_2 [.rw 1, .val [(0, 0)] (.slice zT1) c0, zi c1, zi c2] [zr4 c3]) = f153_2d k (fun p0 => N (sh jn153_2 [.rw 1] [zr4 p0])) c0 c1 m c2 c3 := by
  induction m with
  | zero => intros; rfl
  | succ m ih =>
    intro c2 c3
    simp only [iter]
    rw [← execS_eq T an153 (modesOf F) 0 k 36 (S153 k) (L153 k K) bd153_2 (cuts_of _ _ _ _ _ _ _ _ bd153_2 (l := []) (by kernel_rfl) trivial)]
    have h := fx2 ih
    simp only [f153_2d]
    rw [← h]
    show _ = _
    kernel_rfl
theorem l153_2 : L153 k K 2 ws rs N X = I153_2 k K ws rs N X := by
  show L153_2 k K ws rs N X = _
  unfold L153_2
  rw [f153_2_def]
  exact onShape_eq (a := aa153_2) (b := ab153_2) (G := fun ws rs => I153_2 k K ws rs N X) (fun x y => Eq.trans (by kernel_rfl) (Eq.trans (i153_2 k K N X x.2.1 x.2.2.1 k x.2.2.2.1 y.1).symm (by kernel_rfl))) ws rs
theorem tu153 : tOk (R := R) 153 aa153 ab153 g153 := by
  intro k x y K
  unfold g153
  rw [f153_def]
  cases k with
  | zero => rfl
  | succ k => exact eS Tryz.f153 an153 0 36 (L153 k K) [(0, sp153_0, cd153_0), (2, sp153_2, cd153_2)] (by kernel_rfl) (S153_eq k) (by kernel_rfl) ⟨l153_0 k K, l153_2 k K, trivial⟩ (by kernel_rfl)
noncomputable def s153 := onS (R := R) aa153 ab153 g153 (fun k => callC T F k 153)
theorem s153_eq : sOk (R := R) s153 153 := onS_eq (fun _ _ _ _ => rfl) tu153
noncomputable abbrev kt154 : zL6 → Option R := (fun z0 => K [] [zr4 z0])
abbrev aa154 : List Sh := [.rw 1, .fn 155 []]
abbrev ab154 : List RSh := [.arr [] zP1]
noncomputable def g154 (k : Nat) (v : Sh.D.DL aa154 × RSh.DL ab154) (K : KT R) : Option R := f154 k v.2.1 (kt154 K)
theorem e154 (k : Nat) (a0 : zL6) (K : KT R) : callC T F k 154 [.rw 1, .fn 155 []] [zr4 a0] K = f154 k a0 (kt154 K) := by
  rw [f154_def]
  cases k with
  | zero => rfl
  | succ k => exact sort_call (m := [.any, .any]) (c := 155) (by kernel_rfl) a0 K
theorem tu154 : tOk (R := R) 154 aa154 ab154 g154 := fun k x y K => e154 k y.1 K
noncomputable def s154 := onS (R := R) aa154 ab154 g154 (fun k => callC T F k 154)
theorem s154_eq : sOk (R := R) s154 154 := onS_eq (fun _ _ _ _ => rfl) tu154
noncomputable abbrev kt127 : zL6 → Option R := (fun z0 => K [.rw 1] [zr4 z0])
abbrev aa127 : List Sh := [.val [(0, 0)] zT1, .val [(0, 0)] zT1]
abbrev ab127 : List RSh := []
noncomputable def g127 (k : Nat) (v : Sh.D.DL aa127 × RSh.DL ab127) (K : KT R) : Option R := f127 k v.1.1 v.1.2.1 (kt127 K)
noncomputable abbrev E127 := ending T Tryz.f127 an127 0 K
noncomputable def S127 := pickS (R := R) [(153, s153), (154, s154)]
theorem S127_eq : ∀ k, S127 (R := R) k = callC T F k := pickS_eq ⟨s153_eq, s154_eq, trivial⟩
noncomputable abbrev I127_1000009 : Option R := inner T an127 (modesOf F) 0 k 57 (S127 k) (E127 K) cd127_1000009 (sh sp127_1000009 ws rs) N X
abbrev aa127_1000009 : List Sh := [.rw 1, .ptr 2 0, zv, .rw 3, zv, zv, .val [] .bool]
abbrev ab127_1000009 : List RSh := [.arr [] zP1, .vars [zv, zv], .arr [] zP1]
noncomputable def L127_1000009 : Option R :=
  onShape aa127_1000009 ab127_1000009 (fun v => f127_1000009 k (fun p2 => N (sh fi127_9 [.rw 1, .rw 2, zi v.1.2.2.2.2.1, zi v.1.2.2.2.2.2.1] [zr4 p2, zr4 v.2.2.2.1])) v.1.2.2.1 v.1.2.2.2.2.2.2.1 v.2.1 v.2.2.1.1 v.2.2.1.2.1) (I127_1000009 k K ws rs N X) ws rs
noncomputable abbrev I127_0 : Option R := inner T an127 (modesOf F) 0 k 57 (S127 k) (E127 K) cd127_0 (sh sp127_0 ws rs) N X
abbrev aa127_0 : List Sh := [.rw 1, .rw 2, zv, zv]
abbrev ab127_0 : List RSh := [.arr [] zP1, .arr [] zP1]
noncomputable def L127_0 : Option R :=
  onShape aa127_0 ab127_0 (fun v => f127_0 k (fun p0 => N (sh jn127_0 [.rw 1] [zr4 p0])) v.1.2.2.1 v.2.2.1 k v.1.2.2.2.1 v.2.1) (I127_0 k K ws rs N X) ws rs
noncomputable def L127 : Option R := bif id == 1000009 then L127_1000009 k K ws rs N X else bif id == 0 then L127_0 k K ws rs N X else none
theorem l127_1000009 : L127 k K 1000009 ws rs N X = I127_1000009 k K ws rs N X := by
  show L127_1000009 k K ws rs N X = _
  unfold L127_1000009
  rw [f127_1000009_def]
  exact lC (L127 k K) [] (by kernel_rfl) trivial fun x y => by kernel_rfl
theorem i127_0 (c0 : Int) (c3 : zL6) (m : Nat) : ∀ (c1 : Int) (c2 : zL6),
    iter (atHead an127 0 bd127_0) m (fun st N' => exec T an127 (modesOf F) 0 k 57 (S127 k) (E127 K) bd127_0 st N' (outX an127 0 0 N X)) (sh sp127_0 [.rw 1, .rw 2, zi c0, zi c1] [zr4 c2, zr4 c3]) = f127_0d k (fun p0 => N (sh jn127_0 [.rw 1] [zr4 p0])) c0 c3 m c1 c2 := by
  induction m with
  | zero => intros; rfl
  | succ m ih =>
    intro c1 c2
    simp only [iter]
    rw [← execS_eq T an127 (modesOf F) 0 k 57 (S127 k) (L127 k K) bd127_0 (cuts_of _ _ _ _ _ _ _ _ bd127_0 (l := [(1000009, sp127_1000009, cd127_1000009)]) (by kernel_rfl) ⟨l127_1000009 k K, trivial⟩)]
    have h := fx2 ih
    simp only [f127_0d]
    rw [← h]
    show _ = _
    kernel_rfl
theorem l127_0 : L127 k K 0 ws rs N X = I127_0 k K ws rs N X := by
  show L127_0 k K ws rs N X = _
  unfold L127_0
  rw [f127_0_def]
  exact onShape_eq (a := aa127_0) (b := ab127_0) (G := fun ws rs => I127_0 k K ws rs N X) (fun x y => Eq.trans (by kernel_rfl) (Eq.trans (i127_0 k K N X x.2.2.1 y.2.1 k x.2.2.2.1 y.1).symm (by kernel_rfl))) ws rs
theorem tu127 : tOk (R := R) 127 aa127 ab127 g127 := by
  intro k x y K
  unfold g127
  rw [f127_def]
  cases k with
  | zero => rfl
  | succ k => exact eS Tryz.f127 an127 0 57 (L127 k K) [(0, sp127_0, cd127_0)] (by kernel_rfl) (S127_eq k) (by kernel_rfl) ⟨l127_0 k K, trivial⟩ (by kernel_rfl)
noncomputable def s127 := onS (R := R) aa127 ab127 g127 (fun k => callC T F k 127)
theorem s127_eq : sOk (R := R) s127 127 := onS_eq (fun _ _ _ _ => rfl) tu127
noncomputable abbrev kt94 : Bool → List Int → zL6 → Option R := (fun z0 z1 z2 => K [.rw 1, .rw 2, .val [] .bool z0] [zr0 z1, zr4 z2])
abbrev aa94 : List Sh := [.val [(0, 0)] zT2, .val [(0, 0)] zT1, zv, .val [(0, 0)] zT2]
abbrev ab94 : List RSh := []
noncomputable def g94 (k : Nat) (v : Sh.D.DL aa94 × RSh.DL ab94) (K : KT R) : Option R := f94 k v.1.1 v.1.2.1 v.1.2.2.1 v.1.2.2.2.1 (kt94 K)
noncomputable abbrev E94 := ending T Tryz.f94 an94 0 K
noncomputable def S94 := pickS (R := R) [(43, s43), (125, s125), (126, s126), (127, s127)]
theorem S94_eq : ∀ k, S94 (R := R) k = callC T F k := pickS_eq ⟨s43_eq, s125_eq, s126_eq, s127_eq, trivial⟩
noncomputable abbrev I94_1000004 : Option R := inner T an94 (modesOf F) 0 k 80 (S94 k) (E94 K) cd94_1000004 (sh sp94_1000004 ws rs) N X
abbrev aa94_1000004 : List Sh := [.val [(0, 0)] zT2, .val [(0, 0)] zT1, zv, .val [(0, 0)] zT2, zv, .rw 1, .val [] .bool]
abbrev ab94_1000004 : List RSh := [.arr [] (.int .u8)]
noncomputable def L94_1000004 : Option R :=
  onShape aa94_1000004 ab94_1000004 (fun v => f94_1000004 k (fun p5 => N (sh fi94_4 [.val [(0, 0)] zT2 v.1.1, .val [(0, 0)] zT1 v.1.2.1, zi v.1.2.2.1, .val [(0, 0)] zT2 v.1.2.2.2.1, zi v.1.2.2.2.2.1, .rw 1] [zr0 p5])) v.1.2.2.2.2.1 v.1.2.2.2.2.2.2.1 v.2.1) (I94_1000004 k K ws rs N X) ws rs
noncomputable abbrev I94_1000011 : Option R := inner T an94 (modesOf F) 0 k 80 (S94 k) (E94 K) cd94_1000011 (sh sp94_1000011 ws rs) N X
abbrev aa94_1000011 : List Sh := [.val [(0, 0)] zT1, zv, .val [(0, 0)] zT2, zv, .rw 1, .val [] .bool, zv, zv, .rw 2, zv, zv, .val [] .bool]
abbrev ab94_1000011 : List RSh := [.arr [] (.int .u8), .arr [] zP1]
noncomputable def L94_1000011 : Option R :=
  onShape aa94_1000011 ab94_1000011 (fun v => let u0 := v.1.2.2.2.2.2.2.2; f94_1000011 k (fun p4 p7 => N (sh fi94_11 [.val [(0, 0)] zT1 v.1.1, zi v.1.2.1, .val [(0, 0)] zT2 v.1.2.2.1, zi v.1.2.2.2.1, .rw 1, .val [] .bool p4, .rw 2, zi u0.2.2.1, zi u0.2.2.2.1] [zr0 p7, zr4 v.2.2.1])) v.1.2.1 v.1.2.2.1 v.1.2.2.2.2.2.1 v.1.2.2.2.2.2.2.1 v.1.2.2.2.2.2.2.2.1 u0.2.2.2.2.1 v.2.1) (I94_1000011 k K ws rs N X) ws rs
noncomputable abbrev I94_0 : Option R := inner T an94 (modesOf F) 0 k 80 (S94 k) (E94 K) cd94_0 (sh sp94_0 ws rs) N X
abbrev aa94_0 : List Sh := [.val [(0, 0)] zT1, zv, .val [(0, 0)] zT2, zv, .rw 1, .val [] .bool, .rw 2, zv, zv]
abbrev ab94_0 : List RSh := [.arr [] (.int .u8), .arr [] zP1]
noncomputable def L94_0 : Option R :=
  onShape aa94_0 ab94_0 (fun v => let u0 := v.1.2.2.2.2.2.2.2; f94_0 k (fun p3 p4 => N (sh jn94_0 [.val [(0, 0)] zT1 v.1.1, zi v.1.2.1, zi v.1.2.2.2.1, .rw 1, .val [] .bool p3] [zr0 p4])) v.1.1 v.1.2.1 v.1.2.2.1 v.1.2.2.2.1 v.1.2.2.2.2.2.2.2.1 v.2.2.1 k v.1.2.2.2.2.2.1 u0.2.1 v.2.1) (I94_0 k K ws rs N X) ws rs
noncomputable def L94 : Option R := bif id == 1000004 then L94_1000004 k K ws rs N X else bif id == 1000011 then L94_1000011 k K ws rs N X else bif id == 0 then L94_0 k K ws rs N X else none
theorem l94_1000004 : L94 k K 1000004 ws rs N X = I94_1000004 k K ws rs N X := by
  show L94_1000004 k K ws rs N X = _
  unfold L94_1000004
  rw [f94_1000004_def]
  exact lC (L94 k K) [] (by kernel_rfl) trivial fun x y => by kernel_rfl
theorem l94_1000011 : L94 k K 1000011 ws rs N X = I94_1000011 k K ws rs N X := by
  show L94_1000011 k K ws rs N X = _
  unfold L94_1000011
  rw [f94_1000011_def]
  exact lC (L94 k K) [] (by kernel_rfl) trivial fun x y => by kernel_rfl
theorem i94_0 (c0 : zL5) (c1 : Int) (c2 : List Int) (c3 c5 : Int) (c8 : zL6) (m : Nat) : ∀ (c4 : Bool) (c6 : Int) (c7 : List Int),
    iter (atHead an94 0 bd94_0) m (fun st N' => exec T an94 (modesOf F) 0 k 80 (S94 k) (E94 K) bd94_0 st N' (outX an94 0 0 N X)) (sh sp94_0 [.val [(0, 0)] zT1 c0, zi c1, .val [(0, 0)] zT2 c2, zi c3, .rw 1, .val [] .bool c4, .rw 2, zi c5, zi c6] [zr0 c7, zr4 c8]) = f94_0d k (fun p3 p4 => N (sh jn94_0 [.val [(0, 0)] zT1 c0, zi c1, zi c3, .rw 1, .val [] .bool p3] [zr0 p4])) c0 c1 c2 c3 c5 c8 m c4 c6 c7 := by
  induction m with
  | zero => intros; rfl
  | succ m ih =>
    intro c4 c6 c7
    simp only [iter]
    rw [← execS_eq T an94 (modesOf F) 0 k 80 (S94 k) (L94 k K) bd94_0 (cuts_of _ _ _ _ _ _ _ _ bd94_0 (l := [(1000011, sp94_1000011, cd94_1000011)]) (by kernel_rfl) ⟨l94_1000011 k K, trivial⟩)]
    have h := fx3 ih
    simp only [f94_0d]
    rw [← h]
    show _ = _
    kernel_rfl
theorem l94_0 : L94 k K 0 ws rs N X = I94_0 k K ws rs N X := by
  show L94_0 k K ws rs N X = _
  unfold L94_0
  rw [f94_0_def]
  exact onShape_eq (a := aa94_0) (b := ab94_0) (G := fun ws rs => I94_0 k K ws rs N X) (fun x y => Eq.trans (by kernel_rfl) (Eq.trans (i94_0 k K N X x.1 x.2.1 x.2.2.1 x.2.2.2.1 x.2.2.2.2.2.2.2.1 y.2.1 k x.2.2.2.2.2.1 x.2.2.2.2.2.2.2.2.1 y.1).symm (by kernel_rfl))) ws rs
theorem tu94 : tOk (R := R) 94 aa94 ab94 g94 := by
  intro k x y K
  unfold g94
  rw [f94_def]
  cases k with
  | zero => rfl
  | succ k => exact eS Tryz.f94 an94 0 80 (L94 k K) [(1000004, sp94_1000004, cd94_1000004), (0, sp94_0, cd94_0)] (by kernel_rfl) (S94_eq k) (by kernel_rfl) ⟨l94_1000004 k K, l94_0 k K, trivial⟩ (by kernel_rfl)
noncomputable def s94 := onS (R := R) aa94 ab94 g94 (fun k => callC T F k 94)
theorem s94_eq : sOk (R := R) s94 94 := onS_eq (fun _ _ _ _ => rfl) tu94
noncomputable abbrev kt95 : zL6 → Option R := (fun z0 => K [.rw 1] [zr4 z0])
abbrev aa95 : List Sh := [.agg [zv, zv, .val [] .str, .val [(0, 0)] zT2, .val [(0, 0)] zT1, zv, zv, zv, zv]]
abbrev ab95 : List RSh := []
noncomputable def g95 (k : Nat) (v : Sh.D.DL aa95 × RSh.DL ab95) (K : KT R) : Option R := let u0 := v.1.1.2.2.2.2.2.2.2; f95 k v.1.1.1 v.1.1.2.1 v.1.1.2.2.1 v.1.1.2.2.2.1 v.1.1.2.2.2.2.1 v.1.1.2.2.2.2.2.1 v.1.1.2.2.2.2.2.2.1 v.1.1.2.2.2.2.2.2.2.1 u0.2.1 (kt95 K)
noncomputable abbrev E95 := ending T Tryz.f95 an95 0 K
noncomputable def S95 := pickS (R := R) [(126, s126)]
theorem S95_eq : ∀ k, S95 (R := R) k = callC T F k := pickS_eq ⟨s126_eq, trivial⟩
theorem tu95 : tOk (R := R) 95 aa95 ab95 g95 := by
  intro k x y K
  unfold g95
  rw [f95_def]
  cases k with
  | zero => rfl
  | succ k => exact eS Tryz.f95 an95 0 8 L0 [] (by kernel_rfl) (S95_eq k) (by kernel_rfl) trivial (by kernel_rfl)
noncomputable def s95 := onS (R := R) aa95 ab95 g95 (fun k => callC T F k 95)
theorem s95_eq : sOk (R := R) s95 95 := onS_eq (fun _ _ _ _ => rfl) tu95
noncomputable abbrev kt96 : Int → Option R := (fun z0 => K [zi z0] [])
abbrev aa96 : List Sh := [.val [(0, 0)] zT2]
abbrev ab96 : List RSh := []
noncomputable def g96 (k : Nat) (v : Sh.D.DL aa96 × RSh.DL ab96) (K : KT R) : Option R := f96 k v.1.1 (kt96 K)
noncomputable abbrev E96 := ending T Tryz.f96 an96 0 K
noncomputable def S96 := pickS (R := R) []
theorem S96_eq : ∀ k, S96 (R := R) k = callC T F k := pickS_eq trivial
noncomputable abbrev I96_0 : Option R := inner T an96 (modesOf F) 0 k 25 (S96 k) (E96 K) cd96_0 (sh sp96_0 ws rs) N X
abbrev aa96_0 : List Sh := [zv, .val [(0, 0)] zT2, zv, zv]
abbrev ab96_0 : List RSh := []
noncomputable def L96_0 : Option R :=
  onShape aa96_0 ab96_0 (fun v => f96_0 k (fun p0 => N (sh jn96_0 [zi p0] [])) v.1.2.1 v.1.2.2.1 k v.1.1 v.1.2.2.2.1) (I96_0 k K ws rs N X) ws rs
noncomputable def L96 : Option R := bif id == 0 then L96_0 k K ws rs N X else none
theorem i96_0 (c1 : List Int) (c2 : Int) (m : Nat) : ∀ (c0 c3 : Int),
    iter (atHead an96 0 bd96_0) m (fun st N' => exec T an96 (modesOf F) 0 k 25 (S96 k) (E96 K) bd96_0 st N' (outX an96 0 0 N X)) (sh sp96_0 [zi c0, .val [(0, 0)] zT2 c1, zi c2, zi c3] []) = f96_0d k (fun p0 => N (sh jn96_0 [zi p0] [])) c1 c2 m c0 c3 := by
  induction m with
  | zero => intros; rfl
  | succ m ih =>
    intro c0 c3
    simp only [iter]
    rw [← execS_eq T an96 (modesOf F) 0 k 25 (S96 k) (L96 k K) bd96_0 (cuts_of _ _ _ _ _ _ _ _ bd96_0 (l := []) (by kernel_rfl) trivial)]
    have h := fx2 ih
    simp only [f96_0d]
    rw [← h]
    show _ = _
    kernel_rfl
theorem l96_0 : L96 k K 0 ws rs N X = I96_0 k K ws rs N X := by
  show L96_0 k K ws rs N X = _
  unfold L96_0
  rw [f96_0_def]
  exact onShape_eq (a := aa96_0) (b := ab96_0) (G := fun ws rs => I96_0 k K ws rs N X) (fun x y => Eq.trans (by kernel_rfl) (Eq.trans (i96_0 k K N X x.2.1 x.2.2.1 k x.1 x.2.2.2.1).symm (by kernel_rfl))) ws rs
theorem tu96 : tOk (R := R) 96 aa96 ab96 g96 := by
  intro k x y K
  unfold g96
  rw [f96_def]
  cases k with
  | zero => rfl
  | succ k => exact eS Tryz.f96 an96 0 25 (L96 k K) [(0, sp96_0, cd96_0)] (by kernel_rfl) (S96_eq k) (by kernel_rfl) ⟨l96_0 k K, trivial⟩ (by kernel_rfl)
noncomputable def s96 := onS (R := R) aa96 ab96 g96 (fun k => callC T F k 96)
theorem s96_eq : sOk (R := R) s96 96 := onS_eq (fun _ _ _ _ => rfl) tu96
noncomputable abbrev kt130 : Int → Int → Option R := (fun z0 z1 => K [.agg [zi z0, zi z1]] [])
abbrev aa130 : List Sh := []
abbrev ab130 : List RSh := []
noncomputable def g130 (k : Nat) (v : Sh.D.DL aa130 × RSh.DL ab130) (K : KT R) : Option R := f130 k (kt130 K)
noncomputable abbrev E130 := ending T Tryz.f130 an130 0 K
noncomputable def S130 := pickS (R := R) []
theorem S130_eq : ∀ k, S130 (R := R) k = callC T F k := pickS_eq trivial
theorem tu130 : tOk (R := R) 130 aa130 ab130 g130 := by
  intro k x y K
  unfold g130
  rw [f130_def]
  cases k with
  | zero => rfl
  | succ k => exact eS Tryz.f130 an130 0 2 L0 [] (by kernel_rfl) (S130_eq k) (by kernel_rfl) trivial (by kernel_rfl)
noncomputable def s130 := onS (R := R) aa130 ab130 g130 (fun k => callC T F k 130)
theorem s130_eq : sOk (R := R) s130 130 := onS_eq (fun _ _ _ _ => rfl) tu130
noncomputable abbrev kt128 : zL5 → Option R := (fun z0 => K [.val [(0, 0)] zT1 z0] [])
abbrev aa128 : List Sh := [.val [(0, 0)] zT1, .val [] .bool]
abbrev ab128 : List RSh := []
noncomputable def g128 (k : Nat) (v : Sh.D.DL aa128 × RSh.DL ab128) (K : KT R) : Option R := f128 k v.1.1 v.1.2.1 (kt128 K)
noncomputable abbrev E128 := ending T Tryz.f128 an128 0 K
noncomputable def S128 := pickS (R := R) [(130, s130), (153, s153)]
theorem S128_eq : ∀ k, S128 (R := R) k = callC T F k := pickS_eq ⟨s130_eq, s153_eq, trivial⟩
theorem tu128 : tOk (R := R) 128 aa128 ab128 g128 := by
  intro k x y K
  unfold g128
  rw [f128_def]
  cases k with
  | zero => rfl
  | succ k => exact eS Tryz.f128 an128 0 12 L0 [] (by kernel_rfl) (S128_eq k) (by kernel_rfl) trivial (by kernel_rfl)
noncomputable def s128 := onS (R := R) aa128 ab128 g128 (fun k => callC T F k 128)
theorem s128_eq : sOk (R := R) s128 128 := onS_eq (fun _ _ _ _ => rfl) tu128
noncomputable abbrev kt97 : zL5 → Int → Option R := (fun z0 z1 => K [.val [(0, 0)] zT1 z0, zi z1] [])
abbrev aa97 : List Sh := [.agg [zv, zv, .val [] .str, .val [(0, 0)] zT2, .val [(0, 0)] zT1, zv, zv, zv, zv]]
abbrev ab97 : List RSh := []
noncomputable def g97 (k : Nat) (v : Sh.D.DL aa97 × RSh.DL ab97) (K : KT R) : Option R := let u0 := v.1.1.2.2.2.2.2.2.2; f97 k v.1.1.1 v.1.1.2.1 v.1.1.2.2.1 v.1.1.2.2.2.1 v.1.1.2.2.2.2.1 v.1.1.2.2.2.2.2.1 v.1.1.2.2.2.2.2.2.1 v.1.1.2.2.2.2.2.2.2.1 u0.2.1 (kt97 K)
noncomputable abbrev E97 := ending T Tryz.f97 an97 0 K
noncomputable def S97 := pickS (R := R) [(95, s95), (128, s128)]
theorem S97_eq : ∀ k, S97 (R := R) k = callC T F k := pickS_eq ⟨s95_eq, s128_eq, trivial⟩
theorem tu97 : tOk (R := R) 97 aa97 ab97 g97 := by
  intro k x y K
  unfold g97
  rw [f97_def]
  cases k with
  | zero => rfl
  | succ k => exact eS Tryz.f97 an97 0 15 L0 [] (by kernel_rfl) (S97_eq k) (by kernel_rfl) trivial (by kernel_rfl)
noncomputable def s97 := onS (R := R) aa97 ab97 g97 (fun k => callC T F k 97)
theorem s97_eq : sOk (R := R) s97 97 := onS_eq (fun _ _ _ _ => rfl) tu97
noncomputable abbrev kt61 : zK2 R := (fun z0 z1 z2 z3 z4 z5 z6 z7 z8 z9 z10 => K [.agg [zi z0, zi z1, .val [] .str z2, .val [(0, 0)] zT2 z3, .val [(0, 0)] zT1 z4, zi z5, zi z6, zi z7, zi z8], .rw 1, zi z9] [zr3 z10])
abbrev aa61 : List Sh := [.agg [zv, zv, zv, zv, zv], .agg [zv, zv, .val [] .str, .val [(0, 0)] zT2, .val [(0, 0)] zT1, zv, zv, zv, zv], .agg [zv, zv, .val [] .str, zv, zv, zv, .val [(0, 0)] zT2, .val [(0, 0)] zT1, .val [] .bool]]
abbrev ab61 : List RSh := []
noncomputable def g61 (k : Nat) (v : Sh.D.DL aa61 × RSh.DL ab61) (K : KT R) : Option R := let u0 := v.1.2.1.2.2.2.2.2.2.2; let u1 := v.1.2.2.1.2.2.2.2.2.2.2; f61 k v.1.1.1 v.1.1.2.1 v.1.1.2.2.1 v.1.1.2.2.2.1 v.1.1.2.2.2.2.1 v.1.2.1.1 v.1.2.1.2.1 v.1.2.1.2.2.1 v.1.2.1.2.2.2.1 v.1.2.1.2.2.2.2.1 v.1.2.1.2.2.2.2.2.1 v.1.2.1.2.2.2.2.2.2.1 v.1.2.1.2.2.2.2.2.2.2.1 u0.2.1 v.1.2.2.1.1 v.1.2.2.1.2.1 v.1.2.2.1.2.2.1 v.1.2.2.1.2.2.2.1 v.1.2.2.1.2.2.2.2.1 v.1.2.2.1.2.2.2.2.2.1 v.1.2.2.1.2.2.2.2.2.2.1 v.1.2.2.1.2.2.2.2.2.2.2.1 u1.2.1 (kt61 K)
noncomputable abbrev E61 := ending T Tryz.f61 an61 0 K
noncomputable def S61 := pickS (R := R) [(93, s93), (94, s94), (95, s95), (96, s96), (97, s97)]
theorem S61_eq : ∀ k, S61 (R := R) k = callC T F k := pickS_eq ⟨s93_eq, s94_eq, s95_eq, s96_eq, s97_eq, trivial⟩
noncomputable abbrev I61_1000018 : Option R := inner T an61 (modesOf F) 0 k 169 (S61 k) (E61 K) cd61_1000018 (sh sp61_1000018 ws rs) N X
abbrev aa61_1000018 : List Sh := [.ptr 1 0, .ptr 2 0, .ptr 5 0, .ptr 6 0, .val [] .bool]
abbrev ab61_1000018 : List RSh := [zs2, .vars [zv, zv, .val [] .str, .rw 3, .rw 4, zv, zv, zv, zv], .arr [] (.int .u8), .arr [] zP1, zs3, zs4]
noncomputable def L61_1000018 : Option R :=
  onShape aa61_1000018 ab61_1000018 (fun v => let u0 := v.2.2.1.2.2.2.2.2.2.2; let u1 := v.2.2.2.2.2.1.2.2.2.2.2.2.2; let u2 := v.2.2.2.2.2.2.1.2.2.2.2.2.2.2; f61_1000018 k (fun p11 => N (sh fi61_18 [.ptr 1 0, .ptr 2 0, .ptr 5 0, .ptr 6 0] [zr5 v.2.1.1 v.2.1.2.1 v.2.1.2.2.1 v.2.1.2.2.2.1 v.2.1.2.2.2.2.1, ⟨0, .vars [zi v.2.2.1.1, zi v.2.2.1.2.1, .val [] .str v.2.2.1.2.2.1, .rw 3, .rw 4, zi v.2.2.1.2.2.2.2.2.1, zi v.2.2.1.2.2.2.2.2.2.1, zi v.2.2.1.2.2.2.2.2.2.2.1, zi p11]⟩, zr0 v.2.2.2.1, zr4 v.2.2.2.2.1, zr6 v.2.2.2.2.2.1.1 v.2.2.2.2.2.1.2.1 v.2.2.2.2.2.1.2.2.1 v.2.2.2.2.2.1.2.2.2.1 v.2.2.2.2.2.1.2.2.2.2.1 v.2.2.2.2.2.1.2.2.2.2.2.1 v.2.2.2.2.2.1.2.2.2.2.2.2.1 v.2.2.2.2.2.1.2.2.2.2.2.2.2.1 u1.2.1, zr7 v.2.2.2.2.2.2.1.1 v.2.2.2.2.2.2.1.2.1 v.2.2.2.2.2.2.1.2.2.1 v.2.2.2.2.2.2.1.2.2.2.2.2.1 v.2.2.2.2.2.2.1.2.2.2.2.2.2.1 v.2.2.2.2.2.2.1.2.2.2.2.2.2.2.1 u2.2.1])) v.1.2.2.2.2.1 u0.2.1) (I61_1000018 k K ws rs N X) ws rs
noncomputable abbrev I61_1000023 : Option R := inner T an61 (modesOf F) 0 k 169 (S61 k) (E61 K) cd61_1000023 (sh sp61_1000023 ws rs) N X
abbrev aa61_1000023 : List Sh := [.ptr 1 0, .ptr 2 0, .ptr 3 0, .ptr 4 0, .val [] .bool]
abbrev ab61_1000023 : List RSh := [zs2, zs5, zs3, zs4]
noncomputable def L61_1000023 : Option R :=
  onShape aa61_1000023 ab61_1000023 (fun v => let u0 := v.2.2.1.2.2.2.2.2.2.2; let u1 := v.2.2.2.1.2.2.2.2.2.2.2; let u2 := v.2.2.2.2.1.2.2.2.2.2.2.2; f61_1000023 k (fun p7 => N (sh fi61_23 [.ptr 1 0, .ptr 2 0, .ptr 3 0, .ptr 4 0] [zr5 v.2.1.1 v.2.1.2.1 v.2.1.2.2.1 v.2.1.2.2.2.1 v.2.1.2.2.2.2.1, zr8 v.2.2.1.1 v.2.2.1.2.1 p7 v.2.2.1.2.2.2.1 v.2.2.1.2.2.2.2.1 v.2.2.1.2.2.2.2.2.1 v.2.2.1.2.2.2.2.2.2.1 v.2.2.1.2.2.2.2.2.2.2.1 u0.2.1, zr6 v.2.2.2.1.1 v.2.2.2.1.2.1 v.2.2.2.1.2.2.1 v.2.2.2.1.2.2.2.1 v.2.2.2.1.2.2.2.2.1 v.2.2.2.1.2.2.2.2.2.1 v.2.2.2.1.2.2.2.2.2.2.1 v.2.2.2.1.2.2.2.2.2.2.2.1 u1.2.1, zr7 v.2.2.2.2.1.1 v.2.2.2.2.1.2.1 v.2.2.2.2.1.2.2.1 v.2.2.2.2.1.2.2.2.2.2.1 v.2.2.2.2.1.2.2.2.2.2.2.1 v.2.2.2.2.1.2.2.2.2.2.2.2.1 u2.2.1])) v.1.2.2.2.2.1 v.2.2.1.2.2.1 v.2.2.2.1.2.2.1) (I61_1000023 k K ws rs N X) ws rs
noncomputable abbrev I61_1000015 : Option R := inner T an61 (modesOf F) 0 k 169 (S61 k) (E61 K) cd61_1000015 (sh sp61_1000015 ws rs) N X
abbrev aa61_1000015 : List Sh := [.ptr 1 0, .ptr 2 0, .ptr 3 0, .ptr 4 0, .val [] .bool]
abbrev ab61_1000015 : List RSh := [zs2, zs5, zs3, zs4]
noncomputable def L61_1000015 : Option R :=
  onShape aa61_1000015 ab61_1000015 (fun v => let u0 := v.2.2.1.2.2.2.2.2.2.2; let u1 := v.2.2.2.1.2.2.2.2.2.2.2; let u2 := v.2.2.2.2.1.2.2.2.2.2.2.2; f61_1000015 k (kt61 K) (fun p7 p8 p9 p10 p11 p13 => N (sh fi61_15 [.ptr 1 0, .ptr 2 0, .ptr 3 0, .ptr 4 0] [zr5 v.2.1.1 v.2.1.2.1 v.2.1.2.2.1 v.2.1.2.2.2.1 v.2.1.2.2.2.2.1, zr8 v.2.2.1.1 v.2.2.1.2.1 p7 p8 p9 p10 p11 v.2.2.1.2.2.2.2.2.2.2.1 p13, zr6 v.2.2.2.1.1 v.2.2.2.1.2.1 v.2.2.2.1.2.2.1 v.2.2.2.1.2.2.2.1 v.2.2.2.1.2.2.2.2.1 v.2.2.2.1.2.2.2.2.2.1 v.2.2.2.1.2.2.2.2.2.2.1 v.2.2.2.1.2.2.2.2.2.2.2.1 u1.2.1, zr7 v.2.2.2.2.1.1 v.2.2.2.2.1.2.1 v.2.2.2.2.1.2.2.1 v.2.2.2.2.1.2.2.2.2.2.1 v.2.2.2.2.1.2.2.2.2.2.2.1 v.2.2.2.2.1.2.2.2.2.2.2.2.1 u2.2.1])) v.1.2.2.2.2.1 v.2.2.1.2.2.1 v.2.2.1.2.2.2.1 v.2.2.1.2.2.2.2.1 v.2.2.1.2.2.2.2.2.1 v.2.2.1.2.2.2.2.2.2.1 u0.2.1 v.2.2.2.1.1 v.2.2.2.1.2.2.1 v.2.2.2.1.2.2.2.1 v.2.2.2.1.2.2.2.2.1 v.2.2.2.1.2.2.2.2.2.1 v.2.2.2.1.2.2.2.2.2.2.1) (I61_1000015 k K ws rs N X) ws rs
noncomputable abbrev I61_1000025 : Option R := inner T an61 (modesOf F) 0 k 169 (S61 k) (E61 K) cd61_1000025 (sh sp61_1000025 ws rs) N X
abbrev aa61_1000025 : List Sh := [.ptr 1 0, .ptr 2 0, .ptr 3 0, .ptr 4 0, .val [] .bool]
abbrev ab61_1000025 : List RSh := [zs2, zs5, zs3, zs4]
noncomputable def L61_1000025 : Option R :=
  onShape aa61_1000025 ab61_1000025 (fun v => let u0 := v.2.2.1.2.2.2.2.2.2.2; let u1 := v.2.2.2.1.2.2.2.2.2.2.2; let u2 := v.2.2.2.2.1.2.2.2.2.2.2.2; f61_1000025 k (fun p5 => N (sh fi61_25 [.ptr 1 0, .ptr 2 0, .ptr 3 0, .ptr 4 0] [zr5 v.2.1.1 v.2.1.2.1 v.2.1.2.2.1 v.2.1.2.2.2.1 v.2.1.2.2.2.2.1, zr8 p5 v.2.2.1.2.1 v.2.2.1.2.2.1 v.2.2.1.2.2.2.1 v.2.2.1.2.2.2.2.1 v.2.2.1.2.2.2.2.2.1 v.2.2.1.2.2.2.2.2.2.1 v.2.2.1.2.2.2.2.2.2.2.1 u0.2.1, zr6 v.2.2.2.1.1 v.2.2.2.1.2.1 v.2.2.2.1.2.2.1 v.2.2.2.1.2.2.2.1 v.2.2.2.1.2.2.2.2.1 v.2.2.2.1.2.2.2.2.2.1 v.2.2.2.1.2.2.2.2.2.2.1 v.2.2.2.1.2.2.2.2.2.2.2.1 u1.2.1, zr7 v.2.2.2.2.1.1 v.2.2.2.2.1.2.1 v.2.2.2.2.1.2.2.1 v.2.2.2.2.1.2.2.2.2.2.1 v.2.2.2.2.1.2.2.2.2.2.2.1 v.2.2.2.2.1.2.2.2.2.2.2.2.1 u2.2.1])) v.1.2.2.2.2.1 v.2.2.1.1) (I61_1000025 k K ws rs N X) ws rs
noncomputable abbrev I61_1000030 : Option R := inner T an61 (modesOf F) 0 k 169 (S61 k) (E61 K) cd61_1000030 (sh sp61_1000030 ws rs) N X
abbrev aa61_1000030 : List Sh := [.ptr 1 0, .ptr 2 0, .val [] .bool, .val [] .bool]
abbrev ab61_1000030 : List RSh := [zs5, zs4]
noncomputable def L61_1000030 : Option R :=
  onShape aa61_1000030 ab61_1000030 (fun v => let u0 := v.2.1.2.2.2.2.2.2.2; let u1 := v.2.2.1.2.2.2.2.2.2.2; f61_1000030 k (fun p1 => N (sh fi61_30 [.ptr 1 0, .ptr 2 0, .val [] .bool v.1.2.2.1] [zr8 p1 v.2.1.2.1 v.2.1.2.2.1 v.2.1.2.2.2.1 v.2.1.2.2.2.2.1 v.2.1.2.2.2.2.2.1 v.2.1.2.2.2.2.2.2.1 v.2.1.2.2.2.2.2.2.2.1 u0.2.1, zr7 v.2.2.1.1 v.2.2.1.2.1 v.2.2.1.2.2.1 v.2.2.1.2.2.2.2.2.1 v.2.2.1.2.2.2.2.2.2.1 v.2.2.1.2.2.2.2.2.2.2.1 u1.2.1])) v.1.2.2.2.1 v.2.1.1) (I61_1000030 k K ws rs N X) ws rs
noncomputable def L61 : Option R := bif id == 1000018 then L61_1000018 k K ws rs N X else bif id == 1000023 then L61_1000023 k K ws rs N X else bif id == 1000015 then L61_1000015 k K ws rs N X else bif id == 1000025 then L61_1000025 k K ws rs N X else bif id == 1000030 then L61_1000030 k K ws rs N X else none
theorem l61_1000018 : L61 k K 1000018 ws rs N X = I61_1000018 k K ws rs N X := by
  show L61_1000018 k K ws rs N X = _
  unfold L61_1000018
  rw [f61_1000018_def]
  exact lC (L61 k K) [] (by kernel_rfl) trivial fun x y => by kernel_rfl
theorem l61_1000023 : L61 k K 1000023 ws rs N X = I61_1000023 k K ws rs N X := by
  show L61_1000023 k K ws rs N X = _
  unfold L61_1000023
  rw [f61_1000023_def]
  exact lC (L61 k K) [] (by kernel_rfl) trivial fun x y => by kernel_rfl
theorem l61_1000015 : L61 k K 1000015 ws rs N X = I61_1000015 k K ws rs N X := by
  show L61_1000015 k K ws rs N X = _
  unfold L61_1000015
  rw [f61_1000015_def]
  exact lC (L61 k K) [(1000018, sp61_1000018, cd61_1000018), (1000023, sp61_1000023, cd61_1000023)] (by kernel_rfl) ⟨l61_1000018 k K, l61_1000023 k K, trivial⟩ fun x y => by kernel_rfl
theorem l61_1000025 : L61 k K 1000025 ws rs N X = I61_1000025 k K ws rs N X := by
  show L61_1000025 k K ws rs N X = _
  unfold L61_1000025
  rw [f61_1000025_def]
  exact lC (L61 k K) [] (by kernel_rfl) trivial fun x y => by kernel_rfl
theorem l61_1000030 : L61 k K 1000030 ws rs N X = I61_1000030 k K ws rs N X := by
  show L61_1000030 k K ws rs N X = _
  unfold L61_1000030
  rw [f61_1000030_def]
  exact lC (L61 k K) [] (by kernel_rfl) trivial fun x y => by kernel_rfl
theorem tu61 : tOk (R := R) 61 aa61 ab61 g61 := by
  intro k x y K
  unfold g61
  rw [f61_def]
  cases k with
  | zero => rfl
  | succ k => exact eS Tryz.f61 an61 0 169 (L61 k K) [(1000015, sp61_1000015, cd61_1000015), (1000025, sp61_1000025, cd61_1000025), (1000030, sp61_1000030, cd61_1000030)] (by kernel_rfl) (S61_eq k) (by kernel_rfl) ⟨l61_1000015 k K, l61_1000025 k K, l61_1000030 k K, trivial⟩ (by kernel_rfl)
noncomputable def s61 := onS (R := R) aa61 ab61 g61 (fun k => callC T F k 61)
theorem s61_eq : sOk (R := R) s61 61 := onS_eq (fun _ _ _ _ => rfl) tu61
noncomputable abbrev kt62 : zK3 R := (fun z0 z1 z2 z3 z4 z5 z6 z7 z8 z9 z10 z11 z12 z13 z14 z15 z16 z17 z18 z19 z20 z21 z22 z23 z24 z25 z26 z27 z28 => K [] [zr1 z0 z1 z2 z3 z4 z5 z6 z7 z8 z9 z10 z11 z12 z13 z14 z15 z16 z17 z18 z19 z20 z21 z22 z23 z24 z25 z26, ⟨0, .gone⟩, ⟨0, .gone⟩, zr2 z27, zr2 z28])
abbrev aa62 : List Sh := [.ptr 1 25, zv, .val [(0, 0)] (.slice zP0)]
abbrev ab62 : List RSh := [zs0, .arr [(0, 0)] zP2, .arr [(0, 0)] zP2]
noncomputable def g62 (k : Nat) (v : Sh.D.DL aa62 × RSh.DL ab62) (K : KT R) : Option R := let u0 := v.2.1.2.2.2.2.2.2.2; let u1 := u0.2.2.2.2.2.2.2; let u2 := u1.2.2.2.2.2.2.2; f62 k v.1.2.1 v.1.2.2.1 v.2.1.1 v.2.1.2.1 v.2.1.2.2.1 v.2.1.2.2.2.1 v.2.1.2.2.2.2.1 v.2.1.2.2.2.2.2.1 v.2.1.2.2.2.2.2.2.1 v.2.1.2.2.2.2.2.2.2.1 u0.2.1 u0.2.2.1 u0.2.2.2.1 u0.2.2.2.2.1 u0.2.2.2.2.2.1 u0.2.2.2.2.2.2.1 u0.2.2.2.2.2.2.2.1 u1.2.1 u1.2.2.1 u1.2.2.2.1 u1.2.2.2.2.1 u1.2.2.2.2.2.1 u1.2.2.2.2.2.2.1 u1.2.2.2.2.2.2.2.1 u2.2.1 u2.2.2.1 u2.2.2.2.2.1 u2.2.2.2.2.2.1 u2.2.2.2.2.2.2.2.1 v.2.2.1 v.2.2.2.1 (kt62 K)
noncomputable abbrev E62 := ending T Tryz.f62 an62 3 K
noncomputable def S62 := pickS (R := R) []
theorem S62_eq : ∀ k, S62 (R := R) k = callC T F k := pickS_eq trivial
noncomputable abbrev I62_1000004 : Option R := inner T an62 (modesOf F) 3 k 57 (S62 k) (E62 K) cd62_1000004 (sh sp62_1000004 ws rs) N X
abbrev aa62_1000004 : List Sh := [.ptr 1 25, zv, .ptr 6 0, .val [(0, 0)] (.slice zP0), zv, zv, .val [] .bool]
abbrev ab62_1000004 : List RSh := [zs1, .gone, .gone, .arr [(0, 0)] zP2, .arr [(0, 0)] zP2, zs3]
noncomputable def L62_1000004 : Option R :=
  onShape aa62_1000004 ab62_1000004 (fun v => let u0 := v.2.1.2.2.2.2.2.2.2; let u1 := u0.2.2.2.2.2.2.2; let u2 := u1.2.2.2.2.2.2.2; let u3 := v.2.2.2.2.2.2.1.2.2.2.2.2.2.2; f62_1000004 k (fun p32 => N (sh fi62_4 [.ptr 1 25, zi v.1.2.1, .val [(0, 0)] (.slice zP0) v.1.2.2.2.1, zi v.1.2.2.2.2.1, zi v.1.2.2.2.2.2.1] [zr1 v.2.1.1 v.2.1.2.1 v.2.1.2.2.1 v.2.1.2.2.2.1 v.2.1.2.2.2.2.1 v.2.1.2.2.2.2.2.1 v.2.1.2.2.2.2.2.2.1 v.2.1.2.2.2.2.2.2.2.1 u0.2.1 u0.2.2.1 u0.2.2.2.1 u0.2.2.2.2.1 u0.2.2.2.2.2.1 u0.2.2.2.2.2.2.1 u0.2.2.2.2.2.2.2.1 u1.2.1 u1.2.2.1 u1.2.2.2.1 u1.2.2.2.2.1 u1.2.2.2.2.2.1 u1.2.2.2.2.2.2.1 u1.2.2.2.2.2.2.2.1 u2.2.1 u2.2.2.1 u2.2.2.2.2.1 u2.2.2.2.2.2.1 u2.2.2.2.2.2.2.2.1, ⟨0, .gone⟩, ⟨0, .gone⟩, zr2 v.2.2.2.2.1, zr2 p32])) v.1.2.1 v.1.2.2.2.2.2.2.1 v.2.2.2.2.2.1 v.2.2.2.2.2.2.1.1 v.2.2.2.2.2.2.1.2.1 v.2.2.2.2.2.2.1.2.2.1 v.2.2.2.2.2.2.1.2.2.2.1 v.2.2.2.2.2.2.1.2.2.2.2.1 v.2.2.2.2.2.2.1.2.2.2.2.2.1 v.2.2.2.2.2.2.1.2.2.2.2.2.2.1 v.2.2.2.2.2.2.1.2.2.2.2.2.2.2.1 u3.2.1) (I62_1000004 k K ws rs N X) ws rs
noncomputable abbrev I62_0 : Option R := inner T an62 (modesOf F) 3 k 57 (S62 k) (E62 K) cd62_0 (sh sp62_0 ws rs) N X
abbrev aa62_0 : List Sh := [.ptr 1 25, zv, .val [(0, 0)] (.slice zP0), zv, zv]
abbrev ab62_0 : List RSh := [zs1, .gone, .gone, .arr [(0, 0)] zP2, .arr [(0, 0)] zP2]
noncomputable def L62_0 : Option R :=
  onShape aa62_0 ab62_0 (fun v => let u0 := v.2.1.2.2.2.2.2.2.2; let u1 := u0.2.2.2.2.2.2.2; let u2 := u1.2.2.2.2.2.2.2; f62_0 k (fun p25 p28 => N (sh jn62_0 [] [zr1 v.2.1.1 v.2.1.2.1 v.2.1.2.2.1 v.2.1.2.2.2.1 v.2.1.2.2.2.2.1 v.2.1.2.2.2.2.2.1 v.2.1.2.2.2.2.2.2.1 v.2.1.2.2.2.2.2.2.2.1 u0.2.1 u0.2.2.1 u0.2.2.2.1 u0.2.2.2.2.1 u0.2.2.2.2.2.1 u0.2.2.2.2.2.2.1 u0.2.2.2.2.2.2.2.1 u1.2.1 u1.2.2.1 u1.2.2.2.1 u1.2.2.2.2.1 u1.2.2.2.2.2.1 u1.2.2.2.2.2.2.1 u1.2.2.2.2.2.2.2.1 u2.2.1 u2.2.2.1 u2.2.2.2.2.1 p25 u2.2.2.2.2.2.2.2.1, ⟨0, .gone⟩, ⟨0, .gone⟩, zr2 v.2.2.2.2.1, zr2 p28])) v.1.2.1 v.1.2.2.1 v.1.2.2.2.1 v.2.1.1 v.2.1.2.1 v.2.1.2.2.1 v.2.1.2.2.2.1 v.2.1.2.2.2.2.1 v.2.1.2.2.2.2.2.1 v.2.1.2.2.2.2.2.2.1 v.2.1.2.2.2.2.2.2.2.1 u0.2.1 u0.2.2.1 u0.2.2.2.1 u0.2.2.2.2.1 u0.2.2.2.2.2.1 u0.2.2.2.2.2.2.1 u0.2.2.2.2.2.2.2.1 u1.2.1 u1.2.2.1 u1.2.2.2.1 u1.2.2.2.2.1 u1.2.2.2.2.2.1 u1.2.2.2.2.2.2.1 u1.2.2.2.2.2.2.2.1 u2.2.1 u2.2.2.1 u2.2.2.2.2.1 u2.2.2.2.2.2.2.2.1 v.2.2.2.2.1 k v.1.2.2.2.2.1 u2.2.2.2.2.2.1 v.2.2.2.2.2.1) (I62_0 k K ws rs N X) ws rs
noncomputable def L62 : Option R := bif id == 1000004 then L62_1000004 k K ws rs N X else bif id == 0 then L62_0 k K ws rs N X else none
theorem l62_1000004 : L62 k K 1000004 ws rs N X = I62_1000004 k K ws rs N X := by
  show L62_1000004 k K ws rs N X = _
  unfold L62_1000004
  rw [f62_1000004_def]
  exact lC (L62 k K) [] (by kernel_rfl) trivial fun x y => by kernel_rfl
theorem i62_0 (c0 : Int) (c1 : zL2) (c2 c4 c5 c6 c7 c8 c9 c10 : Int) (c11 : ByteArray) (c12 : List Int) (c13 : Int) (c14 : zL5) (c15 c16 c17 c18 : Int) (c19 : ByteArray) (c20 : List Int) (c21 : zL5) (c22 c23 c24 c25 : Int) (c26 : List Bool) (c27 : Int) (c28 : List Bool) (c30 : Int) (c31 : zL1) (m : Nat) : ∀ (c3 c29 : Int) (c32 : zL1),
    iter (atHead an62 3 bd62_0) m (fun st N' => exec T an62 (modesOf F) 3 k 57 (S62 k) (E62 K) bd62_0 st N' (outX an62 3 0 N X)) (sh sp62_0 [.ptr 1 25, zi c0, .val [(0, 0)] (.slice zP0) c1, zi c2, zi c3] [zr1 c4 c5 c6 c7 c8 c9 c10 c11 c12 c13 c14 c15 c16 c17 c18 c19 c20 c21 c22 c23 c24 c25 c26 c27 c28 c29 c30, ⟨0, .gone⟩, ⟨0, .gone⟩, zr2 c31, zr2 c32]) = f62_0d k (fun p25 p28 => N (sh jn62_0 [] [zr1 c4 c5 c6 c7 c8 c9 c10 c11 c12 c13 c14 c15 c16 c17 c18 c19 c20 c21 c22 c23 c24 c25 c26 c27 c28 p25 c30, ⟨0, .gone⟩, ⟨0, .gone⟩, zr2 c31, zr2 p28])) c0 c1 c2 c4 c5 c6 c7 c8 c9 c10 c11 c12 c13 c14 c15 c16 c17 c18 c19 c20 c21 c22 c23 c24 c25 c26 c27 c28 c30 c31 m c3 c29 c32 := by
  induction m with
  | zero => intros; rfl
  | succ m ih =>
    intro c3 c29 c32
    simp only [iter]
    rw [← execS_eq T an62 (modesOf F) 3 k 57 (S62 k) (L62 k K) bd62_0 (cuts_of _ _ _ _ _ _ _ _ bd62_0 (l := [(1000004, sp62_1000004, cd62_1000004)]) (by kernel_rfl) ⟨l62_1000004 k K, trivial⟩)]
    have h := fx3 ih
    simp only [f62_0d]
    rw [← h]
    show _ = _
    kernel_rfl
theorem l62_0 : L62 k K 0 ws rs N X = I62_0 k K ws rs N X := by
  show L62_0 k K ws rs N X = _
  unfold L62_0
  rw [f62_0_def]
  exact onShape_eq (a := aa62_0) (b := ab62_0) (G := fun ws rs => I62_0 k K ws rs N X) (fun x y => Eq.trans (by kernel_rfl) (Eq.trans (i62_0 k K N X x.2.1 x.2.2.1 x.2.2.2.1 y.1.1 y.1.2.1 y.1.2.2.1 y.1.2.2.2.1 y.1.2.2.2.2.1 y.1.2.2.2.2.2.1 y.1.2.2.2.2.2.2.1 y.1.2.2.2.2.2.2.2.1 y.1.2.2.2.2.2.2.2.2.1 y.1.2.2.2.2.2.2.2.2.2.1 y.1.2.2.2.2.2.2.2.2.2.2.1 y.1.2.2.2.2.2.2.2.2.2.2.2.1 y.1.2.2.2.2.2.2.2.2.2.2.2.2.1 y.1.2.2.2.2.2.2.2.2.2.2.2.2.2.1 y.1.2.2.2.2.2.2.2.2.2.2.2.2.2.2.1 y.1.2.2.2.2.2.2.2.2.2.2.2.2.2.2.2.1 y.1.2.2.2.2.2.2.2.2.2.2.2.2.2.2.2.2.1 y.1.2.2.2.2.2.2.2.2.2.2.2.2.2.2.2.2.2.1 y.1.2.2.2.2.2.2.2.2.2.2.2.2.2.2.2.2.2.2.1 y.1.2.2.2.2.2.2.2.2.2.2.2.2.2.2.2.2.2.2.2.1 y.1.2.2.2.2.2.2.2.2.2.2.2.2.2.2.2.2.2.2.2.2.1 y.1.2.2.2.2.2.2.2.2.2.2.2.2.2.2.2.2.2.2.2.2.2.1 y.1.2.2.2.2.2.2.2.2.2.2.2.2.2.2.2.2.2.2.2.2.2.2.1 y.1.2.2.2.2.2.2.2.2.2.2.2.2.2.2.2.2.2.2.2.2.2.2.2.1 y.1.2.2.2.2.2.2.2.2.2.2.2.2.2.2.2.2.2.2.2.2.2.2.2.2.2.1 y.1.2.2.2.2.2.2.2.2.2.2.2.2.2.2.2.2.2.2.2.2.2.2.2.2.2.2.2.2.1 y.2.2.2.1 k x.2.2.2.2.1 y.1.2.2.2.2.2.2.2.2.2.2.2.2.2.2.2.2.2.2.2.2.2.2.2.2.2.2.1 y.2.2.2.2.1).symm (by kernel_rfl))) ws rs
theorem tu62 : tOk (R := R) 62 aa62 ab62 g62 := by
  intro k x y K
  unfold g62
  rw [f62_def]
  cases k with
  | zero => rfl
  | succ k => exact eS Tryz.f62 an62 3 57 (L62 k K) [(0, sp62_0, cd62_0)] (by kernel_rfl) (S62_eq k) (by kernel_rfl) ⟨l62_0 k K, trivial⟩ (by kernel_rfl)
noncomputable def s62 := onS (R := R) aa62 ab62 g62 (fun k => callC T F k 62)
theorem s62_eq : sOk (R := R) s62 62 := onS_eq (fun _ _ _ _ => rfl) tu62
end Go.Proofs.YtoepnomdklhhlaaGreat.PM
