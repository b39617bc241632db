/- The small machine's run is the typed form (printed by a program of this work). -/
import Derived.Test.YtoepnomdklhhlaaPA0
set_option linter.unusedVariables false
set_option linter.unusedSimpArgs false
set_option maxRecDepth 100000
namespace Go.Proofs.Ytoepnomdklhhlaa.PM
open Go
abbrev KT (R : Type) := List PV → List RowS → Option R
noncomputable def F : Nat → Option PFn := findN [(9, .code Try.f9 an9), (20, .code Try.f20 an20), (10, .code Try.f10 an10), (4, .code Try.f4 an4), (21, .code Try.f21 an21), (22, .code Try.f22 an22), (23, .code Try.f23 an23), (47, .code Try.f47 an47), (36, .code Try.f36 an36), (24, .code Try.f24 an24), (11, .code Try.f11 an11), (25, .code Try.f25 an25), (12, .code Try.f12 an12), (13, .code Try.f13 an13), (5, .code Try.f5 an5), (14, .code Try.f14 an14), (37, .code Try.f37 an37), (26, .code Try.f26 an26), (27, .ext [.lend (.int .u8)] (cloneSpec (.int .u8) 1)), (15, .code Try.f15 an15), (16, .code Try.f16 an16), (28, .code Try.f28 an28), (38, .code Try.f38 an38), (48, .ext [.lend (.int .u8), .any] repSpec), (49, .code Try.f49 an49), (63, .code Try.f63 an63), (58, .code Try.f58 an58), (59, .ext [.any, .any] (sortSpec 60)), (50, .code Try.f50 an50), (39, .code Try.f39 an39), (40, .code Try.f40 an40), (41, .code Try.f41 an41), (53, .code Try.f53 an53), (51, .code Try.f51 an51), (42, .code Try.f42 an42), (29, .code Try.f29 an29), (30, .code Try.f30 an30), (52, .code Try.f52 an52), (43, .code Try.f43 an43), (31, .code Try.f31 an31), (44, .code Try.f44 an44), (54, .ext [.lend zP1] (cloneSpec zP1 16)), (55, .code Try.f55 an55), (45, .code Try.f45 an45), (32, .code Try.f32 an32), (33, .code Try.f33 an33), (17, .code Try.f17 an17), (6, .code Try.f6 an6), (19, .code Try.f19 an19), (34, .code Try.f34 an34), (35, .code Try.f35 an35), (18, .code Try.f18 an18), (7, .code Try.f7 an7), (8, .code Try.f8 an8), (3, .code Try.f3 an3)]
theorem fx1 {α β : Type} {f g : α → β} (h : ∀ a, f a = g a) : f = g := funext h
theorem fx2 {α0 α1 β : Type} {f g : α0 → α1 → β} (h : ∀ a0 a1, f a0 a1 = g a0 a1) : f = g := funext fun a0 => fx1 fun a1 => h a0 a1
theorem fx3 {α0 α1 α2 β : Type} {f g : α0 → α1 → α2 → β} (h : ∀ a0 a1 a2, f a0 a1 a2 = g a0 a1 a2) : f = g := funext fun a0 => fx2 fun a1 a2 => h a0 a1 a2
theorem fx4 {α0 α1 α2 α3 β : Type} {f g : α0 → α1 → α2 → α3 → β} (h : ∀ a0 a1 a2 a3, f a0 a1 a2 a3 = g a0 a1 a2 a3) : f = g := funext fun a0 => fx3 fun a1 a2 a3 => h a0 a1 a2 a3
theorem fx5 {α0 α1 α2 α3 α4 β : Type} {f g : α0 → α1 → α2 → α3 → α4 → β} (h : ∀ a0 a1 a2 a3 a4, f a0 a1 a2 a3 a4 = g a0 a1 a2 a3 a4) : f = g := funext fun a0 => fx4 fun a1 a2 a3 a4 => h a0 a1 a2 a3 a4
theorem fx6 {α0 α1 α2 α3 α4 α5 β : Type} {f g : α0 → α1 → α2 → α3 → α4 → α5 → β} (h : ∀ a0 a1 a2 a3 a4 a5, f a0 a1 a2 a3 a4 a5 = g a0 a1 a2 a3 a4 a5) : f = g := funext fun a0 => fx5 fun a1 a2 a3 a4 a5 => h a0 a1 a2 a3 a4 a5
theorem fx7 {α0 α1 α2 α3 α4 α5 α6 β : Type} {f g : α0 → α1 → α2 → α3 → α4 → α5 → α6 → β} (h : ∀ a0 a1 a2 a3 a4 a5 a6, f a0 a1 a2 a3 a4 a5 a6 = g a0 a1 a2 a3 a4 a5 a6) : f = g := funext fun a0 => fx6 fun a1 a2 a3 a4 a5 a6 => h a0 a1 a2 a3 a4 a5 a6
theorem fx8 {α0 α1 α2 α3 α4 α5 α6 α7 β : Type} {f g : α0 → α1 → α2 → α3 → α4 → α5 → α6 → α7 → β} (h : ∀ a0 a1 a2 a3 a4 a5 a6 a7, f a0 a1 a2 a3 a4 a5 a6 a7 = g a0 a1 a2 a3 a4 a5 a6 a7) : f = g := funext fun a0 => fx7 fun a1 a2 a3 a4 a5 a6 a7 => h a0 a1 a2 a3 a4 a5 a6 a7
theorem fx9 {α0 α1 α2 α3 α4 α5 α6 α7 α8 β : Type} {f g : α0 → α1 → α2 → α3 → α4 → α5 → α6 → α7 → α8 → β} (h : ∀ a0 a1 a2 a3 a4 a5 a6 a7 a8, f a0 a1 a2 a3 a4 a5 a6 a7 a8 = g a0 a1 a2 a3 a4 a5 a6 a7 a8) : f = g := funext fun a0 => fx8 fun a1 a2 a3 a4 a5 a6 a7 a8 => h a0 a1 a2 a3 a4 a5 a6 a7 a8
theorem fx10 {α0 α1 α2 α3 α4 α5 α6 α7 α8 α9 β : Type} {f g : α0 → α1 → α2 → α3 → α4 → α5 → α6 → α7 → α8 → α9 → β} (h : ∀ a0 a1 a2 a3 a4 a5 a6 a7 a8 a9, f a0 a1 a2 a3 a4 a5 a6 a7 a8 a9 = g a0 a1 a2 a3 a4 a5 a6 a7 a8 a9) : f = g := funext fun a0 => fx9 fun a1 a2 a3 a4 a5 a6 a7 a8 a9 => h a0 a1 a2 a3 a4 a5 a6 a7 a8 a9
theorem fx11 {α0 α1 α2 α3 α4 α5 α6 α7 α8 α9 α10 β : Type} {f g : α0 → α1 → α2 → α3 → α4 → α5 → α6 → α7 → α8 → α9 → α10 → β} (h : ∀ a0 a1 a2 a3 a4 a5 a6 a7 a8 a9 a10, f a0 a1 a2 a3 a4 a5 a6 a7 a8 a9 a10 = g a0 a1 a2 a3 a4 a5 a6 a7 a8 a9 a10) : f = g := funext fun a0 => fx10 fun a1 a2 a3 a4 a5 a6 a7 a8 a9 a10 => h a0 a1 a2 a3 a4 a5 a6 a7 a8 a9 a10
theorem fx12 {α0 α1 α2 α3 α4 α5 α6 α7 α8 α9 α10 α11 β : Type} {f g : α0 → α1 → α2 → α3 → α4 → α5 → α6 → α7 → α8 → α9 → α10 → α11 → β} (h : ∀ a0 a1 a2 a3 a4 a5 a6 a7 a8 a9 a10 a11, f a0 a1 a2 a3 a4 a5 a6 a7 a8 a9 a10 a11 = g a0 a1 a2 a3 a4 a5 a6 a7 a8 a9 a10 a11) : f = g := funext fun a0 => fx11 fun a1 a2 a3 a4 a5 a6 a7 a8 a9 a10 a11 => h a0 a1 a2 a3 a4 a5 a6 a7 a8 a9 a10 a11
theorem fx13 {α0 α1 α2 α3 α4 α5 α6 α7 α8 α9 α10 α11 α12 β : Type} {f g : α0 → α1 → α2 → α3 → α4 → α5 → α6 → α7 → α8 → α9 → α10 → α11 → α12 → β} (h : ∀ a0 a1 a2 a3 a4 a5 a6 a7 a8 a9 a10 a11 a12, f a0 a1 a2 a3 a4 a5 a6 a7 a8 a9 a10 a11 a12 = g a0 a1 a2 a3 a4 a5 a6 a7 a8 a9 a10 a11 a12) : f = g := funext fun a0 => fx12 fun a1 a2 a3 a4 a5 a6 a7 a8 a9 a10 a11 a12 => h a0 a1 a2 a3 a4 a5 a6 a7 a8 a9 a10 a11 a12
theorem fx14 {α0 α1 α2 α3 α4 α5 α6 α7 α8 α9 α10 α11 α12 α13 β : Type} {f g : α0 → α1 → α2 → α3 → α4 → α5 → α6 → α7 → α8 → α9 → α10 → α11 → α12 → α13 → β} (h : ∀ a0 a1 a2 a3 a4 a5 a6 a7 a8 a9 a10 a11 a12 a13, f a0 a1 a2 a3 a4 a5 a6 a7 a8 a9 a10 a11 a12 a13 = g a0 a1 a2 a3 a4 a5 a6 a7 a8 a9 a10 a11 a12 a13) : f = g := funext fun a0 => fx13 fun a1 a2 a3 a4 a5 a6 a7 a8 a9 a10 a11 a12 a13 => h a0 a1 a2 a3 a4 a5 a6 a7 a8 a9 a10 a11 a12 a13
theorem fx15 {α0 α1 α2 α3 α4 α5 α6 α7 α8 α9 α10 α11 α12 α13 α14 β : Type} {f g : α0 → α1 → α2 → α3 → α4 → α5 → α6 → α7 → α8 → α9 → α10 → α11 → α12 → α13 → α14 → β} (h : ∀ a0 a1 a2 a3 a4 a5 a6 a7 a8 a9 a10 a11 a12 a13 a14, f a0 a1 a2 a3 a4 a5 a6 a7 a8 a9 a10 a11 a12 a13 a14 = g a0 a1 a2 a3 a4 a5 a6 a7 a8 a9 a10 a11 a12 a13 a14) : f = g := funext fun a0 => fx14 fun a1 a2 a3 a4 a5 a6 a7 a8 a9 a10 a11 a12 a13 a14 => h a0 a1 a2 a3 a4 a5 a6 a7 a8 a9 a10 a11 a12 a13 a14
theorem fx16 {α0 α1 α2 α3 α4 α5 α6 α7 α8 α9 α10 α11 α12 α13 α14 α15 β : Type} {f g : α0 → α1 → α2 → α3 → α4 → α5 → α6 → α7 → α8 → α9 → α10 → α11 → α12 → α13 → α14 → α15 → β} (h : ∀ a0 a1 a2 a3 a4 a5 a6 a7 a8 a9 a10 a11 a12 a13 a14 a15, f a0 a1 a2 a3 a4 a5 a6 a7 a8 a9 a10 a11 a12 a13 a14 a15 = g a0 a1 a2 a3 a4 a5 a6 a7 a8 a9 a10 a11 a12 a13 a14 a15) : f = g := funext fun a0 => fx15 fun a1 a2 a3 a4 a5 a6 a7 a8 a9 a10 a11 a12 a13 a14 a15 => h a0 a1 a2 a3 a4 a5 a6 a7 a8 a9 a10 a11 a12 a13 a14 a15
theorem fx17 {α0 α1 α2 α3 α4 α5 α6 α7 α8 α9 α10 α11 α12 α13 α14 α15 α16 β : Type} {f g : α0 → α1 → α2 → α3 → α4 → α5 → α6 → α7 → α8 → α9 → α10 → α11 → α12 → α13 → α14 → α15 → α16 → β} (h : ∀ a0 a1 a2 a3 a4 a5 a6 a7 a8 a9 a10 a11 a12 a13 a14 a15 a16, f a0 a1 a2 a3 a4 a5 a6 a7 a8 a9 a10 a11 a12 a13 a14 a15 a16 = g a0 a1 a2 a3 a4 a5 a6 a7 a8 a9 a10 a11 a12 a13 a14 a15 a16) : f = g := funext fun a0 => fx16 fun a1 a2 a3 a4 a5 a6 a7 a8 a9 a10 a11 a12 a13 a14 a15 a16 => h a0 a1 a2 a3 a4 a5 a6 a7 a8 a9 a10 a11 a12 a13 a14 a15 a16
theorem fx18 {α0 α1 α2 α3 α4 α5 α6 α7 α8 α9 α10 α11 α12 α13 α14 α15 α16 α17 β : Type} {f g : α0 → α1 → α2 → α3 → α4 → α5 → α6 → α7 → α8 → α9 → α10 → α11 → α12 → α13 → α14 → α15 → α16 → α17 → β} (h : ∀ a0 a1 a2 a3 a4 a5 a6 a7 a8 a9 a10 a11 a12 a13 a14 a15 a16 a17, f a0 a1 a2 a3 a4 a5 a6 a7 a8 a9 a10 a11 a12 a13 a14 a15 a16 a17 = g a0 a1 a2 a3 a4 a5 a6 a7 a8 a9 a10 a11 a12 a13 a14 a15 a16 a17) : f = g := funext fun a0 => fx17 fun a1 a2 a3 a4 a5 a6 a7 a8 a9 a10 a11 a12 a13 a14 a15 a16 a17 => h a0 a1 a2 a3 a4 a5 a6 a7 a8 a9 a10 a11 a12 a13 a14 a15 a16 a17
theorem fx19 {α0 α1 α2 α3 α4 α5 α6 α7 α8 α9 α10 α11 α12 α13 α14 α15 α16 α17 α18 β : Type} {f g : α0 → α1 → α2 → α3 → α4 → α5 → α6 → α7 → α8 → α9 → α10 → α11 → α12 → α13 → α14 → α15 → α16 → α17 → α18 → β} (h : ∀ a0 a1 a2 a3 a4 a5 a6 a7 a8 a9 a10 a11 a12 a13 a14 a15 a16 a17 a18, f a0 a1 a2 a3 a4 a5 a6 a7 a8 a9 a10 a11 a12 a13 a14 a15 a16 a17 a18 = g a0 a1 a2 a3 a4 a5 a6 a7 a8 a9 a10 a11 a12 a13 a14 a15 a16 a17 a18) : f = g := funext fun a0 => fx18 fun a1 a2 a3 a4 a5 a6 a7 a8 a9 a10 a11 a12 a13 a14 a15 a16 a17 a18 => h a0 a1 a2 a3 a4 a5 a6 a7 a8 a9 a10 a11 a12 a13 a14 a15 a16 a17 a18
theorem fx20 {α0 α1 α2 α3 α4 α5 α6 α7 α8 α9 α10 α11 α12 α13 α14 α15 α16 α17 α18 α19 β : Type} {f g : α0 → α1 → α2 → α3 → α4 → α5 → α6 → α7 → α8 → α9 → α10 → α11 → α12 → α13 → α14 → α15 → α16 → α17 → α18 → α19 → β} (h : ∀ a0 a1 a2 a3 a4 a5 a6 a7 a8 a9 a10 a11 a12 a13 a14 a15 a16 a17 a18 a19, f a0 a1 a2 a3 a4 a5 a6 a7 a8 a9 a10 a11 a12 a13 a14 a15 a16 a17 a18 a19 = g a0 a1 a2 a3 a4 a5 a6 a7 a8 a9 a10 a11 a12 a13 a14 a15 a16 a17 a18 a19) : f = g := funext fun a0 => fx19 fun a1 a2 a3 a4 a5 a6 a7 a8 a9 a10 a11 a12 a13 a14 a15 a16 a17 a18 a19 => h a0 a1 a2 a3 a4 a5 a6 a7 a8 a9 a10 a11 a12 a13 a14 a15 a16 a17 a18 a19
theorem fx21 {α0 α1 α2 α3 α4 α5 α6 α7 α8 α9 α10 α11 α12 α13 α14 α15 α16 α17 α18 α19 α20 β : Type} {f g : α0 → α1 → α2 → α3 → α4 → α5 → α6 → α7 → α8 → α9 → α10 → α11 → α12 → α13 → α14 → α15 → α16 → α17 → α18 → α19 → α20 → β} (h : ∀ a0 a1 a2 a3 a4 a5 a6 a7 a8 a9 a10 a11 a12 a13 a14 a15 a16 a17 a18 a19 a20, f a0 a1 a2 a3 a4 a5 a6 a7 a8 a9 a10 a11 a12 a13 a14 a15 a16 a17 a18 a19 a20 = g a0 a1 a2 a3 a4 a5 a6 a7 a8 a9 a10 a11 a12 a13 a14 a15 a16 a17 a18 a19 a20) : f = g := funext fun a0 => fx20 fun a1 a2 a3 a4 a5 a6 a7 a8 a9 a10 a11 a12 a13 a14 a15 a16 a17 a18 a19 a20 => h a0 a1 a2 a3 a4 a5 a6 a7 a8 a9 a10 a11 a12 a13 a14 a15 a16 a17 a18 a19 a20
theorem fx22 {α0 α1 α2 α3 α4 α5 α6 α7 α8 α9 α10 α11 α12 α13 α14 α15 α16 α17 α18 α19 α20 α21 β : Type} {f g : α0 → α1 → α2 → α3 → α4 → α5 → α6 → α7 → α8 → α9 → α10 → α11 → α12 → α13 → α14 → α15 → α16 → α17 → α18 → α19 → α20 → α21 → β} (h : ∀ a0 a1 a2 a3 a4 a5 a6 a7 a8 a9 a10 a11 a12 a13 a14 a15 a16 a17 a18 a19 a20 a21, f a0 a1 a2 a3 a4 a5 a6 a7 a8 a9 a10 a11 a12 a13 a14 a15 a16 a17 a18 a19 a20 a21 = g a0 a1 a2 a3 a4 a5 a6 a7 a8 a9 a10 a11 a12 a13 a14 a15 a16 a17 a18 a19 a20 a21) : f = g := funext fun a0 => fx21 fun a1 a2 a3 a4 a5 a6 a7 a8 a9 a10 a11 a12 a13 a14 a15 a16 a17 a18 a19 a20 a21 => h a0 a1 a2 a3 a4 a5 a6 a7 a8 a9 a10 a11 a12 a13 a14 a15 a16 a17 a18 a19 a20 a21
theorem fx23 {α0 α1 α2 α3 α4 α5 α6 α7 α8 α9 α10 α11 α12 α13 α14 α15 α16 α17 α18 α19 α20 α21 α22 β : Type} {f g : α0 → α1 → α2 → α3 → α4 → α5 → α6 → α7 → α8 → α9 → α10 → α11 → α12 → α13 → α14 → α15 → α16 → α17 → α18 → α19 → α20 → α21 → α22 → β} (h : ∀ a0 a1 a2 a3 a4 a5 a6 a7 a8 a9 a10 a11 a12 a13 a14 a15 a16 a17 a18 a19 a20 a21 a22, f a0 a1 a2 a3 a4 a5 a6 a7 a8 a9 a10 a11 a12 a13 a14 a15 a16 a17 a18 a19 a20 a21 a22 = g a0 a1 a2 a3 a4 a5 a6 a7 a8 a9 a10 a11 a12 a13 a14 a15 a16 a17 a18 a19 a20 a21 a22) : f = g := funext fun a0 => fx22 fun a1 a2 a3 a4 a5 a6 a7 a8 a9 a10 a11 a12 a13 a14 a15 a16 a17 a18 a19 a20 a21 a22 => h a0 a1 a2 a3 a4 a5 a6 a7 a8 a9 a10 a11 a12 a13 a14 a15 a16 a17 a18 a19 a20 a21 a22
theorem fx24 {α0 α1 α2 α3 α4 α5 α6 α7 α8 α9 α10 α11 α12 α13 α14 α15 α16 α17 α18 α19 α20 α21 α22 α23 β : Type} {f g : α0 → α1 → α2 → α3 → α4 → α5 → α6 → α7 → α8 → α9 → α10 → α11 → α12 → α13 → α14 → α15 → α16 → α17 → α18 → α19 → α20 → α21 → α22 → α23 → β} (h : ∀ a0 a1 a2 a3 a4 a5 a6 a7 a8 a9 a10 a11 a12 a13 a14 a15 a16 a17 a18 a19 a20 a21 a22 a23, f a0 a1 a2 a3 a4 a5 a6 a7 a8 a9 a10 a11 a12 a13 a14 a15 a16 a17 a18 a19 a20 a21 a22 a23 = g a0 a1 a2 a3 a4 a5 a6 a7 a8 a9 a10 a11 a12 a13 a14 a15 a16 a17 a18 a19 a20 a21 a22 a23) : f = g := funext fun a0 => fx23 fun a1 a2 a3 a4 a5 a6 a7 a8 a9 a10 a11 a12 a13 a14 a15 a16 a17 a18 a19 a20 a21 a22 a23 => h a0 a1 a2 a3 a4 a5 a6 a7 a8 a9 a10 a11 a12 a13 a14 a15 a16 a17 a18 a19 a20 a21 a22 a23
theorem fx25 {α0 α1 α2 α3 α4 α5 α6 α7 α8 α9 α10 α11 α12 α13 α14 α15 α16 α17 α18 α19 α20 α21 α22 α23 α24 β : Type} {f g : α0 → α1 → α2 → α3 → α4 → α5 → α6 → α7 → α8 → α9 → α10 → α11 → α12 → α13 → α14 → α15 → α16 → α17 → α18 → α19 → α20 → α21 → α22 → α23 → α24 → β} (h : ∀ a0 a1 a2 a3 a4 a5 a6 a7 a8 a9 a10 a11 a12 a13 a14 a15 a16 a17 a18 a19 a20 a21 a22 a23 a24, f a0 a1 a2 a3 a4 a5 a6 a7 a8 a9 a10 a11 a12 a13 a14 a15 a16 a17 a18 a19 a20 a21 a22 a23 a24 = g a0 a1 a2 a3 a4 a5 a6 a7 a8 a9 a10 a11 a12 a13 a14 a15 a16 a17 a18 a19 a20 a21 a22 a23 a24) : f = g := funext fun a0 => fx24 fun a1 a2 a3 a4 a5 a6 a7 a8 a9 a10 a11 a12 a13 a14 a15 a16 a17 a18 a19 a20 a21 a22 a23 a24 => h a0 a1 a2 a3 a4 a5 a6 a7 a8 a9 a10 a11 a12 a13 a14 a15 a16 a17 a18 a19 a20 a21 a22 a23 a24
theorem fx26 {α0 α1 α2 α3 α4 α5 α6 α7 α8 α9 α10 α11 α12 α13 α14 α15 α16 α17 α18 α19 α20 α21 α22 α23 α24 α25 β : Type} {f g : α0 → α1 → α2 → α3 → α4 → α5 → α6 → α7 → α8 → α9 → α10 → α11 → α12 → α13 → α14 → α15 → α16 → α17 → α18 → α19 → α20 → α21 → α22 → α23 → α24 → α25 → β} (h : ∀ a0 a1 a2 a3 a4 a5 a6 a7 a8 a9 a10 a11 a12 a13 a14 a15 a16 a17 a18 a19 a20 a21 a22 a23 a24 a25, f a0 a1 a2 a3 a4 a5 a6 a7 a8 a9 a10 a11 a12 a13 a14 a15 a16 a17 a18 a19 a20 a21 a22 a23 a24 a25 = g a0 a1 a2 a3 a4 a5 a6 a7 a8 a9 a10 a11 a12 a13 a14 a15 a16 a17 a18 a19 a20 a21 a22 a23 a24 a25) : f = g := funext fun a0 => fx25 fun a1 a2 a3 a4 a5 a6 a7 a8 a9 a10 a11 a12 a13 a14 a15 a16 a17 a18 a19 a20 a21 a22 a23 a24 a25 => h a0 a1 a2 a3 a4 a5 a6 a7 a8 a9 a10 a11 a12 a13 a14 a15 a16 a17 a18 a19 a20 a21 a22 a23 a24 a25
theorem fx27 {α0 α1 α2 α3 α4 α5 α6 α7 α8 α9 α10 α11 α12 α13 α14 α15 α16 α17 α18 α19 α20 α21 α22 α23 α24 α25 α26 β : Type} {f g : α0 → α1 → α2 → α3 → α4 → α5 → α6 → α7 → α8 → α9 → α10 → α11 → α12 → α13 → α14 → α15 → α16 → α17 → α18 → α19 → α20 → α21 → α22 → α23 → α24 → α25 → α26 → β} (h : ∀ a0 a1 a2 a3 a4 a5 a6 a7 a8 a9 a10 a11 a12 a13 a14 a15 a16 a17 a18 a19 a20 a21 a22 a23 a24 a25 a26, f a0 a1 a2 a3 a4 a5 a6 a7 a8 a9 a10 a11 a12 a13 a14 a15 a16 a17 a18 a19 a20 a21 a22 a23 a24 a25 a26 = g a0 a1 a2 a3 a4 a5 a6 a7 a8 a9 a10 a11 a12 a13 a14 a15 a16 a17 a18 a19 a20 a21 a22 a23 a24 a25 a26) : f = g := funext fun a0 => fx26 fun a1 a2 a3 a4 a5 a6 a7 a8 a9 a10 a11 a12 a13 a14 a15 a16 a17 a18 a19 a20 a21 a22 a23 a24 a25 a26 => h a0 a1 a2 a3 a4 a5 a6 a7 a8 a9 a10 a11 a12 a13 a14 a15 a16 a17 a18 a19 a20 a21 a22 a23 a24 a25 a26
theorem fx28 {α0 α1 α2 α3 α4 α5 α6 α7 α8 α9 α10 α11 α12 α13 α14 α15 α16 α17 α18 α19 α20 α21 α22 α23 α24 α25 α26 α27 β : Type} {f g : α0 → α1 → α2 → α3 → α4 → α5 → α6 → α7 → α8 → α9 → α10 → α11 → α12 → α13 → α14 → α15 → α16 → α17 → α18 → α19 → α20 → α21 → α22 → α23 → α24 → α25 → α26 → α27 → β} (h : ∀ a0 a1 a2 a3 a4 a5 a6 a7 a8 a9 a10 a11 a12 a13 a14 a15 a16 a17 a18 a19 a20 a21 a22 a23 a24 a25 a26 a27, f a0 a1 a2 a3 a4 a5 a6 a7 a8 a9 a10 a11 a12 a13 a14 a15 a16 a17 a18 a19 a20 a21 a22 a23 a24 a25 a26 a27 = g a0 a1 a2 a3 a4 a5 a6 a7 a8 a9 a10 a11 a12 a13 a14 a15 a16 a17 a18 a19 a20 a21 a22 a23 a24 a25 a26 a27) : f = g := funext fun a0 => fx27 fun a1 a2 a3 a4 a5 a6 a7 a8 a9 a10 a11 a12 a13 a14 a15 a16 a17 a18 a19 a20 a21 a22 a23 a24 a25 a26 a27 => h a0 a1 a2 a3 a4 a5 a6 a7 a8 a9 a10 a11 a12 a13 a14 a15 a16 a17 a18 a19 a20 a21 a22 a23 a24 a25 a26 a27
theorem fx29 {α0 α1 α2 α3 α4 α5 α6 α7 α8 α9 α10 α11 α12 α13 α14 α15 α16 α17 α18 α19 α20 α21 α22 α23 α24 α25 α26 α27 α28 β : Type} {f g : α0 → α1 → α2 → α3 → α4 → α5 → α6 → α7 → α8 → α9 → α10 → α11 → α12 → α13 → α14 → α15 → α16 → α17 → α18 → α19 → α20 → α21 → α22 → α23 → α24 → α25 → α26 → α27 → α28 → β} (h : ∀ a0 a1 a2 a3 a4 a5 a6 a7 a8 a9 a10 a11 a12 a13 a14 a15 a16 a17 a18 a19 a20 a21 a22 a23 a24 a25 a26 a27 a28, f a0 a1 a2 a3 a4 a5 a6 a7 a8 a9 a10 a11 a12 a13 a14 a15 a16 a17 a18 a19 a20 a21 a22 a23 a24 a25 a26 a27 a28 = g a0 a1 a2 a3 a4 a5 a6 a7 a8 a9 a10 a11 a12 a13 a14 a15 a16 a17 a18 a19 a20 a21 a22 a23 a24 a25 a26 a27 a28) : f = g := funext fun a0 => fx28 fun a1 a2 a3 a4 a5 a6 a7 a8 a9 a10 a11 a12 a13 a14 a15 a16 a17 a18 a19 a20 a21 a22 a23 a24 a25 a26 a27 a28 => h a0 a1 a2 a3 a4 a5 a6 a7 a8 a9 a10 a11 a12 a13 a14 a15 a16 a17 a18 a19 a20 a21 a22 a23 a24 a25 a26 a27 a28
theorem fx30 {α0 α1 α2 α3 α4 α5 α6 α7 α8 α9 α10 α11 α12 α13 α14 α15 α16 α17 α18 α19 α20 α21 α22 α23 α24 α25 α26 α27 α28 α29 β : Type} {f g : α0 → α1 → α2 → α3 → α4 → α5 → α6 → α7 → α8 → α9 → α10 → α11 → α12 → α13 → α14 → α15 → α16 → α17 → α18 → α19 → α20 → α21 → α22 → α23 → α24 → α25 → α26 → α27 → α28 → α29 → β} (h : ∀ a0 a1 a2 a3 a4 a5 a6 a7 a8 a9 a10 a11 a12 a13 a14 a15 a16 a17 a18 a19 a20 a21 a22 a23 a24 a25 a26 a27 a28 a29, f a0 a1 a2 a3 a4 a5 a6 a7 a8 a9 a10 a11 a12 a13 a14 a15 a16 a17 a18 a19 a20 a21 a22 a23 a24 a25 a26 a27 a28 a29 = g a0 a1 a2 a3 a4 a5 a6 a7 a8 a9 a10 a11 a12 a13 a14 a15 a16 a17 a18 a19 a20 a21 a22 a23 a24 a25 a26 a27 a28 a29) : f = g := funext fun a0 => fx29 fun a1 a2 a3 a4 a5 a6 a7 a8 a9 a10 a11 a12 a13 a14 a15 a16 a17 a18 a19 a20 a21 a22 a23 a24 a25 a26 a27 a28 a29 => h a0 a1 a2 a3 a4 a5 a6 a7 a8 a9 a10 a11 a12 a13 a14 a15 a16 a17 a18 a19 a20 a21 a22 a23 a24 a25 a26 a27 a28 a29
section
variable {R : Type}
noncomputable def onS (a : List Sh) (b : List RSh) (g : Nat → Sh.D.DL a × RSh.DL b → KT R → Option R) (o : Nat → List PV → List RowS → KT R → Option R) (k : Nat) (ws : List PV) (rs : List RowS) (K : KT R) : Option R := onShape a b (fun v => g k v K) (o k ws rs K) ws rs
abbrev sOk (s : Nat → List PV → List RowS → KT R → Option R) (f : Nat) : Prop := ∀ k ws rs K, s k ws rs K = callC T F k f ws rs K
abbrev tOk (f : Nat) (a : List Sh) (b : List RSh) (g : Nat → Sh.D.DL a × RSh.DL b → KT R → Option R) : Prop := ∀ k x y K, callC T F k f (Sh.build.buildL a x) (RSh.buildL b y) K = g k (x, y) K
theorem onS_eq {a : List Sh} {b : List RSh} {g : Nat → Sh.D.DL a × RSh.DL b → KT R → Option R} {o : Nat → List PV → List RowS → KT R → Option R} {f : Nat} (ho : sOk o f) (h : tOk f a b g) : sOk (onS a b g o) f := by
 intro k ws rs K
 unfold onS
 rw [ho]
 exact onShape_eq (G := fun ws rs => callC T F k f ws rs K) (fun x y => (h k x y K).symm) ws rs
noncomputable def pickS (l : List (Nat × (Nat → List PV → List RowS → KT R → Option R))) (k g : Nat) (ws : List PV) (rs : List RowS) (K : KT R) : Option R := match l with
 | [] => callC T F k g ws rs K
 | (n, s) :: l => bif g == n then s k ws rs K else pickS l k g ws rs K
def pickOk : List (Nat × (Nat → List PV → List RowS → KT R → Option R)) → Prop
 | [] => True
 | (n, s) :: l => sOk s n ∧ pickOk l
theorem pickS_eq : ∀ {l : List (Nat × (Nat → List PV → List RowS → KT R → Option R))}, pickOk l → ∀ k, pickS l k = callC T F k
 | [], _, k => rfl
 | (n, s) :: l, h, k => by
   funext g ws rs K
   unfold pickS
   exact pick_eq (fun e => by subst e; exact h.1 k ws rs K) (by rw [pickS_eq h.2 k])
theorem eS (fn : Func) (an : Ann) (n nt : Nat) {f k : Nat} {ws : List PV} {rs : List RowS} {K : KT R} {S : Nat → List PV → List RowS → KT R → Option R} (L : Nat → List PV → List RowS → (St → Option R) → (Nat → St → Option R) → Option R) (l : List (Nat × List (Nat × Mode) × Code)) {q : Option R}
  (h1 : callC T F (k + 1) f ws rs K = exec T an (modesOf F) n k nt (callC T F k) (ending T fn an n K) (bodyOf fn) ⟨argEnv 0 ws (fun _ => none), rowsOf rs⟩ (ending T fn an n K) (fun _ _ => none))
  (h2 : S = callC T F k) (h3 : cutBlocks an (bodyOf fn) = l) (h4 : CutsOkL T an (modesOf F) n k nt S L (ending T fn an n K) l)
  (h5 : execS T an (modesOf F) n k nt S L (ending T fn an n K) (bodyOf fn) ⟨argEnv 0 ws (fun _ => none), rowsOf rs⟩ (ending T fn an n K) (fun _ _ => none) = q) : callC T F (k + 1) f ws rs K = q := by
 rw [h1, ← h2, ← execS_eq T an (modesOf F) n k nt S L (bodyOf fn) (cuts_of _ _ _ _ _ _ _ _ _ h3 h4)]
 exact h5
theorem lC {a : List Sh} {b : List RSh} {g : Sh.D.DL a × RSh.DL b → Option R} {an : Ann} {n k nt : Nat} {S : Nat → List PV → List RowS → KT R → Option R} (L : Nat → List PV → List RowS → (St → Option R) → (Nat → St → Option R) → Option R) (l : List (Nat × List (Nat × Mode) × Code)) {Rt : St → Option R} {cd : Code} {sp : List (Nat × Mode)} {ws : List PV} {rs : List RowS} {N : St → Option R} {X : Nat → St → Option R}
  (h3 : cutsIn an cd = l) (h4 : CutsOkL T an (modesOf F) n k nt S L Rt l) (h : ∀ x y, g (x, y) = innerS T an (modesOf F) n k nt S L Rt cd (sh sp (Sh.build.buildL a x) (RSh.buildL b y)) N X) :
  onShape a b g (inner T an (modesOf F) n k nt S Rt cd (sh sp ws rs) N X) ws rs = inner T an (modesOf F) n k nt S Rt cd (sh sp ws rs) N X :=
 onShape_eq (G := fun ws rs => inner T an (modesOf F) n k nt S Rt cd (sh sp ws rs) N X) (fun x y => (h x y).trans (innerS_eq T an (modesOf F) n k nt S L cd h3 h4 _ N X)) ws rs
noncomputable abbrev L0 : Nat → List PV → List RowS → (St → Option R) → (Nat → St → Option R) → Option R := fun _ _ _ _ _ => none
end
variable {R : Type} (k : Nat) (K : KT R) (id : Nat) (ws : List PV) (rs : List RowS) (N : St → Option R) (X : Nat → St → Option R)
noncomputable abbrev kt9 : Bool → Option R := (fun z0 => K [.val [] .bool z0] [])
abbrev aa9 : List Sh := [zv, zv, zv]
abbrev ab9 : List RSh := []
noncomputable def g9 (k : Nat) (v : Sh.D.DL aa9 × RSh.DL ab9) (K : KT R) : Option R := f9 k v.1.1 v.1.2.1 v.1.2.2.1 (kt9 K)
noncomputable abbrev E9 := ending T Try.f9 an9 0 K
noncomputable def S9 := pickS (R := R) []
theorem S9_eq : ∀ k, S9 (R := R) k = callC T F k := pickS_eq trivial
theorem tu9 : tOk (R := R) 9 aa9 ab9 g9 := by
 intro k x y K
 unfold g9
 rw [f9_def]
 cases k with
 | zero => rfl
 | succ k => exact eS Try.f9 an9 0 15 L0 [] (by kernel_rfl) (S9_eq k) (by kernel_rfl) trivial (by kernel_rfl)
noncomputable def s9 := onS (R := R) aa9 ab9 g9 (fun k => callC T F k 9)
theorem s9_eq : sOk (R := R) s9 9 := onS_eq (fun _ _ _ _ => rfl) tu9
noncomputable abbrev kt20 : List Int → Option R := (fun z0 => K [.rw 2] [⟨0, .gone⟩, zr0 z0])
abbrev aa20 : List Sh := [.rw 1, zv]
abbrev ab20 : List RSh := [.arr [] (.int .u8)]
noncomputable def g20 (k : Nat) (v : Sh.D.DL aa20 × RSh.DL ab20) (K : KT R) : Option R := f20 k v.1.2.1 v.2.1 (kt20 K)
noncomputable abbrev E20 := ending T Try.f20 an20 1 K
noncomputable def S20 := pickS (R := R) []
theorem S20_eq : ∀ k, S20 (R := R) k = callC T F k := pickS_eq trivial
noncomputable abbrev I20_0 : Option R := inner T an20 (modesOf F) 1 k 21 (S20 k) (E20 K) cd20_0 (sh sp20_0 ws rs) N X
abbrev aa20_0 : List Sh := [.rw 2, zv]
abbrev ab20_0 : List RSh := [.gone, .arr [] (.int .u8)]
noncomputable def L20_0 : Option R :=
 onShape aa20_0 ab20_0 (fun v => f20_0 k (fun p0 p1 => N (sh jn20_0 [.rw 2, zi p0] [⟨0, .gone⟩, zr0 p1])) k v.1.2.1 v.2.2.1) (I20_0 k K ws rs N X) ws rs
noncomputable def L20 : Option R := bif id == 0 then L20_0 k K ws rs N X else none
theorem i20_0 (m : Nat) : ∀ (c0 : Int) (c1 : List Int),
  iter (atHead an20 1 bd20_0) m (fun st N' => exec T an20 (modesOf F) 1 k 21 (S20 k) (E20 K) bd20_0 st N' (outX an20 1 0 N X)) (sh sp20_0 [.rw 2, zi c0] [⟨0, .gone⟩, zr0 c1]) = f20_0d k (fun p0 p1 => N (sh jn20_0 [.rw 2, zi p0] [⟨0, .gone⟩, zr0 p1])) m c0 c1 := by
 induction m with
 | zero => intros; rfl
 | succ m ih =>
   intro c0 c1
   simp only [iter]
   rw [← execS_eq T an20 (modesOf F) 1 k 21 (S20 k) (L20 k K) bd20_0 (cuts_of _ _ _ _ _ _ _ _ bd20_0 (l := []) (by kernel_rfl) trivial)]
   have h := fx2 ih
   simp only [f20_0d]
   rw [← h]
   show _ = _
   kernel_rfl
theorem l20_0 : L20 k K 0 ws rs N X = I20_0 k K ws rs N X := by
 show L20_0 k K ws rs N X = _
 unfold L20_0
 rw [f20_0_def]
 exact onShape_eq (a := aa20_0) (b := ab20_0) (G := fun ws rs => I20_0 k K ws rs N X) (fun x y => Eq.trans (by kernel_rfl) (Eq.trans (i20_0 k K N X k x.2.1 y.2.1).symm (by kernel_rfl))) ws rs
theorem tu20 : tOk (R := R) 20 aa20 ab20 g20 := by
 intro k x y K
 unfold g20
 rw [f20_def]
 cases k with
 | zero => rfl
 | succ k => exact eS Try.f20 an20 1 21 (L20 k K) [(0, sp20_0, cd20_0)] (by kernel_rfl) (S20_eq k) (by kernel_rfl) ⟨l20_0 k K, trivial⟩ (by kernel_rfl)
noncomputable def s20 := onS (R := R) aa20 ab20 g20 (fun k => callC T F k 20)
theorem s20_eq : sOk (R := R) s20 20 := onS_eq (fun _ _ _ _ => rfl) tu20
noncomputable abbrev kt10 : List Int → Option R := (fun z0 => K [.rw 1] [zr0 z0])
abbrev aa10 : List Sh := [.val [(0, 0)] zP3]
abbrev ab10 : List RSh := []
noncomputable def g10 (k : Nat) (v : Sh.D.DL aa10 × RSh.DL ab10) (K : KT R) : Option R := f10 k v.1.1 (kt10 K)
noncomputable abbrev E10 := ending T Try.f10 an10 0 K
noncomputable def S10 := pickS (R := R) [(20, s20)]
theorem S10_eq : ∀ k, S10 (R := R) k = callC T F k := pickS_eq ⟨s20_eq, trivial⟩
noncomputable abbrev I10_2 : Option R := inner T an10 (modesOf F) 0 k 84 (S10 k) (E10 K) cd10_2 (sh sp10_2 ws rs) N X
abbrev aa10_2 : List Sh := [.val [(0, 0)] zP3, .rw 1, zv, zv, zv]
abbrev ab10_2 : List RSh := [.arr [] (.int .u8)]
noncomputable def L10_2 : Option R :=
 onShape aa10_2 ab10_2 (fun v => f10_2 k (fun p3 => N (sh jn10_2 [.val [(0, 0)] zP3 v.1.1, .rw 1, zi v.1.2.2.1, zi v.1.2.2.2.1, zi p3] [zr0 v.2.1])) v.1.1 v.1.2.2.1 v.1.2.2.2.1 v.2.1 k v.1.2.2.2.2.1) (I10_2 k K ws rs N X) ws rs
noncomputable abbrev I10_5 : Option R := inner T an10 (modesOf F) 0 k 84 (S10 k) (E10 K) cd10_5 (sh sp10_5 ws rs) N X
abbrev aa10_5 : List Sh := [.val [(0, 0)] zP3, .rw 1, zv, zv, zv, zv, zv]
abbrev ab10_5 : List RSh := [.arr [] (.int .u8)]
noncomputable def L10_5 : Option R :=
 onShape aa10_5 ab10_5 (fun v => f10_5 k (fun p4 => N (sh jn10_5 [.val [(0, 0)] zP3 v.1.1, .rw 1, zi v.1.2.2.1, zi v.1.2.2.2.1, zi v.1.2.2.2.2.1] [zr0 p4])) v.1.1 v.1.2.2.1 v.1.2.2.2.1 v.1.2.2.2.2.1 v.1.2.2.2.2.2.1 k v.1.2.2.2.2.2.2.1 v.2.1) (I10_5 k K ws rs N X) ws rs
noncomputable abbrev I10_1000010 : Option R := inner T an10 (modesOf F) 0 k 84 (S10 k) (E10 K) cd10_1000010 (sh sp10_1000010 ws rs) N X
abbrev aa10_1000010 : List Sh := [.val [(0, 0)] zP3, .rw 1, zv, zv, .val [] .bool]
abbrev ab10_1000010 : List RSh := [.arr [] (.int .u8)]
noncomputable def L10_1000010 : Option R :=
 onShape aa10_1000010 ab10_1000010 (fun v => f10_1000010 k (fun p2 => N (sh fi10_10 [.val [(0, 0)] zP3 v.1.1, .rw 1, zi v.1.2.2.1, zi p2] [zr0 v.2.1])) v.1.2.2.2.1 v.1.2.2.2.2.1) (I10_1000010 k K ws rs N X) ws rs
noncomputable abbrev I10_1000018 : Option R := inner T an10 (modesOf F) 0 k 84 (S10 k) (E10 K) cd10_1000018 (sh sp10_1000018 ws rs) N X
abbrev aa10_1000018 : List Sh := [.val [(0, 0)] zP3, .rw 1, zv, zv, zv, .val [] .bool]
abbrev ab10_1000018 : List RSh := [.arr [] (.int .u8)]
noncomputable def L10_1000018 : Option R :=
 onShape aa10_1000018 ab10_1000018 (fun v => f10_1000018 k (fun p1 p2 p3 => N (sh fi10_18 [.val [(0, 0)] zP3 v.1.1, .rw 1, zi p1, zi p2] [zr0 p3])) v.1.1 v.1.2.2.1 v.1.2.2.2.1 v.1.2.2.2.2.1 v.1.2.2.2.2.2.1 v.2.1) (I10_1000018 k K ws rs N X) ws rs
noncomputable abbrev I10_1000015 : Option R := inner T an10 (modesOf F) 0 k 84 (S10 k) (E10 K) cd10_1000015 (sh sp10_1000015 ws rs) N X
abbrev aa10_1000015 : List Sh := [.val [(0, 0)] zP3, .rw 1, zv, zv, zv, .val [] .bool]
abbrev ab10_1000015 : List RSh := [.arr [] (.int .u8)]
noncomputable def L10_1000015 : Option R :=
 onShape aa10_1000015 ab10_1000015 (fun v => f10_1000015 k (fun p1 p2 p3 => N (sh fi10_15 [.val [(0, 0)] zP3 v.1.1, .rw 1, zi p1, zi p2] [zr0 p3])) v.1.1 v.1.2.2.1 v.1.2.2.2.1 v.1.2.2.2.2.1 v.1.2.2.2.2.2.1 v.2.1) (I10_1000015 k K ws rs N X) ws rs
noncomputable abbrev I10_0 : Option R := inner T an10 (modesOf F) 0 k 84 (S10 k) (E10 K) cd10_0 (sh sp10_0 ws rs) N X
abbrev aa10_0 : List Sh := [.val [(0, 0)] zP3, .rw 1, zv, zv]
abbrev ab10_0 : List RSh := [.arr [] (.int .u8)]
noncomputable def L10_0 : Option R :=
 onShape aa10_0 ab10_0 (fun v => f10_0 k (fun p0 => N (sh jn10_0 [.rw 1] [zr0 p0])) v.1.1 k v.1.2.2.1 v.1.2.2.2.1 v.2.1) (I10_0 k K ws rs N X) ws rs
noncomputable def L10 : Option R := bif id == 2 then L10_2 k K ws rs N X else bif id == 5 then L10_5 k K ws rs N X else bif id == 1000010 then L10_1000010 k K ws rs N X else bif id == 1000018 then L10_1000018 k K ws rs N X else bif id == 1000015 then L10_1000015 k K ws rs N X else bif id == 0 then L10_0 k K ws rs N X else none
theorem i10_2 (c0 : List Int) (c1 c2 : Int) (c4 : List Int) (m : Nat) : ∀ (c3 : Int),
  iter (atHead an10 0 bd10_2) m (fun st N' => exec T an10 (modesOf F) 0 k 84 (S10 k) (E10 K) bd10_2 st N' (outX an10 0 2 N X)) (sh sp10_2 [.val [(0, 0)] zP3 c0, .rw 1, zi c1, zi c2, zi c3] [zr0 c4]) = f10_2d k (fun p3 => N (sh jn10_2 [.val [(0, 0)] zP3 c0, .rw 1, zi c1, zi c2, zi p3] [zr0 c4])) c0 c1 c2 c4 m c3 := by
 induction m with
 | zero => intros; rfl
 | succ m ih =>
   intro c3
   simp only [iter]
   rw [← execS_eq T an10 (modesOf F) 0 k 84 (S10 k) (L10 k K) bd10_2 (cuts_of _ _ _ _ _ _ _ _ bd10_2 (l := []) (by kernel_rfl) trivial)]
   have h := fx1 ih
   simp only [f10_2d]
   rw [← h]
   show _ = _
   kernel_rfl
theorem l10_2 : L10 k K 2 ws rs N X = I10_2 k K ws rs N X := by
 show L10_2 k K ws rs N X = _
 unfold L10_2
 rw [f10_2_def]
 exact onShape_eq (a := aa10_2) (b := ab10_2) (G := fun ws rs => I10_2 k K ws rs N X) (fun x y => Eq.trans (by kernel_rfl) (Eq.trans (i10_2 k K N X x.1 x.2.2.1 x.2.2.2.1 y.1 k x.2.2.2.2.1).symm (by kernel_rfl))) ws rs
theorem i10_5 (c0 : List Int) (c1 c2 c3 c4 : Int) (m : Nat) : ∀ (c5 : Int) (c6 : List Int),
  iter (atHead an10 0 bd10_5) m (fun st N' => exec T an10 (modesOf F) 0 k 84 (S10 k) (E10 K) bd10_5 st N' (outX an10 0 5 N X)) (sh sp10_5 [.val [(0, 0)] zP3 c0, .rw 1, zi c1, zi c2, zi c3, zi c4, zi c5] [zr0 c6]) = f10_5d k (fun p4 => N (sh jn10_5 [.val [(0, 0)] zP3 c0, .rw 1, zi c1, zi c2, zi c3] [zr0 p4])) c0 c1 c2 c3 c4 m c5 c6 := by
 induction m with
 | zero => intros; rfl
 | succ m ih =>
   intro c5 c6
   simp only [iter]
   rw [← execS_eq T an10 (modesOf F) 0 k 84 (S10 k) (L10 k K) bd10_5 (cuts_of _ _ _ _ _ _ _ _ bd10_5 (l := []) (by kernel_rfl) trivial)]
   have h := fx2 ih
   simp only [f10_5d]
   rw [← h]
   show _ = _
   kernel_rfl
theorem l10_5 : L10 k K 5 ws rs N X = I10_5 k K ws rs N X := by
 show L10_5 k K ws rs N X = _
 unfold L10_5
 rw [f10_5_def]
 exact onShape_eq (a := aa10_5) (b := ab10_5) (G := fun ws rs => I10_5 k K ws rs N X) (fun x y => Eq.trans (by kernel_rfl) (Eq.trans (i10_5 k K N X x.1 x.2.2.1 x.2.2.2.1 x.2.2.2.2.1 x.2.2.2.2.2.1 k x.2.2.2.2.2.2.1 y.1).symm (by kernel_rfl))) ws rs
theorem l10_1000010 : L10 k K 1000010 ws rs N X = I10_1000010 k K ws rs N X := by
 show L10_1000010 k K ws rs N X = _
 unfold L10_1000010
 rw [f10_1000010_def]
 exact lC (L10 k K) [] (by kernel_rfl) trivial fun x y => by kernel_rfl
theorem l10_1000018 : L10 k K 1000018 ws rs N X = I10_1000018 k K ws rs N X := by
 show L10_1000018 k K ws rs N X = _
 unfold L10_1000018
 rw [f10_1000018_def]
 exact lC (L10 k K) [(5, sp10_5, cd10_5), (1000010, sp10_1000010, cd10_1000010)] (by kernel_rfl) ⟨l10_5 k K, l10_1000010 k K, trivial⟩ fun x y => by kernel_rfl
theorem l10_1000015 : L10 k K 1000015 ws rs N X = I10_1000015 k K ws rs N X := by
 show L10_1000015 k K ws rs N X = _
 unfold L10_1000015
 rw [f10_1000015_def]
 exact lC (L10 k K) [(1000018, sp10_1000018, cd10_1000018)] (by kernel_rfl) ⟨l10_1000018 k K, trivial⟩ fun x y => by kernel_rfl
theorem i10_0 (c0 : List Int) (m : Nat) : ∀ (c1 c2 : Int) (c3 : List Int),
  iter (atHead an10 0 bd10_0) m (fun st N' => exec T an10 (modesOf F) 0 k 84 (S10 k) (E10 K) bd10_0 st N' (outX an10 0 0 N X)) (sh sp10_0 [.val [(0, 0)] zP3 c0, .rw 1, zi c1, zi c2] [zr0 c3]) = f10_0d k (fun p0 => N (sh jn10_0 [.rw 1] [zr0 p0])) c0 m c1 c2 c3 := by
 induction m with
 | zero => intros; rfl
 | succ m ih =>
   intro c1 c2 c3
   simp only [iter]
   rw [← execS_eq T an10 (modesOf F) 0 k 84 (S10 k) (L10 k K) bd10_0 (cuts_of _ _ _ _ _ _ _ _ bd10_0 (l := [(2, sp10_2, cd10_2), (1000015, sp10_1000015, cd10_1000015)]) (by kernel_rfl) ⟨l10_2 k K, l10_1000015 k K, trivial⟩)]
   have h := fx3 ih
   simp only [f10_0d]
   rw [← h]
   show _ = _
   kernel_rfl
theorem l10_0 : L10 k K 0 ws rs N X = I10_0 k K ws rs N X := by
 show L10_0 k K ws rs N X = _
 unfold L10_0
 rw [f10_0_def]
 exact onShape_eq (a := aa10_0) (b := ab10_0) (G := fun ws rs => I10_0 k K ws rs N X) (fun x y => Eq.trans (by kernel_rfl) (Eq.trans (i10_0 k K N X x.1 k x.2.2.1 x.2.2.2.1 y.1).symm (by kernel_rfl))) ws rs
theorem tu10 : tOk (R := R) 10 aa10 ab10 g10 := by
 intro k x y K
 unfold g10
 rw [f10_def]
 cases k with
 | zero => rfl
 | succ k => exact eS Try.f10 an10 0 84 (L10 k K) [(0, sp10_0, cd10_0)] (by kernel_rfl) (S10_eq k) (by kernel_rfl) ⟨l10_0 k K, trivial⟩ (by kernel_rfl)
noncomputable def s10 := onS (R := R) aa10 ab10 g10 (fun k => callC T F k 10)
theorem s10_eq : sOk (R := R) s10 10 := onS_eq (fun _ _ _ _ => rfl) tu10
noncomputable abbrev kt4 : Int → List Int → Option R := (fun z0 z1 => K [.rw 1, zi z0] [zr0 z1])
abbrev aa4 : List Sh := [.val [(0, 0)] zP3]
abbrev ab4 : List RSh := []
noncomputable def g4 (k : Nat) (v : Sh.D.DL aa4 × RSh.DL ab4) (K : KT R) : Option R := f4 k v.1.1 (kt4 K)
noncomputable abbrev E4 := ending T Try.f4 an4 0 K
noncomputable def S4 := pickS (R := R) [(9, s9), (10, s10)]
theorem S4_eq : ∀ k, S4 (R := R) k = callC T F k := pickS_eq ⟨s9_eq, s10_eq, trivial⟩
noncomputable abbrev I4_0 : Option R := inner T an4 (modesOf F) 0 k 21 (S4 k) (E4 K) cd4_0 (sh sp4_0 ws rs) N X
abbrev aa4_0 : List Sh := [.val [(0, 0)] zP3, .val [(0, 0)] zP3, zv, zv]
abbrev ab4_0 : List RSh := []
noncomputable def L4_0 : Option R :=
 onShape aa4_0 ab4_0 (fun v => f4_0 k (kt4 K) (N (sh jn4_0 [.val [(0, 0)] zP3 v.1.1] [])) v.1.1 v.1.2.1 v.1.2.2.1 k v.1.2.2.2.1) (I4_0 k K ws rs N X) ws rs
noncomputable def L4 : Option R := bif id == 0 then L4_0 k K ws rs N X else none
theorem i4_0 (c0 c1 : List Int) (c2 : Int) (m : Nat) : ∀ (c3 : Int),
  iter (atHead an4 0 bd4_0) m (fun st N' => exec T an4 (modesOf F) 0 k 21 (S4 k) (E4 K) bd4_0 st N' (outX an4 0 0 N X)) (sh sp4_0 [.val [(0, 0)] zP3 c0, .val [(0, 0)] zP3 c1, zi c2, zi c3] []) = f4_0d k (kt4 K) (N (sh jn4_0 [.val [(0, 0)] zP3 c0] [])) c0 c1 c2 m c3 := by
 induction m with
 | zero => intros; rfl
 | succ m ih =>
   intro c3
   simp only [iter]
   rw [← execS_eq T an4 (modesOf F) 0 k 21 (S4 k) (L4 k K) bd4_0 (cuts_of _ _ _ _ _ _ _ _ bd4_0 (l := []) (by kernel_rfl) trivial)]
   have h := fx1 ih
   simp only [f4_0d]
   rw [← h]
   show _ = _
   kernel_rfl
theorem l4_0 : L4 k K 0 ws rs N X = I4_0 k K ws rs N X := by
 show L4_0 k K ws rs N X = _
 unfold L4_0
 rw [f4_0_def]
 exact onShape_eq (a := aa4_0) (b := ab4_0) (G := fun ws rs => I4_0 k K ws rs N X) (fun x y => Eq.trans (by kernel_rfl) (Eq.trans (i4_0 k K N X x.1 x.2.1 x.2.2.1 k x.2.2.2.1).symm (by kernel_rfl))) ws rs
theorem tu4 : tOk (R := R) 4 aa4 ab4 g4 := by
 intro k x y K
 unfold g4
 rw [f4_def]
 cases k with
 | zero => rfl
 | succ k => exact eS Try.f4 an4 0 21 (L4 k K) [(0, sp4_0, cd4_0)] (by kernel_rfl) (S4_eq k) (by kernel_rfl) ⟨l4_0 k K, trivial⟩ (by kernel_rfl)
noncomputable def s4 := onS (R := R) aa4 ab4 g4 (fun k => callC T F k 4)
theorem s4_eq : sOk (R := R) s4 4 := onS_eq (fun _ _ _ _ => rfl) tu4
noncomputable abbrev kt21 : Bool → Option R := (fun z0 => K [.val [] .bool z0] [])
abbrev aa21 : List Sh := [zv]
abbrev ab21 : List RSh := []
noncomputable def g21 (k : Nat) (v : Sh.D.DL aa21 × RSh.DL ab21) (K : KT R) : Option R := f21 k v.1.1 (kt21 K)
noncomputable abbrev E21 := ending T Try.f21 an21 0 K
noncomputable def S21 := pickS (R := R) []
theorem S21_eq : ∀ k, S21 (R := R) k = callC T F k := pickS_eq trivial
theorem tu21 : tOk (R := R) 21 aa21 ab21 g21 := by
 intro k x y K
 unfold g21
 rw [f21_def]
 cases k with
 | zero => rfl
 | succ k => exact eS Try.f21 an21 0 12 L0 [] (by kernel_rfl) (S21_eq k) (by kernel_rfl) trivial (by kernel_rfl)
noncomputable def s21 := onS (R := R) aa21 ab21 g21 (fun k => callC T F k 21)
theorem s21_eq : sOk (R := R) s21 21 := onS_eq (fun _ _ _ _ => rfl) tu21
noncomputable abbrev kt22 : Int → Option R := (fun z0 => K [zi z0] [])
abbrev aa22 : List Sh := [zv]
abbrev ab22 : List RSh := []
noncomputable def g22 (k : Nat) (v : Sh.D.DL aa22 × RSh.DL ab22) (K : KT R) : Option R := f22 k v.1.1 (kt22 K)
noncomputable abbrev E22 := ending T Try.f22 an22 0 K
noncomputable def S22 := pickS (R := R) []
theorem S22_eq : ∀ k, S22 (R := R) k = callC T F k := pickS_eq trivial
theorem tu22 : tOk (R := R) 22 aa22 ab22 g22 := by
 intro k x y K
 unfold g22
 rw [f22_def]
 cases k with
 | zero => rfl
 | succ k => exact eS Try.f22 an22 0 6 L0 [] (by kernel_rfl) (S22_eq k) (by kernel_rfl) trivial (by kernel_rfl)
noncomputable def s22 := onS (R := R) aa22 ab22 g22 (fun k => callC T F k 22)
theorem s22_eq : sOk (R := R) s22 22 := onS_eq (fun _ _ _ _ => rfl) tu22
noncomputable abbrev kt23 : Int → Option R := (fun z0 => K [zi z0] [])
abbrev aa23 : List Sh := [zv]
abbrev ab23 : List RSh := []
noncomputable def g23 (k : Nat) (v : Sh.D.DL aa23 × RSh.DL ab23) (K : KT R) : Option R := f23 k v.1.1 (kt23 K)
noncomputable abbrev E23 := ending T Try.f23 an23 0 K
noncomputable def S23 := pickS (R := R) [(22, s22)]
theorem S23_eq : ∀ k, S23 (R := R) k = callC T F k := pickS_eq ⟨s22_eq, trivial⟩
noncomputable abbrev I23_1000006 : Option R := inner T an23 (modesOf F) 0 k 18 (S23 k) (E23 K) cd23_1000006 (sh sp23_1000006 ws rs) N X
abbrev aa23_1000006 : List Sh := [zv, zv, zv, .val [] .bool]
abbrev ab23_1000006 : List RSh := []
noncomputable def L23_1000006 : Option R :=
 onShape aa23_1000006 ab23_1000006 (fun v => f23_1000006 k (fun p1 => N (sh fi23_6 [zi v.1.1, zi p1, zi v.1.2.2.1] [])) v.1.2.1 v.1.2.2.1 v.1.2.2.2.1) (I23_1000006 k K ws rs N X) ws rs
noncomputable abbrev I23_0 : Option R := inner T an23 (modesOf F) 0 k 18 (S23 k) (E23 K) cd23_0 (sh sp23_0 ws rs) N X
abbrev aa23_0 : List Sh := [zv, zv, zv]
abbrev ab23_0 : List RSh := []
noncomputable def L23_0 : Option R :=
 onShape aa23_0 ab23_0 (fun v => f23_0 k (fun p0 => N (sh jn23_0 [zi p0] [])) v.1.1 k v.1.2.1 v.1.2.2.1) (I23_0 k K ws rs N X) ws rs
noncomputable def L23 : Option R := bif id == 1000006 then L23_1000006 k K ws rs N X else bif id == 0 then L23_0 k K ws rs N X else none
theorem l23_1000006 : L23 k K 1000006 ws rs N X = I23_1000006 k K ws rs N X := by
 show L23_1000006 k K ws rs N X = _
 unfold L23_1000006
 rw [f23_1000006_def]
 exact lC (L23 k K) [] (by kernel_rfl) trivial fun x y => by kernel_rfl
theorem i23_0 (c0 : Int) (m : Nat) : ∀ (c1 c2 : Int),
  iter (atHead an23 0 bd23_0) m (fun st N' => exec T an23 (modesOf F) 0 k 18 (S23 k) (E23 K) bd23_0 st N' (outX an23 0 0 N X)) (sh sp23_0 [zi c0, zi c1, zi c2] []) = f23_0d k (fun p0 => N (sh jn23_0 [zi p0] [])) c0 m c1 c2 := by
 induction m with
 | zero => intros; rfl
 | succ m ih =>
   intro c1 c2
   simp only [iter]
   rw [← execS_eq T an23 (modesOf F) 0 k 18 (S23 k) (L23 k K) bd23_0 (cuts_of _ _ _ _ _ _ _ _ bd23_0 (l := [(1000006, sp23_1000006, cd23_1000006)]) (by kernel_rfl) ⟨l23_1000006 k K, trivial⟩)]
   have h := fx2 ih
   simp only [f23_0d]
   rw [← h]
   show _ = _
   kernel_rfl
theorem l23_0 : L23 k K 0 ws rs N X = I23_0 k K ws rs N X := by
 show L23_0 k K ws rs N X = _
 unfold L23_0
 rw [f23_0_def]
 exact onShape_eq (a := aa23_0) (b := ab23_0) (G := fun ws rs => I23_0 k K ws rs N X) (fun x y => Eq.trans (by kernel_rfl) (Eq.trans (i23_0 k K N X x.1 k x.2.1 x.2.2.1).symm (by kernel_rfl))) ws rs
theorem tu23 : tOk (R := R) 23 aa23 ab23 g23 := by
 intro k x y K
 unfold g23
 rw [f23_def]
 cases k with
 | zero => rfl
 | succ k => exact eS Try.f23 an23 0 18 (L23 k K) [(0, sp23_0, cd23_0)] (by kernel_rfl) (S23_eq k) (by kernel_rfl) ⟨l23_0 k K, trivial⟩ (by kernel_rfl)
noncomputable def s23 := onS (R := R) aa23 ab23 g23 (fun k => callC T F k 23)
theorem s23_eq : sOk (R := R) s23 23 := onS_eq (fun _ _ _ _ => rfl) tu23
noncomputable abbrev kt47 : Int → Option R := (fun z0 => K [zi z0] [])
abbrev aa47 : List Sh := [.val [] (.int .u64)]
abbrev ab47 : List RSh := []
noncomputable def g47 (k : Nat) (v : Sh.D.DL aa47 × RSh.DL ab47) (K : KT R) : Option R := f47 k v.1.1 (kt47 K)
noncomputable abbrev E47 := ending T Try.f47 an47 0 K
noncomputable def S47 := pickS (R := R) []
theorem S47_eq : ∀ k, S47 (R := R) k = callC T F k := pickS_eq trivial
theorem tu47 : tOk (R := R) 47 aa47 ab47 g47 := by
 intro k x y K
 unfold g47
 rw [f47_def]
 cases k with
 | zero => rfl
 | succ k => exact eS Try.f47 an47 0 35 L0 [] (by kernel_rfl) (S47_eq k) (by kernel_rfl) trivial (by kernel_rfl)
noncomputable def s47 := onS (R := R) aa47 ab47 g47 (fun k => callC T F k 47)
theorem s47_eq : sOk (R := R) s47 47 := onS_eq (fun _ _ _ _ => rfl) tu47
noncomputable abbrev kt36 : Int → Option R := (fun z0 => K [zi z0] [])
abbrev aa36 : List Sh := [.val [] (.int .u64)]
abbrev ab36 : List RSh := []
noncomputable def g36 (k : Nat) (v : Sh.D.DL aa36 × RSh.DL ab36) (K : KT R) : Option R := f36 k v.1.1 (kt36 K)
noncomputable abbrev E36 := ending T Try.f36 an36 0 K
noncomputable def S36 := pickS (R := R) [(47, s47)]
theorem S36_eq : ∀ k, S36 (R := R) k = callC T F k := pickS_eq ⟨s47_eq, trivial⟩
theorem tu36 : tOk (R := R) 36 aa36 ab36 g36 := by
 intro k x y K
 unfold g36
 rw [f36_def]
 cases k with
 | zero => rfl
 | succ k => exact eS Try.f36 an36 0 8 L0 [] (by kernel_rfl) (S36_eq k) (by kernel_rfl) trivial (by kernel_rfl)
noncomputable def s36 := onS (R := R) aa36 ab36 g36 (fun k => callC T F k 36)
theorem s36_eq : sOk (R := R) s36 36 := onS_eq (fun _ _ _ _ => rfl) tu36
noncomputable abbrev kt24 : Bool → Option R := (fun z0 => K [.val [] .bool z0] [])
abbrev aa24 : List Sh := [zv]
abbrev ab24 : List RSh := []
noncomputable def g24 (k : Nat) (v : Sh.D.DL aa24 × RSh.DL ab24) (K : KT R) : Option R := f24 k v.1.1 (kt24 K)
noncomputable abbrev E24 := ending T Try.f24 an24 0 K
noncomputable def S24 := pickS (R := R) [(36, s36)]
theorem S24_eq : ∀ k, S24 (R := R) k = callC T F k := pickS_eq ⟨s36_eq, trivial⟩
theorem tu24 : tOk (R := R) 24 aa24 ab24 g24 := by
 intro k x y K
 unfold g24
 rw [f24_def]
 cases k with
 | zero => rfl
 | succ k => exact eS Try.f24 an24 0 8 L0 [] (by kernel_rfl) (S24_eq k) (by kernel_rfl) trivial (by kernel_rfl)
noncomputable def s24 := onS (R := R) aa24 ab24 g24 (fun k => callC T F k 24)
theorem s24_eq : sOk (R := R) s24 24 := onS_eq (fun _ _ _ _ => rfl) tu24
noncomputable abbrev kt11 : Int → Int → Option R := (fun z0 z1 => K [zi z0, zi z1] [])
abbrev aa11 : List Sh := [zv]
abbrev ab11 : List RSh := []
noncomputable def g11 (k : Nat) (v : Sh.D.DL aa11 × RSh.DL ab11) (K : KT R) : Option R := f11 k v.1.1 (kt11 K)
noncomputable abbrev E11 := ending T Try.f11 an11 0 K
noncomputable def S11 := pickS (R := R) [(9, s9), (21, s21), (22, s22), (23, s23), (24, s24)]
theorem S11_eq : ∀ k, S11 (R := R) k = callC T F k := pickS_eq ⟨s9_eq, s21_eq, s22_eq, s23_eq, s24_eq, trivial⟩
noncomputable abbrev I11_1000009 : Option R := inner T an11 (modesOf F) 0 k 47 (S11 k) (E11 K) cd11_1000009 (sh sp11_1000009 ws rs) N X
abbrev aa11_1000009 : List Sh := [zv, zv, zv, .val [] .bool]
abbrev ab11_1000009 : List RSh := []
noncomputable def L11_1000009 : Option R :=
 onShape aa11_1000009 ab11_1000009 (fun v => f11_1000009 k (fun p1 => N (sh fi11_9 [zi v.1.1, zi p1, zi v.1.2.2.1] [])) v.1.2.1 v.1.2.2.1 v.1.2.2.2.1) (I11_1000009 k K ws rs N X) ws rs
noncomputable abbrev I11_1000008 : Option R := inner T an11 (modesOf F) 0 k 47 (S11 k) (E11 K) cd11_1000008 (sh sp11_1000008 ws rs) N X
abbrev aa11_1000008 : List Sh := [zv, zv, zv, .val [] .bool]
abbrev ab11_1000008 : List RSh := []
noncomputable def L11_1000008 : Option R :=
 onShape aa11_1000008 ab11_1000008 (fun v => f11_1000008 k (fun p0 p1 => N (sh fi11_8 [zi p0, zi p1, zi v.1.2.2.1] [])) v.1.1 v.1.2.1 v.1.2.2.1 v.1.2.2.2.1) (I11_1000008 k K ws rs N X) ws rs
noncomputable abbrev I11_0 : Option R := inner T an11 (modesOf F) 0 k 47 (S11 k) (E11 K) cd11_0 (sh sp11_0 ws rs) N X
abbrev aa11_0 : List Sh := [zv, zv, zv]
abbrev ab11_0 : List RSh := []
noncomputable def L11_0 : Option R :=
 onShape aa11_0 ab11_0 (fun v => f11_0 k (fun p0 => N (sh jn11_0 [zi p0] [])) k v.1.1 v.1.2.1 v.1.2.2.1) (I11_0 k K ws rs N X) ws rs
noncomputable abbrev I11_1000016 : Option R := inner T an11 (modesOf F) 0 k 47 (S11 k) (E11 K) cd11_1000016 (sh sp11_1000016 ws rs) N X
abbrev aa11_1000016 : List Sh := [zv, zv, zv, .val [] .bool]
abbrev ab11_1000016 : List RSh := []
noncomputable def L11_1000016 : Option R :=
 onShape aa11_1000016 ab11_1000016 (fun v => f11_1000016 k (fun p0 => N (sh fi11_16 [zi p0, zi v.1.2.1, zi v.1.2.2.1] [])) v.1.1 v.1.2.2.1 v.1.2.2.2.1) (I11_1000016 k K ws rs N X) ws rs
noncomputable abbrev I11_2 : Option R := inner T an11 (modesOf F) 0 k 47 (S11 k) (E11 K) cd11_2 (sh sp11_2 ws rs) N X
abbrev aa11_2 : List Sh := [zv, zv, zv]
abbrev ab11_2 : List RSh := []
noncomputable def L11_2 : Option R :=
 onShape aa11_2 ab11_2 (fun v => f11_2 k (fun p0 => N (sh jn11_2 [zi p0] [])) v.1.2.1 k v.1.1 v.1.2.2.1) (I11_2 k K ws rs N X) ws rs
noncomputable abbrev I11_1000018 : Option R := inner T an11 (modesOf F) 0 k 47 (S11 k) (E11 K) cd11_1000018 (sh sp11_1000018 ws rs) N X
abbrev aa11_1000018 : List Sh := [zv, .val [] .bool]
abbrev ab11_1000018 : List RSh := []
noncomputable def L11_1000018 : Option R :=
 onShape aa11_1000018 ab11_1000018 (fun v => f11_1000018 k (fun p0 => N (sh fi11_18 [zi p0] [])) v.1.1 v.1.2.1) (I11_1000018 k K ws rs N X) ws rs
noncomputable def L11 : Option R := bif id == 1000009 then L11_1000009 k K ws rs N X else bif id == 1000008 then L11_1000008 k K ws rs N X else bif id == 0 then L11_0 k K ws rs N X else bif id == 1000016 then L11_1000016 k K ws rs N X else bif id == 2 then L11_2 k K ws rs N X else bif id == 1000018 then L11_1000018 k K ws rs N X else none
theorem l11_1000009 : L11 k K 1000009 ws rs N X = I11_1000009 k K ws rs N X := by
 show L11_1000009 k K ws rs N X = _
 unfold L11_1000009
 rw [f11_1000009_def]
 exact lC (L11 k K) [] (by kernel_rfl) trivial fun x y => by kernel_rfl
theorem l11_1000008 : L11 k K 1000008 ws rs N X = I11_1000008 k K ws rs N X := by
 show L11_1000008 k K ws rs N X = _
 unfold L11_1000008
 rw [f11_1000008_def]
 exact lC (L11 k K) [(1000009, sp11_1000009, cd11_1000009)] (by kernel_rfl) ⟨l11_1000009 k K, trivial⟩ fun x y => by kernel_rfl
theorem i11_0 (m : Nat) : ∀ (c0 c1 c2 : Int),
  iter (atHead an11 0 bd11_0) m (fun st N' => exec T an11 (modesOf F) 0 k 47 (S11 k) (E11 K) bd11_0 st N' (outX an11 0 0 N X)) (sh sp11_0 [zi c0, zi c1, zi c2] []) = f11_0d k (fun p0 => N (sh jn11_0 [zi p0] [])) m c0 c1 c2 := by
 induction m with
 | zero => intros; rfl
 | succ m ih =>
   intro c0 c1 c2
   simp only [iter]
   rw [← execS_eq T an11 (modesOf F) 0 k 47 (S11 k) (L11 k K) bd11_0 (cuts_of _ _ _ _ _ _ _ _ bd11_0 (l := [(1000008, sp11_1000008, cd11_1000008)]) (by kernel_rfl) ⟨l11_1000008 k K, trivial⟩)]
   have h := fx3 ih
   simp only [f11_0d]
   rw [← h]
   show _ = _
   kernel_rfl
theorem l11_0 : L11 k K 0 ws rs N X = I11_0 k K ws rs N X := by
 show L11_0 k K ws rs N X = _
 unfold L11_0
 rw [f11_0_def]
 exact onShape_eq (a := aa11_0) (b := ab11_0) (G := fun ws rs => I11_0 k K ws rs N X) (fun x y => Eq.trans (by kernel_rfl) (Eq.trans (i11_0 k K N X k x.1 x.2.1 x.2.2.1).symm (by kernel_rfl))) ws rs
theorem l11_1000016 : L11 k K 1000016 ws rs N X = I11_1000016 k K ws rs N X := by
 show L11_1000016 k K ws rs N X = _
 unfold L11_1000016
 rw [f11_1000016_def]
 exact lC (L11 k K) [] (by kernel_rfl) trivial fun x y => by kernel_rfl
theorem i11_2 (c1 : Int) (m : Nat) : ∀ (c0 c2 : Int),
  iter (atHead an11 0 bd11_2) m (fun st N' => exec T an11 (modesOf F) 0 k 47 (S11 k) (E11 K) bd11_2 st N' (outX an11 0 2 N X)) (sh sp11_2 [zi c0, zi c1, zi c2] []) = f11_2d k (fun p0 => N (sh jn11_2 [zi p0] [])) c1 m c0 c2 := by
 induction m with
 | zero => intros; rfl
 | succ m ih =>
   intro c0 c2
   simp only [iter]
   rw [← execS_eq T an11 (modesOf F) 0 k 47 (S11 k) (L11 k K) bd11_2 (cuts_of _ _ _ _ _ _ _ _ bd11_2 (l := [(1000016, sp11_1000016, cd11_1000016)]) (by kernel_rfl) ⟨l11_1000016 k K, trivial⟩)]
   have h := fx2 ih
   simp only [f11_2d]
   rw [← h]
   show _ = _
   kernel_rfl
theorem l11_2 : L11 k K 2 ws rs N X = I11_2 k K ws rs N X := by
 show L11_2 k K ws rs N X = _
 unfold L11_2
 rw [f11_2_def]
 exact onShape_eq (a := aa11_2) (b := ab11_2) (G := fun ws rs => I11_2 k K ws rs N X) (fun x y => Eq.trans (by kernel_rfl) (Eq.trans (i11_2 k K N X x.2.1 k x.1 x.2.2.1).symm (by kernel_rfl))) ws rs
theorem l11_1000018 : L11 k K 1000018 ws rs N X = I11_1000018 k K ws rs N X := by
 show L11_1000018 k K ws rs N X = _
 unfold L11_1000018
 rw [f11_1000018_def]
 exact lC (L11 k K) [] (by kernel_rfl) trivial fun x y => by kernel_rfl
theorem tu11 : tOk (R := R) 11 aa11 ab11 g11 := by
 intro k x y K
 unfold g11
 rw [f11_def]
 cases k with
 | zero => rfl
 | succ k => exact eS Try.f11 an11 0 47 (L11 k K) [(0, sp11_0, cd11_0), (2, sp11_2, cd11_2), (1000018, sp11_1000018, cd11_1000018)] (by kernel_rfl) (S11_eq k) (by kernel_rfl) ⟨l11_0 k K, l11_2 k K, l11_1000018 k K, trivial⟩ (by kernel_rfl)
noncomputable def s11 := onS (R := R) aa11 ab11 g11 (fun k => callC T F k 11)
theorem s11_eq : sOk (R := R) s11 11 := onS_eq (fun _ _ _ _ => rfl) tu11
noncomputable abbrev kt25 : Int → Option R := (fun z0 => K [zi z0] [])
abbrev aa25 : List Sh := [.val [(0, 0)] zT2]
abbrev ab25 : List RSh := []
noncomputable def g25 (k : Nat) (v : Sh.D.DL aa25 × RSh.DL ab25) (K : KT R) : Option R := f25 k v.1.1 (kt25 K)
noncomputable abbrev E25 := ending T Try.f25 an25 0 K
noncomputable def S25 := pickS (R := R) []
theorem S25_eq : ∀ k, S25 (R := R) k = callC T F k := pickS_eq trivial
noncomputable abbrev I25_1000011 : Option R := inner T an25 (modesOf F) 0 k 31 (S25 k) (E25 K) cd25_1000011 (sh sp25_1000011 ws rs) N X
abbrev aa25_1000011 : List Sh := [zv, .val [(0, 0)] zT2, zv, zv, zv, .val [] .bool]
abbrev ab25_1000011 : List RSh := []
noncomputable def L25_1000011 : Option R :=
 onShape aa25_1000011 ab25_1000011 (fun v => f25_1000011 k (fun p0 => N (sh fi25_11 [zi p0, .val [(0, 0)] zT2 v.1.2.1, zi v.1.2.2.1, zi v.1.2.2.2.1, zi v.1.2.2.2.2.1] [])) v.1.1 v.1.2.2.2.2.2.1) (I25_1000011 k K ws rs N X) ws rs
noncomputable abbrev I25_2 : Option R := inner T an25 (modesOf F) 0 k 31 (S25 k) (E25 K) cd25_2 (sh sp25_2 ws rs) N X
abbrev aa25_2 : List Sh := [zv, .val [(0, 0)] zT2, zv, zv, zv]
abbrev ab25_2 : List RSh := []
noncomputable def L25_2 : Option R :=
 onShape aa25_2 ab25_2 (fun v => f25_2 k (fun p0 => N (sh jn25_2 [zi p0, .val [(0, 0)] zT2 v.1.2.1, zi v.1.2.2.1, zi v.1.2.2.2.1] [])) v.1.2.1 v.1.2.2.1 v.1.2.2.2.1 k v.1.1 v.1.2.2.2.2.1) (I25_2 k K ws rs N X) ws rs
noncomputable abbrev I25_0 : Option R := inner T an25 (modesOf F) 0 k 31 (S25 k) (E25 K) cd25_0 (sh sp25_0 ws rs) N X
abbrev aa25_0 : List Sh := [zv, .val [(0, 0)] zT2, zv, zv]
abbrev ab25_0 : List RSh := []
noncomputable def L25_0 : Option R :=
 onShape aa25_0 ab25_0 (fun v => f25_0 k (fun p0 => N (sh jn25_0 [zi p0] [])) v.1.2.1 v.1.2.2.1 k v.1.1 v.1.2.2.2.1) (I25_0 k K ws rs N X) ws rs
noncomputable def L25 : Option R := bif id == 1000011 then L25_1000011 k K ws rs N X else bif id == 2 then L25_2 k K ws rs N X else bif id == 0 then L25_0 k K ws rs N X else none
theorem l25_1000011 : L25 k K 1000011 ws rs N X = I25_1000011 k K ws rs N X := by
 show L25_1000011 k K ws rs N X = _
 unfold L25_1000011
 rw [f25_1000011_def]
 exact lC (L25 k K) [] (by kernel_rfl) trivial fun x y => by kernel_rfl
theorem i25_2 (c1 : List Int) (c2 c3 : Int) (m : Nat) : ∀ (c0 c4 : Int),
  iter (atHead an25 0 bd25_2) m (fun st N' => exec T an25 (modesOf F) 0 k 31 (S25 k) (E25 K) bd25_2 st N' (outX an25 0 2 N X)) (sh sp25_2 [zi c0, .val [(0, 0)] zT2 c1, zi c2, zi c3, zi c4] []) = f25_2d k (fun p0 => N (sh jn25_2 [zi p0, .val [(0, 0)] zT2 c1, zi c2, zi c3] [])) c1 c2 c3 m c0 c4 := by
 induction m with
 | zero => intros; rfl
 | succ m ih =>
   intro c0 c4
   simp only [iter]
   rw [← execS_eq T an25 (modesOf F) 0 k 31 (S25 k) (L25 k K) bd25_2 (cuts_of _ _ _ _ _ _ _ _ bd25_2 (l := [(1000011, sp25_1000011, cd25_1000011)]) (by kernel_rfl) ⟨l25_1000011 k K, trivial⟩)]
   have h := fx2 ih
   simp only [f25_2d]
   rw [← h]
   show _ = _
   kernel_rfl
theorem l25_2 : L25 k K 2 ws rs N X = I25_2 k K ws rs N X := by
 show L25_2 k K ws rs N X = _
 unfold L25_2
 rw [f25_2_def]
 exact onShape_eq (a := aa25_2) (b := ab25_2) (G := fun ws rs => I25_2 k K ws rs N X) (fun x y => Eq.trans (by kernel_rfl) (Eq.trans (i25_2 k K N X x.2.1 x.2.2.1 x.2.2.2.1 k x.1 x.2.2.2.2.1).symm (by kernel_rfl))) ws rs
theorem i25_0 (c1 : List Int) (c2 : Int) (m : Nat) : ∀ (c0 c3 : Int),
  iter (atHead an25 0 bd25_0) m (fun st N' => exec T an25 (modesOf F) 0 k 31 (S25 k) (E25 K) bd25_0 st N' (outX an25 0 0 N X)) (sh sp25_0 [zi c0, .val [(0, 0)] zT2 c1, zi c2, zi c3] []) = f25_0d k (fun p0 => N (sh jn25_0 [zi p0] [])) c1 c2 m c0 c3 := by
 induction m with
 | zero => intros; rfl
 | succ m ih =>
   intro c0 c3
   simp only [iter]
   rw [← execS_eq T an25 (modesOf F) 0 k 31 (S25 k) (L25 k K) bd25_0 (cuts_of _ _ _ _ _ _ _ _ bd25_0 (l := [(2, sp25_2, cd25_2)]) (by kernel_rfl) ⟨l25_2 k K, trivial⟩)]
   have h := fx2 ih
   simp only [f25_0d]
   rw [← h]
   show _ = _
   kernel_rfl
theorem l25_0 : L25 k K 0 ws rs N X = I25_0 k K ws rs N X := by
 show L25_0 k K ws rs N X = _
 unfold L25_0
 rw [f25_0_def]
 exact onShape_eq (a := aa25_0) (b := ab25_0) (G := fun ws rs => I25_0 k K ws rs N X) (fun x y => Eq.trans (by kernel_rfl) (Eq.trans (i25_0 k K N X x.2.1 x.2.2.1 k x.1 x.2.2.2.1).symm (by kernel_rfl))) ws rs
theorem tu25 : tOk (R := R) 25 aa25 ab25 g25 := by
 intro k x y K
 unfold g25
 rw [f25_def]
 cases k with
 | zero => rfl
 | succ k => exact eS Try.f25 an25 0 31 (L25 k K) [(0, sp25_0, cd25_0)] (by kernel_rfl) (S25_eq k) (by kernel_rfl) ⟨l25_0 k K, trivial⟩ (by kernel_rfl)
noncomputable def s25 := onS (R := R) aa25 ab25 g25 (fun k => callC T F k 25)
theorem s25_eq : sOk (R := R) s25 25 := onS_eq (fun _ _ _ _ => rfl) tu25
noncomputable abbrev kt12 : Int → Int → Option R := (fun z0 z1 => K [zi z0, zi z1] [])
abbrev aa12 : List Sh := [.val [(0, 0)] zT2]
abbrev ab12 : List RSh := []
noncomputable def g12 (k : Nat) (v : Sh.D.DL aa12 × RSh.DL ab12) (K : KT R) : Option R := f12 k v.1.1 (kt12 K)
noncomputable abbrev E12 := ending T Try.f12 an12 0 K
noncomputable def S12 := pickS (R := R) [(25, s25)]
theorem S12_eq : ∀ k, S12 (R := R) k = callC T F k := pickS_eq ⟨s25_eq, trivial⟩
theorem tu12 : tOk (R := R) 12 aa12 ab12 g12 := by
 intro k x y K
 unfold g12
 rw [f12_def]
 cases k with
 | zero => rfl
 | succ k => exact eS Try.f12 an12 0 9 L0 [] (by kernel_rfl) (S12_eq k) (by kernel_rfl) trivial (by kernel_rfl)
noncomputable def s12 := onS (R := R) aa12 ab12 g12 (fun k => callC T F k 12)
theorem s12_eq : sOk (R := R) s12 12 := onS_eq (fun _ _ _ _ => rfl) tu12
noncomputable abbrev kt13 : Int → Option R := (fun z0 => K [zi z0] [])
abbrev aa13 : List Sh := [.val [(0, 0)] zT2]
abbrev ab13 : List RSh := []
noncomputable def g13 (k : Nat) (v : Sh.D.DL aa13 × RSh.DL ab13) (K : KT R) : Option R := f13 k v.1.1 (kt13 K)
noncomputable abbrev E13 := ending T Try.f13 an13 0 K
noncomputable def S13 := pickS (R := R) []
theorem S13_eq : ∀ k, S13 (R := R) k = callC T F k := pickS_eq trivial
noncomputable abbrev I13_1000010 : Option R := inner T an13 (modesOf F) 0 k 29 (S13 k) (E13 K) cd13_1000010 (sh sp13_1000010 ws rs) N X
abbrev aa13_1000010 : List Sh := [zv, .val [(0, 0)] zT2, zv, zv, zv, .val [] .bool]
abbrev ab13_1000010 : List RSh := []
noncomputable def L13_1000010 : Option R :=
 onShape aa13_1000010 ab13_1000010 (fun v => f13_1000010 k (fun p0 => N (sh fi13_10 [zi p0, .val [(0, 0)] zT2 v.1.2.1, zi v.1.2.2.1, zi v.1.2.2.2.1, zi v.1.2.2.2.2.1] [])) v.1.1 v.1.2.2.2.2.2.1) (I13_1000010 k K ws rs N X) ws rs
noncomputable abbrev I13_2 : Option R := inner T an13 (modesOf F) 0 k 29 (S13 k) (E13 K) cd13_2 (sh sp13_2 ws rs) N X
abbrev aa13_2 : List Sh := [zv, .val [(0, 0)] zT2, zv, zv, zv]
abbrev ab13_2 : List RSh := []
noncomputable def L13_2 : Option R :=
 onShape aa13_2 ab13_2 (fun v => f13_2 k (fun p0 => N (sh jn13_2 [zi p0, .val [(0, 0)] zT2 v.1.2.1, zi v.1.2.2.1, zi v.1.2.2.2.1] [])) v.1.2.1 v.1.2.2.1 v.1.2.2.2.1 k v.1.1 v.1.2.2.2.2.1) (I13_2 k K ws rs N X) ws rs
noncomputable abbrev I13_0 : Option R := inner T an13 (modesOf F) 0 k 29 (S13 k) (E13 K) cd13_0 (sh sp13_0 ws rs) N X
abbrev aa13_0 : List Sh := [zv, .val [(0, 0)] zT2, zv, zv]
abbrev ab13_0 : List RSh := []
noncomputable def L13_0 : Option R :=
 onShape aa13_0 ab13_0 (fun v => f13_0 k (fun p0 => N (sh jn13_0 [zi p0] [])) v.1.2.1 v.1.2.2.1 k v.1.1 v.1.2.2.2.1) (I13_0 k K ws rs N X) ws rs
noncomputable def L13 : Option R := bif id == 1000010 then L13_1000010 k K ws rs N X else bif id == 2 then L13_2 k K ws rs N X else bif id == 0 then L13_0 k K ws rs N X else none
theorem l13_1000010 : L13 k K 1000010 ws rs N X = I13_1000010 k K ws rs N X := by
 show L13_1000010 k K ws rs N X = _
 unfold L13_1000010
 rw [f13_1000010_def]
 exact lC (L13 k K) [] (by kernel_rfl) trivial fun x y => by kernel_rfl
theorem i13_2 (c1 : List Int) (c2 c3 : Int) (m : Nat) : ∀ (c0 c4 : Int),
  iter (atHead an13 0 bd13_2) m (fun st N' => exec T an13 (modesOf F) 0 k 29 (S13 k) (E13 K) bd13_2 st N' (outX an13 0 2 N X)) (sh sp13_2 [zi c0, .val [(0, 0)] zT2 c1, zi c2, zi c3, zi c4] []) = f13_2d k (fun p0 => N (sh jn13_2 [zi p0, .val [(0, 0)] zT2 c1, zi c2, zi c3] [])) c1 c2 c3 m c0 c4 := by
 induction m with
 | zero => intros; rfl
 | succ m ih =>
   intro c0 c4
   simp only [iter]
   rw [← execS_eq T an13 (modesOf F) 0 k 29 (S13 k) (L13 k K) bd13_2 (cuts_of _ _ _ _ _ _ _ _ bd13_2 (l := [(1000010, sp13_1000010, cd13_1000010)]) (by kernel_rfl) ⟨l13_1000010 k K, trivial⟩)]
   have h := fx2 ih
   simp only [f13_2d]
   rw [← h]
   show _ = _
   kernel_rfl
theorem l13_2 : L13 k K 2 ws rs N X = I13_2 k K ws rs N X := by
 show L13_2 k K ws rs N X = _
 unfold L13_2
 rw [f13_2_def]
 exact onShape_eq (a := aa13_2) (b := ab13_2) (G := fun ws rs => I13_2 k K ws rs N X) (fun x y => Eq.trans (by kernel_rfl) (Eq.trans (i13_2 k K N X x.2.1 x.2.2.1 x.2.2.2.1 k x.1 x.2.2.2.2.1).symm (by kernel_rfl))) ws rs
theorem i13_0 (c1 : List Int) (c2 : Int) (m : Nat) : ∀ (c0 c3 : Int),
  iter (atHead an13 0 bd13_0) m (fun st N' => exec T an13 (modesOf F) 0 k 29 (S13 k) (E13 K) bd13_0 st N' (outX an13 0 0 N X)) (sh sp13_0 [zi c0, .val [(0, 0)] zT2 c1, zi c2, zi c3] []) = f13_0d k (fun p0 => N (sh jn13_0 [zi p0] [])) c1 c2 m c0 c3 := by
 induction m with
 | zero => intros; rfl
 | succ m ih =>
   intro c0 c3
   simp only [iter]
   rw [← execS_eq T an13 (modesOf F) 0 k 29 (S13 k) (L13 k K) bd13_0 (cuts_of _ _ _ _ _ _ _ _ bd13_0 (l := [(2, sp13_2, cd13_2)]) (by kernel_rfl) ⟨l13_2 k K, trivial⟩)]
   have h := fx2 ih
   simp only [f13_0d]
   rw [← h]
   show _ = _
   kernel_rfl
theorem l13_0 : L13 k K 0 ws rs N X = I13_0 k K ws rs N X := by
 show L13_0 k K ws rs N X = _
 unfold L13_0
 rw [f13_0_def]
 exact onShape_eq (a := aa13_0) (b := ab13_0) (G := fun ws rs => I13_0 k K ws rs N X) (fun x y => Eq.trans (by kernel_rfl) (Eq.trans (i13_0 k K N X x.2.1 x.2.2.1 k x.1 x.2.2.2.1).symm (by kernel_rfl))) ws rs
theorem tu13 : tOk (R := R) 13 aa13 ab13 g13 := by
 intro k x y K
 unfold g13
 rw [f13_def]
 cases k with
 | zero => rfl
 | succ k => exact eS Try.f13 an13 0 29 (L13 k K) [(0, sp13_0, cd13_0)] (by kernel_rfl) (S13_eq k) (by kernel_rfl) ⟨l13_0 k K, trivial⟩ (by kernel_rfl)
noncomputable def s13 := onS (R := R) aa13 ab13 g13 (fun k => callC T F k 13)
theorem s13_eq : sOk (R := R) s13 13 := onS_eq (fun _ _ _ _ => rfl) tu13
noncomputable abbrev kt5 : Bool → Option R := (fun z0 => K [.val [] .bool z0] [])
abbrev aa5 : List Sh := []
abbrev ab5 : List RSh := []
noncomputable def g5 (k : Nat) (v : Sh.D.DL aa5 × RSh.DL ab5) (K : KT R) : Option R := f5 k (kt5 K)
noncomputable abbrev E5 := ending T Try.f5 an5 0 K
noncomputable def S5 := pickS (R := R) [(11, s11), (12, s12), (13, s13)]
theorem S5_eq : ∀ k, S5 (R := R) k = callC T F k := pickS_eq ⟨s11_eq, s12_eq, s13_eq, trivial⟩
theorem tu5 : tOk (R := R) 5 aa5 ab5 g5 := by
 intro k x y K
 unfold g5
 rw [f5_def]
 cases k with
 | zero => rfl
 | succ k => exact eS Try.f5 an5 0 32 L0 [] (by kernel_rfl) (S5_eq k) (by kernel_rfl) trivial (by kernel_rfl)
noncomputable def s5 := onS (R := R) aa5 ab5 g5 (fun k => callC T F k 5)
theorem s5_eq : sOk (R := R) s5 5 := onS_eq (fun _ _ _ _ => rfl) tu5
noncomputable abbrev kt14 : Int → Option R := (fun z0 => K [zi z0] [])
abbrev aa14 : List Sh := [.agg [zv, zv, zv, zv, zv]]
abbrev ab14 : List RSh := []
noncomputable def g14 (k : Nat) (v : Sh.D.DL aa14 × RSh.DL ab14) (K : KT R) : Option R := f14 k v.1.1.1 v.1.1.2.1 v.1.1.2.2.1 v.1.1.2.2.2.1 v.1.1.2.2.2.2.1 (kt14 K)
noncomputable abbrev E14 := ending T Try.f14 an14 0 K
noncomputable def S14 := pickS (R := R) [(9, s9)]
theorem S14_eq : ∀ k, S14 (R := R) k = callC T F k := pickS_eq ⟨s9_eq, trivial⟩
theorem tu14 : tOk (R := R) 14 aa14 ab14 g14 := by
 intro k x y K
 unfold g14
 rw [f14_def]
 cases k with
 | zero => rfl
 | succ k => exact eS Try.f14 an14 0 31 L0 [] (by kernel_rfl) (S14_eq k) (by kernel_rfl) trivial (by kernel_rfl)
noncomputable def s14 := onS (R := R) aa14 ab14 g14 (fun k => callC T F k 14)
theorem s14_eq : sOk (R := R) s14 14 := onS_eq (fun _ _ _ _ => rfl) tu14
noncomputable abbrev kt37 : Bool → Option R := (fun z0 => K [.val [] .bool z0] [])
abbrev aa37 : List Sh := [.val [] .str]
abbrev ab37 : List RSh := []
noncomputable def g37 (k : Nat) (v : Sh.D.DL aa37 × RSh.DL ab37) (K : KT R) : Option R := f37 k v.1.1 (kt37 K)
noncomputable abbrev E37 := ending T Try.f37 an37 0 K
noncomputable def S37 := pickS (R := R) []
theorem S37_eq : ∀ k, S37 (R := R) k = callC T F k := pickS_eq trivial
noncomputable abbrev I37_0 : Option R := inner T an37 (modesOf F) 0 k 47 (S37 k) (E37 K) cd37_0 (sh sp37_0 ws rs) N X
abbrev aa37_0 : List Sh := [.val [] .str, zv, zv]
abbrev ab37_0 : List RSh := []
noncomputable def L37_0 : Option R :=
 onShape aa37_0 ab37_0 (fun v => f37_0 k (kt37 K) (N (sh jn37_0 [] [])) v.1.1 v.1.2.1 k v.1.2.2.1) (I37_0 k K ws rs N X) ws rs
noncomputable def L37 : Option R := bif id == 0 then L37_0 k K ws rs N X else none
theorem i37_0 (c0 : ByteArray) (c1 : Int) (m : Nat) : ∀ (c2 : Int),
  iter (atHead an37 0 bd37_0) m (fun st N' => exec T an37 (modesOf F) 0 k 47 (S37 k) (E37 K) bd37_0 st N' (outX an37 0 0 N X)) (sh sp37_0 [.val [] .str c0, zi c1, zi c2] []) = f37_0d k (kt37 K) (N (sh jn37_0 [] [])) c0 c1 m c2 := by
 induction m with
 | zero => intros; rfl
 | succ m ih =>
   intro c2
   simp only [iter]
   rw [← execS_eq T an37 (modesOf F) 0 k 47 (S37 k) (L37 k K) bd37_0 (cuts_of _ _ _ _ _ _ _ _ bd37_0 (l := []) (by kernel_rfl) trivial)]
   have h := fx1 ih
   simp only [f37_0d]
   rw [← h]
   show _ = _
   kernel_rfl
theorem l37_0 : L37 k K 0 ws rs N X = I37_0 k K ws rs N X := by
 show L37_0 k K ws rs N X = _
 unfold L37_0
 rw [f37_0_def]
 exact onShape_eq (a := aa37_0) (b := ab37_0) (G := fun ws rs => I37_0 k K ws rs N X) (fun x y => Eq.trans (by kernel_rfl) (Eq.trans (i37_0 k K N X x.1 x.2.1 k x.2.2.1).symm (by kernel_rfl))) ws rs
theorem tu37 : tOk (R := R) 37 aa37 ab37 g37 := by
 intro k x y K
 unfold g37
 rw [f37_def]
 cases k with
 | zero => rfl
 | succ k => exact eS Try.f37 an37 0 47 (L37 k K) [(0, sp37_0, cd37_0)] (by kernel_rfl) (S37_eq k) (by kernel_rfl) ⟨l37_0 k K, trivial⟩ (by kernel_rfl)
noncomputable def s37 := onS (R := R) aa37 ab37 g37 (fun k => callC T F k 37)
theorem s37_eq : sOk (R := R) s37 37 := onS_eq (fun _ _ _ _ => rfl) tu37
noncomputable abbrev kt26 : Int → Option R := (fun z0 => K [zi z0] [])
abbrev aa26 : List Sh := [zv, .val [] .str, .val [(0, 0)] zT2]
abbrev ab26 : List RSh := []
noncomputable def g26 (k : Nat) (v : Sh.D.DL aa26 × RSh.DL ab26) (K : KT R) : Option R := f26 k v.1.1 v.1.2.1 v.1.2.2.1 (kt26 K)
noncomputable abbrev E26 := ending T Try.f26 an26 0 K
noncomputable def S26 := pickS (R := R) [(9, s9), (37, s37)]
theorem S26_eq : ∀ k, S26 (R := R) k = callC T F k := pickS_eq ⟨s9_eq, s37_eq, trivial⟩
theorem tu26 : tOk (R := R) 26 aa26 ab26 g26 := by
 intro k x y K
 unfold g26
 rw [f26_def]
 cases k with
 | zero => rfl
 | succ k => exact eS Try.f26 an26 0 19 L0 [] (by kernel_rfl) (S26_eq k) (by kernel_rfl) trivial (by kernel_rfl)
noncomputable def s26 := onS (R := R) aa26 ab26 g26 (fun k => callC T F k 26)
theorem s26_eq : sOk (R := R) s26 26 := onS_eq (fun _ _ _ _ => rfl) tu26
noncomputable abbrev kt27 : List Int → Option R := (fun z0 => K [.rw 1] [zr0 z0])
abbrev aa27 : List Sh := [.val [(0, 0)] zT2]
abbrev ab27 : List RSh := []
noncomputable def g27 (k : Nat) (v : Sh.D.DL aa27 × RSh.DL ab27) (K : KT R) : Option R := f27 k v.1.1 (kt27 K)
theorem e27 (k : Nat) (a0 : List Int) (K : KT R) : callC T F k 27 [.val [(0, 0)] zT2 a0] [] K = f27 k a0 (kt27 K) := by
 rw [f27_def]
 cases k with
 | zero => rfl
 | succ k => exact clone_call (m := [.lend (.int .u8)]) (ty := (.int .u8)) (bytes := 1) (by kernel_rfl) a0 K
theorem tu27 : tOk (R := R) 27 aa27 ab27 g27 := fun k x y K => e27 k x.1 K
noncomputable def s27 := onS (R := R) aa27 ab27 g27 (fun k => callC T F k 27)
theorem s27_eq : sOk (R := R) s27 27 := onS_eq (fun _ _ _ _ => rfl) tu27
noncomputable abbrev kt15 : zK0 R := (fun z0 z1 z2 z3 z4 z5 z6 z7 => K [.agg [zi z0, zi z1, .val [] .str z2, .rw 1, zi z3, .nils, zi z4, zi z5], zi z6] [zr0 z7])
abbrev aa15 : List Sh := [zv, .val [] .str, .val [(0, 0)] zT2]
abbrev ab15 : List RSh := []
noncomputable def g15 (k : Nat) (v : Sh.D.DL aa15 × RSh.DL ab15) (K : KT R) : Option R := f15 k v.1.1 v.1.2.1 v.1.2.2.1 (kt15 K)
noncomputable abbrev E15 := ending T Try.f15 an15 0 K
noncomputable def S15 := pickS (R := R) [(26, s26), (27, s27)]
theorem S15_eq : ∀ k, S15 (R := R) k = callC T F k := pickS_eq ⟨s26_eq, s27_eq, trivial⟩
theorem tu15 : tOk (R := R) 15 aa15 ab15 g15 := by
 intro k x y K
 unfold g15
 rw [f15_def]
 cases k with
 | zero => rfl
 | succ k => exact eS Try.f15 an15 0 22 L0 [] (by kernel_rfl) (S15_eq k) (by kernel_rfl) trivial (by kernel_rfl)
noncomputable def s15 := onS (R := R) aa15 ab15 g15 (fun k => callC T F k 15)
theorem s15_eq : sOk (R := R) s15 15 := onS_eq (fun _ _ _ _ => rfl) tu15
noncomputable abbrev kt16 : Int → Int → ByteArray → Int → Int → Int → Int → Int → Option R := (fun z0 z1 z2 z3 z4 z5 z6 z7 => K [.agg [zi z0, zi z1, .val [] .str z2, .nils, .nils, zi z3, zi z4, zi z5, zi z6], zi z7] [])
abbrev aa16 : List Sh := [zv]
abbrev ab16 : List RSh := []
noncomputable def g16 (k : Nat) (v : Sh.D.DL aa16 × RSh.DL ab16) (K : KT R) : Option R := f16 k v.1.1 (kt16 K)
noncomputable abbrev E16 := ending T Try.f16 an16 0 K
noncomputable def S16 := pickS (R := R) [(9, s9)]
theorem S16_eq : ∀ k, S16 (R := R) k = callC T F k := pickS_eq ⟨s9_eq, trivial⟩
theorem tu16 : tOk (R := R) 16 aa16 ab16 g16 := by
 intro k x y K
 unfold g16
 rw [f16_def]
 cases k with
 | zero => rfl
 | succ k => exact eS Try.f16 an16 0 10 L0 [] (by kernel_rfl) (S16_eq k) (by kernel_rfl) trivial (by kernel_rfl)
noncomputable def s16 := onS (R := R) aa16 ab16 g16 (fun k => callC T F k 16)
theorem s16_eq : sOk (R := R) s16 16 := onS_eq (fun _ _ _ _ => rfl) tu16
noncomputable abbrev kt28 : zK1 R := (fun z0 z1 z2 z3 z4 z5 z6 z7 z8 z9 z10 z11 z12 z13 z14 z15 z16 z17 z18 z19 z20 z21 z22 z23 z24 z25 z26 z27 z28 z29 => K [.rw 6] [zr1 z0 z1 z2 z3 z4 z5 z6 z7 z8 z9 z10 z11 z12 z13 z14 z15 z16 z17 z18 z19 z20 z21 z22 z23 z24 z25 z26, ⟨0, .gone⟩, ⟨0, .gone⟩, zr2 z27, zr2 z28, zr3 z29])
abbrev aa28 : List Sh := [.ptr 1 22, zv]
abbrev ab28 : List RSh := [zs0, .arr [(0, 0)] zP2, .arr [(0, 0)] zP2]
noncomputable def g28 (k : Nat) (v : Sh.D.DL aa28 × RSh.DL ab28) (K : KT R) : Option R := let u0 := v.2.1.2.2.2.2.2.2.2; let u1 := u0.2.2.2.2.2.2.2; let u2 := u1.2.2.2.2.2.2.2; f28 k v.1.2.1 v.2.1.1 v.2.1.2.1 v.2.1.2.2.1 v.2.1.2.2.2.1 v.2.1.2.2.2.2.1 v.2.1.2.2.2.2.2.1 v.2.1.2.2.2.2.2.2.1 v.2.1.2.2.2.2.2.2.2.1 u0.2.1 u0.2.2.1 u0.2.2.2.1 u0.2.2.2.2.1 u0.2.2.2.2.2.1 u0.2.2.2.2.2.2.1 u0.2.2.2.2.2.2.2.1 u1.2.1 u1.2.2.1 u1.2.2.2.1 u1.2.2.2.2.1 u1.2.2.2.2.2.1 u1.2.2.2.2.2.2.1 u1.2.2.2.2.2.2.2.1 u2.2.1 u2.2.2.1 u2.2.2.2.2.1 u2.2.2.2.2.2.1 u2.2.2.2.2.2.2.2.1 v.2.2.1 v.2.2.2.1 (kt28 K)
noncomputable abbrev E28 := ending T Try.f28 an28 3 K
noncomputable def S28 := pickS (R := R) []
theorem S28_eq : ∀ k, S28 (R := R) k = callC T F k := pickS_eq trivial
noncomputable abbrev I28_0 : Option R := inner T an28 (modesOf F) 3 k 42 (S28 k) (E28 K) cd28_0 (sh sp28_0 ws rs) N X
abbrev aa28_0 : List Sh := [.ptr 1 22, zv, .rw 6]
abbrev ab28_0 : List RSh := [zs1, .gone, .gone, .arr [(0, 0)] zP2, .arr [(0, 0)] zP2, .arr [(0, 0)] zP0]
noncomputable def L28_0 : Option R :=
 onShape aa28_0 ab28_0 (fun v => let u0 := v.2.1.2.2.2.2.2.2.2; let u1 := u0.2.2.2.2.2.2.2; let u2 := u1.2.2.2.2.2.2.2; f28_0 k (fun p27 p29 => N (sh jn28_0 [.rw 6] [zr1 v.2.1.1 v.2.1.2.1 v.2.1.2.2.1 v.2.1.2.2.2.1 v.2.1.2.2.2.2.1 v.2.1.2.2.2.2.2.1 v.2.1.2.2.2.2.2.2.1 v.2.1.2.2.2.2.2.2.2.1 u0.2.1 u0.2.2.1 u0.2.2.2.1 u0.2.2.2.2.1 u0.2.2.2.2.2.1 u0.2.2.2.2.2.2.1 u0.2.2.2.2.2.2.2.1 u1.2.1 u1.2.2.1 u1.2.2.2.1 u1.2.2.2.2.1 u1.2.2.2.2.2.1 u1.2.2.2.2.2.2.1 u1.2.2.2.2.2.2.2.1 u2.2.1 u2.2.2.1 u2.2.2.2.2.1 u2.2.2.2.2.2.1 u2.2.2.2.2.2.2.2.1, ⟨0, .gone⟩, ⟨0, .gone⟩, zr2 p27, zr2 v.2.2.2.2.2.1, zr3 p29])) v.1.2.1 v.2.1.1 v.2.1.2.1 v.2.1.2.2.1 v.2.1.2.2.2.1 v.2.1.2.2.2.2.1 v.2.1.2.2.2.2.2.1 v.2.1.2.2.2.2.2.2.1 v.2.1.2.2.2.2.2.2.2.1 u0.2.1 u0.2.2.1 u0.2.2.2.1 u0.2.2.2.2.1 u0.2.2.2.2.2.1 u0.2.2.2.2.2.2.1 u0.2.2.2.2.2.2.2.1 u1.2.1 u1.2.2.1 u1.2.2.2.1 u1.2.2.2.2.1 u1.2.2.2.2.2.1 u1.2.2.2.2.2.2.1 u1.2.2.2.2.2.2.2.1 u2.2.1 u2.2.2.1 u2.2.2.2.2.1 u2.2.2.2.2.2.1 u2.2.2.2.2.2.2.2.1 v.2.2.2.2.2.1 k v.2.2.2.2.1 v.2.2.2.2.2.2.1) (I28_0 k K ws rs N X) ws rs
noncomputable def L28 : Option R := bif id == 0 then L28_0 k K ws rs N X else none
theorem i28_0 (c0 c1 c2 c3 c4 c5 c6 c7 : Int) (c8 : ByteArray) (c9 : List Int) (c10 : Int) (c11 : zL5) (c12 c13 c14 c15 : Int) (c16 : ByteArray) (c17 : List Int) (c18 : zL5) (c19 c20 c21 c22 : Int) (c23 : List Bool) (c24 : Int) (c25 : List Bool) (c26 c27 : Int) (c29 : zL1) (m : Nat) : ∀ (c28 : zL1) (c30 : zL3),
  iter (atHead an28 3 bd28_0) m (fun st N' => exec T an28 (modesOf F) 3 k 42 (S28 k) (E28 K) bd28_0 st N' (outX an28 3 0 N X)) (sh sp28_0 [.ptr 1 22, zi c0, .rw 6] [zr1 c1 c2 c3 c4 c5 c6 c7 c8 c9 c10 c11 c12 c13 c14 c15 c16 c17 c18 c19 c20 c21 c22 c23 c24 c25 c26 c27, ⟨0, .gone⟩, ⟨0, .gone⟩, zr2 c28, zr2 c29, zr3 c30]) = f28_0d k (fun p27 p29 => N (sh jn28_0 [.rw 6] [zr1 c1 c2 c3 c4 c5 c6 c7 c8 c9 c10 c11 c12 c13 c14 c15 c16 c17 c18 c19 c20 c21 c22 c23 c24 c25 c26 c27, ⟨0, .gone⟩, ⟨0, .gone⟩, zr2 p27, zr2 c29, zr3 p29])) c0 c1 c2 c3 c4 c5 c6 c7 c8 c9 c10 c11 c12 c13 c14 c15 c16 c17 c18 c19 c20 c21 c22 c23 c24 c25 c26 c27 c29 m c28 c30 := by
 induction m with
 | zero => intros; rfl
 | succ m ih =>
   intro c28 c30
   simp only [iter]
   rw [← execS_eq T an28 (modesOf F) 3 k 42 (S28 k) (L28 k K) bd28_0 (cuts_of _ _ _ _ _ _ _ _ bd28_0 (l := []) (by kernel_rfl) trivial)]
   have h := fx2 ih
   simp only [f28_0d]
   rw [← h]
   show _ = _
   kernel_rfl
theorem l28_0 : L28 k K 0 ws rs N X = I28_0 k K ws rs N X := by
 show L28_0 k K ws rs N X = _
 unfold L28_0
 rw [f28_0_def]
 exact onShape_eq (a := aa28_0) (b := ab28_0) (G := fun ws rs => I28_0 k K ws rs N X) (fun x y => Eq.trans (by kernel_rfl) (Eq.trans (i28_0 k K N X x.2.1 y.1.1 y.1.2.1 y.1.2.2.1 y.1.2.2.2.1 y.1.2.2.2.2.1 y.1.2.2.2.2.2.1 y.1.2.2.2.2.2.2.1 y.1.2.2.2.2.2.2.2.1 y.1.2.2.2.2.2.2.2.2.1 y.1.2.2.2.2.2.2.2.2.2.1 y.1.2.2.2.2.2.2.2.2.2.2.1 y.1.2.2.2.2.2.2.2.2.2.2.2.1 y.1.2.2.2.2.2.2.2.2.2.2.2.2.1 y.1.2.2.2.2.2.2.2.2.2.2.2.2.2.1 y.1.2.2.2.2.2.2.2.2.2.2.2.2.2.2.1 y.1.2.2.2.2.2.2.2.2.2.2.2.2.2.2.2.1 y.1.2.2.2.2.2.2.2.2.2.2.2.2.2.2.2.2.1 y.1.2.2.2.2.2.2.2.2.2.2.2.2.2.2.2.2.2.1 y.1.2.2.2.2.2.2.2.2.2.2.2.2.2.2.2.2.2.2.1 y.1.2.2.2.2.2.2.2.2.2.2.2.2.2.2.2.2.2.2.2.1 y.1.2.2.2.2.2.2.2.2.2.2.2.2.2.2.2.2.2.2.2.2.1 y.1.2.2.2.2.2.2.2.2.2.2.2.2.2.2.2.2.2.2.2.2.2.1 y.1.2.2.2.2.2.2.2.2.2.2.2.2.2.2.2.2.2.2.2.2.2.2.1 y.1.2.2.2.2.2.2.2.2.2.2.2.2.2.2.2.2.2.2.2.2.2.2.2.1 y.1.2.2.2.2.2.2.2.2.2.2.2.2.2.2.2.2.2.2.2.2.2.2.2.2.2.1 y.1.2.2.2.2.2.2.2.2.2.2.2.2.2.2.2.2.2.2.2.2.2.2.2.2.2.2.1 y.1.2.2.2.2.2.2.2.2.2.2.2.2.2.2.2.2.2.2.2.2.2.2.2.2.2.2.2.2.1 y.2.2.2.2.1 k y.2.2.2.1 y.2.2.2.2.2.1).symm (by kernel_rfl))) ws rs
theorem tu28 : tOk (R := R) 28 aa28 ab28 g28 := by
 intro k x y K
 unfold g28
 rw [f28_def]
 cases k with
 | zero => rfl
 | succ k => exact eS Try.f28 an28 3 42 (L28 k K) [(0, sp28_0, cd28_0)] (by kernel_rfl) (S28_eq k) (by kernel_rfl) ⟨l28_0 k K, trivial⟩ (by kernel_rfl)
noncomputable def s28 := onS (R := R) aa28 ab28 g28 (fun k => callC T F k 28)
theorem s28_eq : sOk (R := R) s28 28 := onS_eq (fun _ _ _ _ => rfl) tu28
noncomputable abbrev kt38 : Bool → Option R := (fun z0 => K [.val [] .bool z0] [])
abbrev aa38 : List Sh := [.agg [zv, zv, .val [] .str, .val [(0, 0)] zT2, .val [(0, 0)] zT1, zv, zv, zv, zv], .agg [zv, zv, .val [] .str, zv, zv, zv, .val [(0, 0)] zT2, .val [(0, 0)] zT1, .val [] .bool]]
abbrev ab38 : List RSh := []
noncomputable def g38 (k : Nat) (v : Sh.D.DL aa38 × RSh.DL ab38) (K : KT R) : Option R := let u0 := v.1.1.2.2.2.2.2.2.2; let u1 := v.1.2.1.2.2.2.2.2.2.2; f38 k v.1.1.1 v.1.1.2.1 v.1.1.2.2.1 v.1.1.2.2.2.1 v.1.1.2.2.2.2.1 v.1.1.2.2.2.2.2.1 v.1.1.2.2.2.2.2.2.1 v.1.1.2.2.2.2.2.2.2.1 u0.2.1 v.1.2.1.1 v.1.2.1.2.1 v.1.2.1.2.2.1 v.1.2.1.2.2.2.1 v.1.2.1.2.2.2.2.1 v.1.2.1.2.2.2.2.2.1 v.1.2.1.2.2.2.2.2.2.1 v.1.2.1.2.2.2.2.2.2.2.1 u1.2.1 (kt38 K)
noncomputable abbrev E38 := ending T Try.f38 an38 0 K
noncomputable def S38 := pickS (R := R) []
theorem S38_eq : ∀ k, S38 (R := R) k = callC T F k := pickS_eq trivial
theorem tu38 : tOk (R := R) 38 aa38 ab38 g38 := by
 intro k x y K
 unfold g38
 rw [f38_def]
 cases k with
 | zero => rfl
 | succ k => exact eS Try.f38 an38 0 64 L0 [] (by kernel_rfl) (S38_eq k) (by kernel_rfl) trivial (by kernel_rfl)
noncomputable def s38 := onS (R := R) aa38 ab38 g38 (fun k => callC T F k 38)
theorem s38_eq : sOk (R := R) s38 38 := onS_eq (fun _ _ _ _ => rfl) tu38
noncomputable abbrev kt48 : List Int → Option R := (fun z0 => K [.rw 1] [zr0 z0])
abbrev aa48 : List Sh := [.val [(0, 0)] zT2, zv]
abbrev ab48 : List RSh := []
noncomputable def g48 (k : Nat) (v : Sh.D.DL aa48 × RSh.DL ab48) (K : KT R) : Option R := f48 k v.1.1 v.1.2.1 (kt48 K)
theorem e48 (k : Nat) (a0 : List Int) (a1 : Int) (K : KT R) : callC T F k 48 [.val [(0, 0)] zT2 a0, zi a1] [] K = f48 k a0 a1 (kt48 K) := by
 rw [f48_def]
 cases k with
 | zero => rfl
 | succ k => exact rep_call (m := [.lend (.int .u8), .any]) (by kernel_rfl) [(0, 0)] [] a0 a1 K
theorem tu48 : tOk (R := R) 48 aa48 ab48 g48 := fun k x y K => e48 k x.1 x.2.1 K
noncomputable def s48 := onS (R := R) aa48 ab48 g48 (fun k => callC T F k 48)
theorem s48_eq : sOk (R := R) s48 48 := onS_eq (fun _ _ _ _ => rfl) tu48
noncomputable abbrev kt49 : zL6 → Option R := (fun z0 => K [.rw 1] [zr4 z0])
abbrev aa49 : List Sh := [.val [(0, 0)] zT1, zv]
abbrev ab49 : List RSh := []
noncomputable def g49 (k : Nat) (v : Sh.D.DL aa49 × RSh.DL ab49) (K : KT R) : Option R := f49 k v.1.1 v.1.2.1 (kt49 K)
noncomputable abbrev E49 := ending T Try.f49 an49 0 K
noncomputable def S49 := pickS (R := R) []
theorem S49_eq : ∀ k, S49 (R := R) k = callC T F k := pickS_eq trivial
noncomputable abbrev I49_1000007 : Option R := inner T an49 (modesOf F) 0 k 39 (S49 k) (E49 K) cd49_1000007 (sh sp49_1000007 ws rs) N X
abbrev aa49_1000007 : List Sh := [zv, .rw 1, zv, .ptr 2 0, .val [(0, 0)] zT1, zv, zv, .val [] .bool]
abbrev ab49_1000007 : List RSh := [.arr [] zP1, .vars [zv, zv]]
noncomputable def L49_1000007 : Option R :=
 onShape aa49_1000007 ab49_1000007 (fun v => f49_1000007 k (fun p4 => N (sh fi49_7 [zi v.1.1, .rw 1, .ptr 2 0, .val [(0, 0)] zT1 v.1.2.2.2.2.1, zi v.1.2.2.2.2.2.1, zi v.1.2.2.2.2.2.2.1] [zr4 p4, ⟨0, .vars [zi v.2.2.1.1, zi v.2.2.1.2.1]⟩])) v.1.2.2.1 v.1.2.2.2.2.2.2.2.1 v.2.1 v.2.2.1.1) (I49_1000007 k K ws rs N X) ws rs
noncomputable abbrev I49_0 : Option R := inner T an49 (modesOf F) 0 k 39 (S49 k) (E49 K) cd49_0 (sh sp49_0 ws rs) N X
abbrev aa49_0 : List Sh := [zv, .rw 1, zv, .val [(0, 0)] zT1, zv, zv]
abbrev ab49_0 : List RSh := [.arr [] zP1]
noncomputable def L49_0 : Option R :=
 onShape aa49_0 ab49_0 (fun v => f49_0 k (fun p1 p2 => N (sh jn49_0 [zi v.1.1, .rw 1, zi p1] [zr4 p2])) v.1.1 v.1.2.2.2.1 v.1.2.2.2.2.1 k v.1.2.2.1 v.1.2.2.2.2.2.1 v.2.1) (I49_0 k K ws rs N X) ws rs
noncomputable abbrev I49_1000011 : Option R := inner T an49 (modesOf F) 0 k 39 (S49 k) (E49 K) cd49_1000011 (sh sp49_1000011 ws rs) N X
abbrev aa49_1000011 : List Sh := [zv, .rw 1, zv, .val [] .bool]
abbrev ab49_1000011 : List RSh := [.arr [] zP1]
noncomputable def L49_1000011 : Option R :=
 onShape aa49_1000011 ab49_1000011 (fun v => f49_1000011 k (fun p0 => N (sh fi49_11 [.rw 1] [zr4 p0])) v.1.1 v.1.2.2.1 v.1.2.2.2.1 v.2.1) (I49_1000011 k K ws rs N X) ws rs
noncomputable def L49 : Option R := bif id == 1000007 then L49_1000007 k K ws rs N X else bif id == 0 then L49_0 k K ws rs N X else bif id == 1000011 then L49_1000011 k K ws rs N X else none
theorem l49_1000007 : L49 k K 1000007 ws rs N X = I49_1000007 k K ws rs N X := by
 show L49_1000007 k K ws rs N X = _
 unfold L49_1000007
 rw [f49_1000007_def]
 exact lC (L49 k K) [] (by kernel_rfl) trivial fun x y => by kernel_rfl
theorem i49_0 (c0 : Int) (c2 : zL5) (c3 : Int) (m : Nat) : ∀ (c1 c4 : Int) (c5 : zL6),
  iter (atHead an49 0 bd49_0) m (fun st N' => exec T an49 (modesOf F) 0 k 39 (S49 k) (E49 K) bd49_0 st N' (outX an49 0 0 N X)) (sh sp49_0 [zi c0, .rw 1, zi c1, .val [(0, 0)] zT1 c2, zi c3, zi c4] [zr4 c5]) = f49_0d k (fun p1 p2 => N (sh jn49_0 [zi c0, .rw 1, zi p1] [zr4 p2])) c0 c2 c3 m c1 c4 c5 := by
 induction m with
 | zero => intros; rfl
 | succ m ih =>
   intro c1 c4 c5
   simp only [iter]
   rw [← execS_eq T an49 (modesOf F) 0 k 39 (S49 k) (L49 k K) bd49_0 (cuts_of _ _ _ _ _ _ _ _ bd49_0 (l := [(1000007, sp49_1000007, cd49_1000007)]) (by kernel_rfl) ⟨l49_1000007 k K, trivial⟩)]
   have h := fx3 ih
   simp only [f49_0d]
   rw [← h]
   show _ = _
   kernel_rfl
theorem l49_0 : L49 k K 0 ws rs N X = I49_0 k K ws rs N X := by
 show L49_0 k K ws rs N X = _
 unfold L49_0
 rw [f49_0_def]
 exact onShape_eq (a := aa49_0) (b := ab49_0) (G := fun ws rs => I49_0 k K ws rs N X) (fun x y => Eq.trans (by kernel_rfl) (Eq.trans (i49_0 k K N X x.1 x.2.2.2.1 x.2.2.2.2.1 k x.2.2.1 x.2.2.2.2.2.1 y.1).symm (by kernel_rfl))) ws rs
theorem l49_1000011 : L49 k K 1000011 ws rs N X = I49_1000011 k K ws rs N X := by
 show L49_1000011 k K ws rs N X = _
 unfold L49_1000011
 rw [f49_1000011_def]
 exact lC (L49 k K) [] (by kernel_rfl) trivial fun x y => by kernel_rfl
theorem tu49 : tOk (R := R) 49 aa49 ab49 g49 := by
 intro k x y K
 unfold g49
 rw [f49_def]
 cases k with
 | zero => rfl
 | succ k => exact eS Try.f49 an49 0 39 (L49 k K) [(0, sp49_0, cd49_0), (1000011, sp49_1000011, cd49_1000011)] (by kernel_rfl) (S49_eq k) (by kernel_rfl) ⟨l49_0 k K, l49_1000011 k K, trivial⟩ (by kernel_rfl)
noncomputable def s49 := onS (R := R) aa49 ab49 g49 (fun k => callC T F k 49)
theorem s49_eq : sOk (R := R) s49 49 := onS_eq (fun _ _ _ _ => rfl) tu49
noncomputable abbrev kt63 : zL6 → Option R := (fun z0 => K [.rw 1] [zr4 z0])
abbrev aa63 : List Sh := [.nils, zv]
abbrev ab63 : List RSh := []
noncomputable def g63 (k : Nat) (v : Sh.D.DL aa63 × RSh.DL ab63) (K : KT R) : Option R := f63 k v.1.2.1 (kt63 K)
noncomputable abbrev E63 := ending T Try.f63 an63 0 K
noncomputable def S63 := pickS (R := R) []
theorem S63_eq : ∀ k, S63 (R := R) k = callC T F k := pickS_eq trivial
noncomputable abbrev I63_1000002 : Option R := inner T an63 (modesOf F) 0 k 27 (S63 k) (E63 K) cd63_1000002 (sh sp63_1000002 ws rs) N X
abbrev aa63_1000002 : List Sh := [.nils, zv, .val [] .bool]
abbrev ab63_1000002 : List RSh := []
noncomputable def L63_1000002 : Option R :=
 onShape aa63_1000002 ab63_1000002 (fun v => f63_1000002 k (N (sh fi63_2 [.nils, zi v.1.2.1] [])) v.1.2.2.1) (I63_1000002 k K ws rs N X) ws rs
noncomputable abbrev I63_1000005 : Option R := inner T an63 (modesOf F) 0 k 27 (S63 k) (E63 K) cd63_1000005 (sh sp63_1000005 ws rs) N X
abbrev aa63_1000005 : List Sh := [.nils, zv, .val [] .bool]
abbrev ab63_1000005 : List RSh := []
noncomputable def L63_1000005 : Option R :=
 onShape aa63_1000005 ab63_1000005 (fun v => f63_1000005 k (fun p0 => N (sh fi63_5 [.rw 1] [zr4 p0])) v.1.2.1 v.1.2.2.1) (I63_1000005 k K ws rs N X) ws rs
noncomputable def L63 : Option R := bif id == 1000002 then L63_1000002 k K ws rs N X else bif id == 1000005 then L63_1000005 k K ws rs N X else none
theorem l63_1000002 : L63 k K 1000002 ws rs N X = I63_1000002 k K ws rs N X := by
 show L63_1000002 k K ws rs N X = _
 unfold L63_1000002
 rw [f63_1000002_def]
 exact lC (L63 k K) [] (by kernel_rfl) trivial fun x y => by kernel_rfl
theorem l63_1000005 : L63 k K 1000005 ws rs N X = I63_1000005 k K ws rs N X := by
 show L63_1000005 k K ws rs N X = _
 unfold L63_1000005
 rw [f63_1000005_def]
 exact lC (L63 k K) [] (by kernel_rfl) trivial fun x y => by kernel_rfl
theorem tu63 : tOk (R := R) 63 aa63 ab63 g63 := by
 intro k x y K
 unfold g63
 rw [f63_def]
 cases k with
 | zero => rfl
 | succ k => exact eS Try.f63 an63 0 27 (L63 k K) [(1000002, sp63_1000002, cd63_1000002), (1000005, sp63_1000005, cd63_1000005)] (by kernel_rfl) (S63_eq k) (by kernel_rfl) ⟨l63_1000002 k K, l63_1000005 k K, trivial⟩ (by kernel_rfl)
noncomputable def s63 := onS (R := R) aa63 ab63 g63 (fun k => callC T F k 63)
theorem s63_eq : sOk (R := R) s63 63 := onS_eq (fun _ _ _ _ => rfl) tu63
noncomputable abbrev kt58 : zL6 → Option R := (fun z0 => K [.rw 1] [zr4 z0])
abbrev aa58 : List Sh := [.val [(0, 0)] (.slice zT1)]
abbrev ab58 : List RSh := []
noncomputable def g58 (k : Nat) (v : Sh.D.DL aa58 × RSh.DL ab58) (K : KT R) : Option R := f58 k v.1.1 (kt58 K)
noncomputable abbrev E58 := ending T Try.f58 an58 0 K
noncomputable def S58 := pickS (R := R) [(63, s63)]
theorem S58_eq : ∀ k, S58 (R := R) k = callC T F k := pickS_eq ⟨s63_eq, trivial⟩
noncomputable abbrev I58_1000007 : Option R := inner T an58 (modesOf F) 0 k 36 (S58 k) (E58 K) cd58_1000007 (sh sp58_1000007 ws rs) N X
abbrev aa58_1000007 : List Sh := [.val [(0, 0)] (.slice zT1), zv, .val [(0, 0)] (.slice zT1), zv, zv, .val [] .bool]
abbrev ab58_1000007 : List RSh := []
noncomputable def L58_1000007 : Option R :=
 onShape aa58_1000007 ab58_1000007 (fun v => f58_1000007 k (N (sh fi58_7 [.val [(0, 0)] (.slice zT1) v.1.1, zi v.1.2.1, .val [(0, 0)] (.slice zT1) v.1.2.2.1, zi v.1.2.2.2.1, zi v.1.2.2.2.2.1] [])) v.1.2.2.2.2.2.1) (I58_1000007 k K ws rs N X) ws rs
noncomputable abbrev I58_0 : Option R := inner T an58 (modesOf F) 0 k 36 (S58 k) (E58 K) cd58_0 (sh sp58_0 ws rs) N X
abbrev aa58_0 : List Sh := [.val [(0, 0)] (.slice zT1), zv, .val [(0, 0)] (.slice zT1), zv, zv]
abbrev ab58_0 : List RSh := []
noncomputable def L58_0 : Option R :=
 onShape aa58_0 ab58_0 (fun v => f58_0 k (fun p1 => N (sh jn58_0 [.val [(0, 0)] (.slice zT1) v.1.1, zi p1] [])) v.1.1 v.1.2.2.1 v.1.2.2.2.1 k v.1.2.1 v.1.2.2.2.2.1) (I58_0 k K ws rs N X) ws rs
noncomputable abbrev I58_2 : Option R := inner T an58 (modesOf F) 0 k 36 (S58 k) (E58 K) cd58_2 (sh sp58_2 ws rs) N X
abbrev aa58_2 : List Sh := [.rw 1, .val [(0, 0)] (.slice zT1), zv, zv]
abbrev ab58_2 : List RSh := [.arr [] zP1]
noncomputable def L58_2 : Option R :=
 onShape aa58_2 ab58_2 (fun v => f58_2 k (fun p0 => N (sh jn58_2 [.rw 1] [zr4 p0])) v.1.2.1 v.1.2.2.1 k v.1.2.2.2.1 v.2.1) (I58_2 k K ws rs N X) ws rs
noncomputable def L58 : Option R := bif id == 1000007 then L58_1000007 k K ws rs N X else bif id == 0 then L58_0 k K ws rs N X else bif id == 2 then L58_2 k K ws rs N X else none
theorem l58_1000007 : L58 k K 1000007 ws rs N X = I58_1000007 k K ws rs N X := by
 show L58_1000007 k K ws rs N X = _
 unfold L58_1000007
 rw [f58_1000007_def]
 exact lC (L58 k K) [] (by kernel_rfl) trivial fun x y => by kernel_rfl
theorem i58_0 (c0 c2 : List (zL5)) (c3 : Int) (m : Nat) : ∀ (c1 c4 : Int),
  iter (atHead an58 0 bd58_0) m (fun st N' => exec T an58 (modesOf F) 0 k 36 (S58 k) (E58 K) bd58_0 st N' (outX an58 0 0 N X)) (sh sp58_0 [.val [(0, 0)] (.slice zT1) c0, zi c1, .val [(0, 0)] (.slice zT1) c2, zi c3, zi c4] []) = f58_0d k (fun p1 => N (sh jn58_0 [.val [(0, 0)] (.slice zT1) c0, zi p1] [])) c0 c2 c3 m c1 c4 := by
 induction m with
 | zero => intros; rfl
 | succ m ih =>
   intro c1 c4
   simp only [iter]
   rw [← execS_eq T an58 (modesOf F) 0 k 36 (S58 k) (L58 k K) bd58_0 (cuts_of _ _ _ _ _ _ _ _ bd58_0 (l := [(1000007, sp58_1000007, cd58_1000007)]) (by kernel_rfl) ⟨l58_1000007 k K, trivial⟩)]
   have h := fx2 ih
   simp only [f58_0d]
   rw [← h]
   show _ = _
   kernel_rfl
theorem l58_0 : L58 k K 0 ws rs N X = I58_0 k K ws rs N X := by
 show L58_0 k K ws rs N X = _
 unfold L58_0
 rw [f58_0_def]
 exact onShape_eq (a := aa58_0) (b := ab58_0) (G := fun ws rs => I58_0 k K ws rs N X) (fun x y => Eq.trans (by kernel_rfl) (Eq.trans (i58_0 k K N X x.1 x.2.2.1 x.2.2.2.1 k x.2.1 x.2.2.2.2.1).symm (by kernel_rfl))) ws rs
theorem i58_2 (c0 : List (zL5)) (c1 : Int) (m : Nat) : ∀ (c2 : Int) (c3 : zL6),
  iter (atHead an58 0 bd58_2) m (fun st N' => exec T an58 (modesOf F) 0 k 36 (S58 k) (E58 K) bd58_2 st N' (outX an58 0 2 N X)) (sh sp58_2 [.rw 1, .val [(0, 0)] (.slice zT1) c0, zi c1, zi c2] [zr4 c3]) = f58_2d k (fun p0 => N (sh jn58_2 [.rw 1] [zr4 p0])) c0 c1 m c2 c3 := by
 induction m with
 | zero => intros; rfl
 | succ m ih =>
   intro c2 c3
   simp only [iter]
   rw [← execS_eq T an58 (modesOf F) 0 k 36 (S58 k) (L58 k K) bd58_2 (cuts_of _ _ _ _ _ _ _ _ bd58_2 (l := []) (by kernel_rfl) trivial)]
   have h := fx2 ih
   simp only [f58_2d]
   rw [← h]
   show _ = _
   kernel_rfl
theorem l58_2 : L58 k K 2 ws rs N X = I58_2 k K ws rs N X := by
 show L58_2 k K ws rs N X = _
 unfold L58_2
 rw [f58_2_def]
 exact onShape_eq (a := aa58_2) (b := ab58_2) (G := fun ws rs => I58_2 k K ws rs N X) (fun x y => Eq.trans (by kernel_rfl) (Eq.trans (i58_2 k K N X x.2.1 x.2.2.1 k x.2.2.2.1 y.1).symm (by kernel_rfl))) ws rs
theorem tu58 : tOk (R := R) 58 aa58 ab58 g58 := by
 intro k x y K
 unfold g58
 rw [f58_def]
 cases k with
 | zero => rfl
 | succ k => exact eS Try.f58 an58 0 36 (L58 k K) [(0, sp58_0, cd58_0), (2, sp58_2, cd58_2)] (by kernel_rfl) (S58_eq k) (by kernel_rfl) ⟨l58_0 k K, l58_2 k K, trivial⟩ (by kernel_rfl)
noncomputable def s58 := onS (R := R) aa58 ab58 g58 (fun k => callC T F k 58)
theorem s58_eq : sOk (R := R) s58 58 := onS_eq (fun _ _ _ _ => rfl) tu58
noncomputable abbrev kt59 : zL6 → Option R := (fun z0 => K [] [zr4 z0])
abbrev aa59 : List Sh := [.rw 1, .fn 60 []]
abbrev ab59 : List RSh := [.arr [] zP1]
noncomputable def g59 (k : Nat) (v : Sh.D.DL aa59 × RSh.DL ab59) (K : KT R) : Option R := f59 k v.2.1 (kt59 K)
theorem e59 (k : Nat) (a0 : zL6) (K : KT R) : callC T F k 59 [.rw 1, .fn 60 []] [zr4 a0] K = f59 k a0 (kt59 K) := by
 rw [f59_def]
 cases k with
 | zero => rfl
 | succ k => exact sort_call (m := [.any, .any]) (c := 60) (by kernel_rfl) a0 K
theorem tu59 : tOk (R := R) 59 aa59 ab59 g59 := fun k x y K => e59 k y.1 K
noncomputable def s59 := onS (R := R) aa59 ab59 g59 (fun k => callC T F k 59)
theorem s59_eq : sOk (R := R) s59 59 := onS_eq (fun _ _ _ _ => rfl) tu59
noncomputable abbrev kt50 : zL6 → Option R := (fun z0 => K [.rw 1] [zr4 z0])
abbrev aa50 : List Sh := [.val [(0, 0)] zT1, .val [(0, 0)] zT1]
abbrev ab50 : List RSh := []
noncomputable def g50 (k : Nat) (v : Sh.D.DL aa50 × RSh.DL ab50) (K : KT R) : Option R := f50 k v.1.1 v.1.2.1 (kt50 K)
noncomputable abbrev E50 := ending T Try.f50 an50 0 K
noncomputable def S50 := pickS (R := R) [(58, s58), (59, s59)]
theorem S50_eq : ∀ k, S50 (R := R) k = callC T F k := pickS_eq ⟨s58_eq, s59_eq, trivial⟩
noncomputable abbrev I50_1000009 : Option R := inner T an50 (modesOf F) 0 k 57 (S50 k) (E50 K) cd50_1000009 (sh sp50_1000009 ws rs) N X
abbrev aa50_1000009 : List Sh := [.rw 1, .ptr 2 0, zv, .rw 3, zv, zv, .val [] .bool]
abbrev ab50_1000009 : List RSh := [.arr [] zP1, .vars [zv, zv], .arr [] zP1]
noncomputable def L50_1000009 : Option R :=
 onShape aa50_1000009 ab50_1000009 (fun v => f50_1000009 k (fun p2 => N (sh fi50_9 [.rw 1, .rw 2, zi v.1.2.2.2.2.1, zi v.1.2.2.2.2.2.1] [zr4 p2, zr4 v.2.2.2.1])) v.1.2.2.1 v.1.2.2.2.2.2.2.1 v.2.1 v.2.2.1.1 v.2.2.1.2.1) (I50_1000009 k K ws rs N X) ws rs
noncomputable abbrev I50_0 : Option R := inner T an50 (modesOf F) 0 k 57 (S50 k) (E50 K) cd50_0 (sh sp50_0 ws rs) N X
abbrev aa50_0 : List Sh := [.rw 1, .rw 2, zv, zv]
abbrev ab50_0 : List RSh := [.arr [] zP1, .arr [] zP1]
noncomputable def L50_0 : Option R :=
 onShape aa50_0 ab50_0 (fun v => f50_0 k (fun p0 => N (sh jn50_0 [.rw 1] [zr4 p0])) v.1.2.2.1 v.2.2.1 k v.1.2.2.2.1 v.2.1) (I50_0 k K ws rs N X) ws rs
noncomputable def L50 : Option R := bif id == 1000009 then L50_1000009 k K ws rs N X else bif id == 0 then L50_0 k K ws rs N X else none
theorem l50_1000009 : L50 k K 1000009 ws rs N X = I50_1000009 k K ws rs N X := by
 show L50_1000009 k K ws rs N X = _
 unfold L50_1000009
 rw [f50_1000009_def]
 exact lC (L50 k K) [] (by kernel_rfl) trivial fun x y => by kernel_rfl
theorem i50_0 (c0 : Int) (c3 : zL6) (m : Nat) : ∀ (c1 : Int) (c2 : zL6),
  iter (atHead an50 0 bd50_0) m (fun st N' => exec T an50 (modesOf F) 0 k 57 (S50 k) (E50 K) bd50_0 st N' (outX an50 0 0 N X)) (sh sp50_0 [.rw 1, .rw 2, zi c0, zi c1] [zr4 c2, zr4 c3]) = f50_0d k (fun p0 => N (sh jn50_0 [.rw 1] [zr4 p0])) c0 c3 m c1 c2 := by
 induction m with
 | zero => intros; rfl
 | succ m ih =>
   intro c1 c2
   simp only [iter]
   rw [← execS_eq T an50 (modesOf F) 0 k 57 (S50 k) (L50 k K) bd50_0 (cuts_of _ _ _ _ _ _ _ _ bd50_0 (l := [(1000009, sp50_1000009, cd50_1000009)]) (by kernel_rfl) ⟨l50_1000009 k K, trivial⟩)]
   have h := fx2 ih
   simp only [f50_0d]
   rw [← h]
   show _ = _
   kernel_rfl
theorem l50_0 : L50 k K 0 ws rs N X = I50_0 k K ws rs N X := by
 show L50_0 k K ws rs N X = _
 unfold L50_0
 rw [f50_0_def]
 exact onShape_eq (a := aa50_0) (b := ab50_0) (G := fun ws rs => I50_0 k K ws rs N X) (fun x y => Eq.trans (by kernel_rfl) (Eq.trans (i50_0 k K N X x.2.2.1 y.2.1 k x.2.2.2.1 y.1).symm (by kernel_rfl))) ws rs
theorem tu50 : tOk (R := R) 50 aa50 ab50 g50 := by
 intro k x y K
 unfold g50
 rw [f50_def]
 cases k with
 | zero => rfl
 | succ k => exact eS Try.f50 an50 0 57 (L50 k K) [(0, sp50_0, cd50_0)] (by kernel_rfl) (S50_eq k) (by kernel_rfl) ⟨l50_0 k K, trivial⟩ (by kernel_rfl)
noncomputable def s50 := onS (R := R) aa50 ab50 g50 (fun k => callC T F k 50)
theorem s50_eq : sOk (R := R) s50 50 := onS_eq (fun _ _ _ _ => rfl) tu50
noncomputable abbrev kt39 : Bool → List Int → zL6 → Option R := (fun z0 z1 z2 => K [.rw 1, .rw 2, .val [] .bool z0] [zr0 z1, zr4 z2])
abbrev aa39 : List Sh := [.val [(0, 0)] zT2, .val [(0, 0)] zT1, zv, .val [(0, 0)] zT2]
abbrev ab39 : List RSh := []
noncomputable def g39 (k : Nat) (v : Sh.D.DL aa39 × RSh.DL ab39) (K : KT R) : Option R := f39 k v.1.1 v.1.2.1 v.1.2.2.1 v.1.2.2.2.1 (kt39 K)
noncomputable abbrev E39 := ending T Try.f39 an39 0 K
noncomputable def S39 := pickS (R := R) [(27, s27), (48, s48), (49, s49), (50, s50)]
theorem S39_eq : ∀ k, S39 (R := R) k = callC T F k := pickS_eq ⟨s27_eq, s48_eq, s49_eq, s50_eq, trivial⟩
noncomputable abbrev I39_1000004 : Option R := inner T an39 (modesOf F) 0 k 80 (S39 k) (E39 K) cd39_1000004 (sh sp39_1000004 ws rs) N X
abbrev aa39_1000004 : List Sh := [.val [(0, 0)] zT2, .val [(0, 0)] zT1, zv, .val [(0, 0)] zT2, zv, .rw 1, .val [] .bool]
abbrev ab39_1000004 : List RSh := [.arr [] (.int .u8)]
noncomputable def L39_1000004 : Option R :=
 onShape aa39_1000004 ab39_1000004 (fun v => f39_1000004 k (fun p5 => N (sh fi39_4 [.val [(0, 0)] zT2 v.1.1, .val [(0, 0)] zT1 v.1.2.1, zi v.1.2.2.1, .val [(0, 0)] zT2 v.1.2.2.2.1, zi v.1.2.2.2.2.1, .rw 1] [zr0 p5])) v.1.2.2.2.2.1 v.1.2.2.2.2.2.2.1 v.2.1) (I39_1000004 k K ws rs N X) ws rs
noncomputable abbrev I39_1000011 : Option R := inner T an39 (modesOf F) 0 k 80 (S39 k) (E39 K) cd39_1000011 (sh sp39_1000011 ws rs) N X
abbrev aa39_1000011 : List Sh := [.val [(0, 0)] zT1, zv, .val [(0, 0)] zT2, zv, .rw 1, .val [] .bool, zv, zv, .rw 2, zv, zv, .val [] .bool]
abbrev ab39_1000011 : List RSh := [.arr [] (.int .u8), .arr [] zP1]
noncomputable def L39_1000011 : Option R :=
 onShape aa39_1000011 ab39_1000011 (fun v => let u0 := v.1.2.2.2.2.2.2.2; f39_1000011 k (fun p4 p7 => N (sh fi39_11 [.val [(0, 0)] zT1 v.1.1, zi v.1.2.1, .val [(0, 0)] zT2 v.1.2.2.1, zi v.1.2.2.2.1, .rw 1, .val [] .bool p4, .rw 2, zi u0.2.2.1, zi u0.2.2.2.1] [zr0 p7, zr4 v.2.2.1])) v.1.2.1 v.1.2.2.1 v.1.2.2.2.2.2.1 v.1.2.2.2.2.2.2.1 v.1.2.2.2.2.2.2.2.1 u0.2.2.2.2.1 v.2.1) (I39_1000011 k K ws rs N X) ws rs
noncomputable abbrev I39_0 : Option R := inner T an39 (modesOf F) 0 k 80 (S39 k) (E39 K) cd39_0 (sh sp39_0 ws rs) N X
abbrev aa39_0 : List Sh := [.val [(0, 0)] zT1, zv, .val [(0, 0)] zT2, zv, .rw 1, .val [] .bool, .rw 2, zv, zv]
abbrev ab39_0 : List RSh := [.arr [] (.int .u8), .arr [] zP1]
noncomputable def L39_0 : Option R :=
 onShape aa39_0 ab39_0 (fun v => let u0 := v.1.2.2.2.2.2.2.2; f39_0 k (fun p3 p4 => N (sh jn39_0 [.val [(0, 0)] zT1 v.1.1, zi v.1.2.1, zi v.1.2.2.2.1, .rw 1, .val [] .bool p3] [zr0 p4])) v.1.1 v.1.2.1 v.1.2.2.1 v.1.2.2.2.1 v.1.2.2.2.2.2.2.2.1 v.2.2.1 k v.1.2.2.2.2.2.1 u0.2.1 v.2.1) (I39_0 k K ws rs N X) ws rs
noncomputable def L39 : Option R := bif id == 1000004 then L39_1000004 k K ws rs N X else bif id == 1000011 then L39_1000011 k K ws rs N X else bif id == 0 then L39_0 k K ws rs N X else none
theorem l39_1000004 : L39 k K 1000004 ws rs N X = I39_1000004 k K ws rs N X := by
 show L39_1000004 k K ws rs N X = _
 unfold L39_1000004
 rw [f39_1000004_def]
 exact lC (L39 k K) [] (by kernel_rfl) trivial fun x y => by kernel_rfl
theorem l39_1000011 : L39 k K 1000011 ws rs N X = I39_1000011 k K ws rs N X := by
 show L39_1000011 k K ws rs N X = _
 unfold L39_1000011
 rw [f39_1000011_def]
 exact lC (L39 k K) [] (by kernel_rfl) trivial fun x y => by kernel_rfl
theorem i39_0 (c0 : zL5) (c1 : Int) (c2 : List Int) (c3 c5 : Int) (c8 : zL6) (m : Nat) : ∀ (c4 : Bool) (c6 : Int) (c7 : List Int),
  iter (atHead an39 0 bd39_0) m (fun st N' => exec T an39 (modesOf F) 0 k 80 (S39 k) (E39 K) bd39_0 st N' (outX an39 0 0 N X)) (sh sp39_0 [.val [(0, 0)] zT1 c0, zi c1, .val [(0, 0)] zT2 c2, zi c3, .rw 1, .val [] .bool c4, .rw 2, zi c5, zi c6] [zr0 c7, zr4 c8]) = f39_0d k (fun p3 p4 => N (sh jn39_0 [.val [(0, 0)] zT1 c0, zi c1, zi c3, .rw 1, .val [] .bool p3] [zr0 p4])) c0 c1 c2 c3 c5 c8 m c4 c6 c7 := by
 induction m with
 | zero => intros; rfl
 | succ m ih =>
   intro c4 c6 c7
   simp only [iter]
   rw [← execS_eq T an39 (modesOf F) 0 k 80 (S39 k) (L39 k K) bd39_0 (cuts_of _ _ _ _ _ _ _ _ bd39_0 (l := [(1000011, sp39_1000011, cd39_1000011)]) (by kernel_rfl) ⟨l39_1000011 k K, trivial⟩)]
   have h := fx3 ih
   simp only [f39_0d]
   rw [← h]
   show _ = _
   kernel_rfl
theorem l39_0 : L39 k K 0 ws rs N X = I39_0 k K ws rs N X := by
 show L39_0 k K ws rs N X = _
 unfold L39_0
 rw [f39_0_def]
 exact onShape_eq (a := aa39_0) (b := ab39_0) (G := fun ws rs => I39_0 k K ws rs N X) (fun x y => Eq.trans (by kernel_rfl) (Eq.trans (i39_0 k K N X x.1 x.2.1 x.2.2.1 x.2.2.2.1 x.2.2.2.2.2.2.2.1 y.2.1 k x.2.2.2.2.2.1 x.2.2.2.2.2.2.2.2.1 y.1).symm (by kernel_rfl))) ws rs
theorem tu39 : tOk (R := R) 39 aa39 ab39 g39 := by
 intro k x y K
 unfold g39
 rw [f39_def]
 cases k with
 | zero => rfl
 | succ k => exact eS Try.f39 an39 0 80 (L39 k K) [(1000004, sp39_1000004, cd39_1000004), (0, sp39_0, cd39_0)] (by kernel_rfl) (S39_eq k) (by kernel_rfl) ⟨l39_1000004 k K, l39_0 k K, trivial⟩ (by kernel_rfl)
noncomputable def s39 := onS (R := R) aa39 ab39 g39 (fun k => callC T F k 39)
theorem s39_eq : sOk (R := R) s39 39 := onS_eq (fun _ _ _ _ => rfl) tu39
noncomputable abbrev kt40 : zL6 → Option R := (fun z0 => K [.rw 1] [zr4 z0])
abbrev aa40 : List Sh := [.agg [zv, zv, .val [] .str, .val [(0, 0)] zT2, .val [(0, 0)] zT1, zv, zv, zv, zv]]
abbrev ab40 : List RSh := []
noncomputable def g40 (k : Nat) (v : Sh.D.DL aa40 × RSh.DL ab40) (K : KT R) : Option R := let u0 := v.1.1.2.2.2.2.2.2.2; f40 k v.1.1.1 v.1.1.2.1 v.1.1.2.2.1 v.1.1.2.2.2.1 v.1.1.2.2.2.2.1 v.1.1.2.2.2.2.2.1 v.1.1.2.2.2.2.2.2.1 v.1.1.2.2.2.2.2.2.2.1 u0.2.1 (kt40 K)
noncomputable abbrev E40 := ending T Try.f40 an40 0 K
noncomputable def S40 := pickS (R := R) [(49, s49)]
theorem S40_eq : ∀ k, S40 (R := R) k = callC T F k := pickS_eq ⟨s49_eq, trivial⟩
theorem tu40 : tOk (R := R) 40 aa40 ab40 g40 := by
 intro k x y K
 unfold g40
 rw [f40_def]
 cases k with
 | zero => rfl
 | succ k => exact eS Try.f40 an40 0 8 L0 [] (by kernel_rfl) (S40_eq k) (by kernel_rfl) trivial (by kernel_rfl)
noncomputable def s40 := onS (R := R) aa40 ab40 g40 (fun k => callC T F k 40)
theorem s40_eq : sOk (R := R) s40 40 := onS_eq (fun _ _ _ _ => rfl) tu40
noncomputable abbrev kt41 : Int → Option R := (fun z0 => K [zi z0] [])
abbrev aa41 : List Sh := [.val [(0, 0)] zT2]
abbrev ab41 : List RSh := []
noncomputable def g41 (k : Nat) (v : Sh.D.DL aa41 × RSh.DL ab41) (K : KT R) : Option R := f41 k v.1.1 (kt41 K)
noncomputable abbrev E41 := ending T Try.f41 an41 0 K
noncomputable def S41 := pickS (R := R) []
theorem S41_eq : ∀ k, S41 (R := R) k = callC T F k := pickS_eq trivial
noncomputable abbrev I41_0 : Option R := inner T an41 (modesOf F) 0 k 25 (S41 k) (E41 K) cd41_0 (sh sp41_0 ws rs) N X
abbrev aa41_0 : List Sh := [zv, .val [(0, 0)] zT2, zv, zv]
abbrev ab41_0 : List RSh := []
noncomputable def L41_0 : Option R :=
 onShape aa41_0 ab41_0 (fun v => f41_0 k (fun p0 => N (sh jn41_0 [zi p0] [])) v.1.2.1 v.1.2.2.1 k v.1.1 v.1.2.2.2.1) (I41_0 k K ws rs N X) ws rs
noncomputable def L41 : Option R := bif id == 0 then L41_0 k K ws rs N X else none
theorem i41_0 (c1 : List Int) (c2 : Int) (m : Nat) : ∀ (c0 c3 : Int),
  iter (atHead an41 0 bd41_0) m (fun st N' => exec T an41 (modesOf F) 0 k 25 (S41 k) (E41 K) bd41_0 st N' (outX an41 0 0 N X)) (sh sp41_0 [zi c0, .val [(0, 0)] zT2 c1, zi c2, zi c3] []) = f41_0d k (fun p0 => N (sh jn41_0 [zi p0] [])) c1 c2 m c0 c3 := by
 induction m with
 | zero => intros; rfl
 | succ m ih =>
   intro c0 c3
   simp only [iter]
   rw [← execS_eq T an41 (modesOf F) 0 k 25 (S41 k) (L41 k K) bd41_0 (cuts_of _ _ _ _ _ _ _ _ bd41_0 (l := []) (by kernel_rfl) trivial)]
   have h := fx2 ih
   simp only [f41_0d]
   rw [← h]
   show _ = _
   kernel_rfl
theorem l41_0 : L41 k K 0 ws rs N X = I41_0 k K ws rs N X := by
 show L41_0 k K ws rs N X = _
 unfold L41_0
 rw [f41_0_def]
 exact onShape_eq (a := aa41_0) (b := ab41_0) (G := fun ws rs => I41_0 k K ws rs N X) (fun x y => Eq.trans (by kernel_rfl) (Eq.trans (i41_0 k K N X x.2.1 x.2.2.1 k x.1 x.2.2.2.1).symm (by kernel_rfl))) ws rs
theorem tu41 : tOk (R := R) 41 aa41 ab41 g41 := by
 intro k x y K
 unfold g41
 rw [f41_def]
 cases k with
 | zero => rfl
 | succ k => exact eS Try.f41 an41 0 25 (L41 k K) [(0, sp41_0, cd41_0)] (by kernel_rfl) (S41_eq k) (by kernel_rfl) ⟨l41_0 k K, trivial⟩ (by kernel_rfl)
noncomputable def s41 := onS (R := R) aa41 ab41 g41 (fun k => callC T F k 41)
theorem s41_eq : sOk (R := R) s41 41 := onS_eq (fun _ _ _ _ => rfl) tu41
noncomputable abbrev kt53 : Int → Int → Option R := (fun z0 z1 => K [.agg [zi z0, zi z1]] [])
abbrev aa53 : List Sh := []
abbrev ab53 : List RSh := []
noncomputable def g53 (k : Nat) (v : Sh.D.DL aa53 × RSh.DL ab53) (K : KT R) : Option R := f53 k (kt53 K)
noncomputable abbrev E53 := ending T Try.f53 an53 0 K
noncomputable def S53 := pickS (R := R) []
theorem S53_eq : ∀ k, S53 (R := R) k = callC T F k := pickS_eq trivial
theorem tu53 : tOk (R := R) 53 aa53 ab53 g53 := by
 intro k x y K
 unfold g53
 rw [f53_def]
 cases k with
 | zero => rfl
 | succ k => exact eS Try.f53 an53 0 2 L0 [] (by kernel_rfl) (S53_eq k) (by kernel_rfl) trivial (by kernel_rfl)
noncomputable def s53 := onS (R := R) aa53 ab53 g53 (fun k => callC T F k 53)
theorem s53_eq : sOk (R := R) s53 53 := onS_eq (fun _ _ _ _ => rfl) tu53
noncomputable abbrev kt51 : zL5 → Option R := (fun z0 => K [.val [(0, 0)] zT1 z0] [])
abbrev aa51 : List Sh := [.val [(0, 0)] zT1, .val [] .bool]
abbrev ab51 : List RSh := []
noncomputable def g51 (k : Nat) (v : Sh.D.DL aa51 × RSh.DL ab51) (K : KT R) : Option R := f51 k v.1.1 v.1.2.1 (kt51 K)
noncomputable abbrev E51 := ending T Try.f51 an51 0 K
noncomputable def S51 := pickS (R := R) [(53, s53), (58, s58)]
theorem S51_eq : ∀ k, S51 (R := R) k = callC T F k := pickS_eq ⟨s53_eq, s58_eq, trivial⟩
theorem tu51 : tOk (R := R) 51 aa51 ab51 g51 := by
 intro k x y K
 unfold g51
 rw [f51_def]
 cases k with
 | zero => rfl
 | succ k => exact eS Try.f51 an51 0 12 L0 [] (by kernel_rfl) (S51_eq k) (by kernel_rfl) trivial (by kernel_rfl)
noncomputable def s51 := onS (R := R) aa51 ab51 g51 (fun k => callC T F k 51)
theorem s51_eq : sOk (R := R) s51 51 := onS_eq (fun _ _ _ _ => rfl) tu51
noncomputable abbrev kt42 : zL5 → Int → Option R := (fun z0 z1 => K [.val [(0, 0)] zT1 z0, zi z1] [])
abbrev aa42 : List Sh := [.agg [zv, zv, .val [] .str, .val [(0, 0)] zT2, .val [(0, 0)] zT1, zv, zv, zv, zv]]
abbrev ab42 : List RSh := []
noncomputable def g42 (k : Nat) (v : Sh.D.DL aa42 × RSh.DL ab42) (K : KT R) : Option R := let u0 := v.1.1.2.2.2.2.2.2.2; f42 k v.1.1.1 v.1.1.2.1 v.1.1.2.2.1 v.1.1.2.2.2.1 v.1.1.2.2.2.2.1 v.1.1.2.2.2.2.2.1 v.1.1.2.2.2.2.2.2.1 v.1.1.2.2.2.2.2.2.2.1 u0.2.1 (kt42 K)
noncomputable abbrev E42 := ending T Try.f42 an42 0 K
noncomputable def S42 := pickS (R := R) [(40, s40), (51, s51)]
theorem S42_eq : ∀ k, S42 (R := R) k = callC T F k := pickS_eq ⟨s40_eq, s51_eq, trivial⟩
theorem tu42 : tOk (R := R) 42 aa42 ab42 g42 := by
 intro k x y K
 unfold g42
 rw [f42_def]
 cases k with
 | zero => rfl
 | succ k => exact eS Try.f42 an42 0 15 L0 [] (by kernel_rfl) (S42_eq k) (by kernel_rfl) trivial (by kernel_rfl)
noncomputable def s42 := onS (R := R) aa42 ab42 g42 (fun k => callC T F k 42)
theorem s42_eq : sOk (R := R) s42 42 := onS_eq (fun _ _ _ _ => rfl) tu42
noncomputable abbrev kt29 : zK2 R := (fun z0 z1 z2 z3 z4 z5 z6 z7 z8 z9 z10 => K [.agg [zi z0, zi z1, .val [] .str z2, .val [(0, 0)] zT2 z3, .val [(0, 0)] zT1 z4, zi z5, zi z6, zi z7, zi z8], .rw 1, zi z9] [zr3 z10])
abbrev aa29 : List Sh := [.agg [zv, zv, zv, zv, zv], .agg [zv, zv, .val [] .str, .val [(0, 0)] zT2, .val [(0, 0)] zT1, zv, zv, zv, zv], .agg [zv, zv, .val [] .str, zv, zv, zv, .val [(0, 0)] zT2, .val [(0, 0)] zT1, .val [] .bool]]
abbrev ab29 : List RSh := []
noncomputable def g29 (k : Nat) (v : Sh.D.DL aa29 × RSh.DL ab29) (K : KT R) : Option R := let u0 := v.1.2.1.2.2.2.2.2.2.2; let u1 := v.1.2.2.1.2.2.2.2.2.2.2; f29 k v.1.1.1 v.1.1.2.1 v.1.1.2.2.1 v.1.1.2.2.2.1 v.1.1.2.2.2.2.1 v.1.2.1.1 v.1.2.1.2.1 v.1.2.1.2.2.1 v.1.2.1.2.2.2.1 v.1.2.1.2.2.2.2.1 v.1.2.1.2.2.2.2.2.1 v.1.2.1.2.2.2.2.2.2.1 v.1.2.1.2.2.2.2.2.2.2.1 u0.2.1 v.1.2.2.1.1 v.1.2.2.1.2.1 v.1.2.2.1.2.2.1 v.1.2.2.1.2.2.2.1 v.1.2.2.1.2.2.2.2.1 v.1.2.2.1.2.2.2.2.2.1 v.1.2.2.1.2.2.2.2.2.2.1 v.1.2.2.1.2.2.2.2.2.2.2.1 u1.2.1 (kt29 K)
noncomputable abbrev E29 := ending T Try.f29 an29 0 K
noncomputable def S29 := pickS (R := R) [(38, s38), (39, s39), (40, s40), (41, s41), (42, s42)]
theorem S29_eq : ∀ k, S29 (R := R) k = callC T F k := pickS_eq ⟨s38_eq, s39_eq, s40_eq, s41_eq, s42_eq, trivial⟩
noncomputable abbrev I29_1000018 : Option R := inner T an29 (modesOf F) 0 k 169 (S29 k) (E29 K) cd29_1000018 (sh sp29_1000018 ws rs) N X
abbrev aa29_1000018 : List Sh := [.ptr 1 0, .ptr 2 0, .ptr 5 0, .ptr 6 0, .val [] .bool]
abbrev ab29_1000018 : List RSh := [zs2, .vars [zv, zv, .val [] .str, .rw 3, .rw 4, zv, zv, zv, zv], .arr [] (.int .u8), .arr [] zP1, zs3, zs4]
noncomputable def L29_1000018 : Option R :=
 onShape aa29_1000018 ab29_1000018 (fun v => let u0 := v.2.2.1.2.2.2.2.2.2.2; let u1 := v.2.2.2.2.2.1.2.2.2.2.2.2.2; let u2 := v.2.2.2.2.2.2.1.2.2.2.2.2.2.2; f29_1000018 k (fun p11 => N (sh fi29_18 [.ptr 1 0, .ptr 2 0, .ptr 5 0, .ptr 6 0] [⟨0, .vars [zi v.2.1.1, zi v.2.1.2.1, zi v.2.1.2.2.1, zi v.2.1.2.2.2.1, zi v.2.1.2.2.2.2.1]⟩, ⟨0, .vars [zi v.2.2.1.1, zi v.2.2.1.2.1, .val [] .str v.2.2.1.2.2.1, .rw 3, .rw 4, zi v.2.2.1.2.2.2.2.2.1, zi v.2.2.1.2.2.2.2.2.2.1, zi v.2.2.1.2.2.2.2.2.2.2.1, zi p11]⟩, zr0 v.2.2.2.1, zr4 v.2.2.2.2.1, zr5 v.2.2.2.2.2.1.1 v.2.2.2.2.2.1.2.1 v.2.2.2.2.2.1.2.2.1 v.2.2.2.2.2.1.2.2.2.1 v.2.2.2.2.2.1.2.2.2.2.1 v.2.2.2.2.2.1.2.2.2.2.2.1 v.2.2.2.2.2.1.2.2.2.2.2.2.1 v.2.2.2.2.2.1.2.2.2.2.2.2.2.1 u1.2.1, zr6 v.2.2.2.2.2.2.1.1 v.2.2.2.2.2.2.1.2.1 v.2.2.2.2.2.2.1.2.2.1 v.2.2.2.2.2.2.1.2.2.2.2.2.1 v.2.2.2.2.2.2.1.2.2.2.2.2.2.1 v.2.2.2.2.2.2.1.2.2.2.2.2.2.2.1 u2.2.1])) v.1.2.2.2.2.1 u0.2.1) (I29_1000018 k K ws rs N X) ws rs
noncomputable abbrev I29_1000023 : Option R := inner T an29 (modesOf F) 0 k 169 (S29 k) (E29 K) cd29_1000023 (sh sp29_1000023 ws rs) N X
abbrev aa29_1000023 : List Sh := [.ptr 1 0, .ptr 2 0, .ptr 3 0, .ptr 4 0, .val [] .bool]
abbrev ab29_1000023 : List RSh := [zs2, zs5, zs3, zs4]
noncomputable def L29_1000023 : Option R :=
 onShape aa29_1000023 ab29_1000023 (fun v => let u0 := v.2.2.1.2.2.2.2.2.2.2; let u1 := v.2.2.2.1.2.2.2.2.2.2.2; let u2 := v.2.2.2.2.1.2.2.2.2.2.2.2; f29_1000023 k (fun p7 => N (sh fi29_23 [.ptr 1 0, .ptr 2 0, .ptr 3 0, .ptr 4 0] [⟨0, .vars [zi v.2.1.1, zi v.2.1.2.1, zi v.2.1.2.2.1, zi v.2.1.2.2.2.1, zi v.2.1.2.2.2.2.1]⟩, zr7 v.2.2.1.1 v.2.2.1.2.1 p7 v.2.2.1.2.2.2.1 v.2.2.1.2.2.2.2.1 v.2.2.1.2.2.2.2.2.1 v.2.2.1.2.2.2.2.2.2.1 v.2.2.1.2.2.2.2.2.2.2.1 u0.2.1, zr5 v.2.2.2.1.1 v.2.2.2.1.2.1 v.2.2.2.1.2.2.1 v.2.2.2.1.2.2.2.1 v.2.2.2.1.2.2.2.2.1 v.2.2.2.1.2.2.2.2.2.1 v.2.2.2.1.2.2.2.2.2.2.1 v.2.2.2.1.2.2.2.2.2.2.2.1 u1.2.1, zr6 v.2.2.2.2.1.1 v.2.2.2.2.1.2.1 v.2.2.2.2.1.2.2.1 v.2.2.2.2.1.2.2.2.2.2.1 v.2.2.2.2.1.2.2.2.2.2.2.1 v.2.2.2.2.1.2.2.2.2.2.2.2.1 u2.2.1])) v.1.2.2.2.2.1 v.2.2.1.2.2.1 v.2.2.2.1.2.2.1) (I29_1000023 k K ws rs N X) ws rs
noncomputable abbrev I29_1000015 : Option R := inner T an29 (modesOf F) 0 k 169 (S29 k) (E29 K) cd29_1000015 (sh sp29_1000015 ws rs) N X
abbrev aa29_1000015 : List Sh := [.ptr 1 0, .ptr 2 0, .ptr 3 0, .ptr 4 0, .val [] .bool]
abbrev ab29_1000015 : List RSh := [zs2, zs5, zs3, zs4]
noncomputable def L29_1000015 : Option R :=
 onShape aa29_1000015 ab29_1000015 (fun v => let u0 := v.2.2.1.2.2.2.2.2.2.2; let u1 := v.2.2.2.1.2.2.2.2.2.2.2; let u2 := v.2.2.2.2.1.2.2.2.2.2.2.2; f29_1000015 k (kt29 K) (fun p7 p8 p9 p10 p11 p13 => N (sh fi29_15 [.ptr 1 0, .ptr 2 0, .ptr 3 0, .ptr 4 0] [⟨0, .vars [zi v.2.1.1, zi v.2.1.2.1, zi v.2.1.2.2.1, zi v.2.1.2.2.2.1, zi v.2.1.2.2.2.2.1]⟩, zr7 v.2.2.1.1 v.2.2.1.2.1 p7 p8 p9 p10 p11 v.2.2.1.2.2.2.2.2.2.2.1 p13, zr5 v.2.2.2.1.1 v.2.2.2.1.2.1 v.2.2.2.1.2.2.1 v.2.2.2.1.2.2.2.1 v.2.2.2.1.2.2.2.2.1 v.2.2.2.1.2.2.2.2.2.1 v.2.2.2.1.2.2.2.2.2.2.1 v.2.2.2.1.2.2.2.2.2.2.2.1 u1.2.1, zr6 v.2.2.2.2.1.1 v.2.2.2.2.1.2.1 v.2.2.2.2.1.2.2.1 v.2.2.2.2.1.2.2.2.2.2.1 v.2.2.2.2.1.2.2.2.2.2.2.1 v.2.2.2.2.1.2.2.2.2.2.2.2.1 u2.2.1])) v.1.2.2.2.2.1 v.2.2.1.2.2.1 v.2.2.1.2.2.2.1 v.2.2.1.2.2.2.2.1 v.2.2.1.2.2.2.2.2.1 v.2.2.1.2.2.2.2.2.2.1 u0.2.1 v.2.2.2.1.1 v.2.2.2.1.2.2.1 v.2.2.2.1.2.2.2.1 v.2.2.2.1.2.2.2.2.1 v.2.2.2.1.2.2.2.2.2.1 v.2.2.2.1.2.2.2.2.2.2.1) (I29_1000015 k K ws rs N X) ws rs
noncomputable abbrev I29_1000025 : Option R := inner T an29 (modesOf F) 0 k 169 (S29 k) (E29 K) cd29_1000025 (sh sp29_1000025 ws rs) N X
abbrev aa29_1000025 : List Sh := [.ptr 1 0, .ptr 2 0, .ptr 3 0, .ptr 4 0, .val [] .bool]
abbrev ab29_1000025 : List RSh := [zs2, zs5, zs3, zs4]
noncomputable def L29_1000025 : Option R :=
 onShape aa29_1000025 ab29_1000025 (fun v => let u0 := v.2.2.1.2.2.2.2.2.2.2; let u1 := v.2.2.2.1.2.2.2.2.2.2.2; let u2 := v.2.2.2.2.1.2.2.2.2.2.2.2; f29_1000025 k (fun p5 => N (sh fi29_25 [.ptr 1 0, .ptr 2 0, .ptr 3 0, .ptr 4 0] [⟨0, .vars [zi v.2.1.1, zi v.2.1.2.1, zi v.2.1.2.2.1, zi v.2.1.2.2.2.1, zi v.2.1.2.2.2.2.1]⟩, zr7 p5 v.2.2.1.2.1 v.2.2.1.2.2.1 v.2.2.1.2.2.2.1 v.2.2.1.2.2.2.2.1 v.2.2.1.2.2.2.2.2.1 v.2.2.1.2.2.2.2.2.2.1 v.2.2.1.2.2.2.2.2.2.2.1 u0.2.1, zr5 v.2.2.2.1.1 v.2.2.2.1.2.1 v.2.2.2.1.2.2.1 v.2.2.2.1.2.2.2.1 v.2.2.2.1.2.2.2.2.1 v.2.2.2.1.2.2.2.2.2.1 v.2.2.2.1.2.2.2.2.2.2.1 v.2.2.2.1.2.2.2.2.2.2.2.1 u1.2.1, zr6 v.2.2.2.2.1.1 v.2.2.2.2.1.2.1 v.2.2.2.2.1.2.2.1 v.2.2.2.2.1.2.2.2.2.2.1 v.2.2.2.2.1.2.2.2.2.2.2.1 v.2.2.2.2.1.2.2.2.2.2.2.2.1 u2.2.1])) v.1.2.2.2.2.1 v.2.2.1.1) (I29_1000025 k K ws rs N X) ws rs
noncomputable abbrev I29_1000030 : Option R := inner T an29 (modesOf F) 0 k 169 (S29 k) (E29 K) cd29_1000030 (sh sp29_1000030 ws rs) N X
abbrev aa29_1000030 : List Sh := [.ptr 1 0, .ptr 2 0, .val [] .bool, .val [] .bool]
abbrev ab29_1000030 : List RSh := [zs5, zs4]
noncomputable def L29_1000030 : Option R :=
 onShape aa29_1000030 ab29_1000030 (fun v => let u0 := v.2.1.2.2.2.2.2.2.2; let u1 := v.2.2.1.2.2.2.2.2.2.2; f29_1000030 k (fun p1 => N (sh fi29_30 [.ptr 1 0, .ptr 2 0, .val [] .bool v.1.2.2.1] [zr7 p1 v.2.1.2.1 v.2.1.2.2.1 v.2.1.2.2.2.1 v.2.1.2.2.2.2.1 v.2.1.2.2.2.2.2.1 v.2.1.2.2.2.2.2.2.1 v.2.1.2.2.2.2.2.2.2.1 u0.2.1, zr6 v.2.2.1.1 v.2.2.1.2.1 v.2.2.1.2.2.1 v.2.2.1.2.2.2.2.2.1 v.2.2.1.2.2.2.2.2.2.1 v.2.2.1.2.2.2.2.2.2.2.1 u1.2.1])) v.1.2.2.2.1 v.2.1.1) (I29_1000030 k K ws rs N X) ws rs
noncomputable def L29 : Option R := bif id == 1000018 then L29_1000018 k K ws rs N X else bif id == 1000023 then L29_1000023 k K ws rs N X else bif id == 1000015 then L29_1000015 k K ws rs N X else bif id == 1000025 then L29_1000025 k K ws rs N X else bif id == 1000030 then L29_1000030 k K ws rs N X else none
theorem l29_1000018 : L29 k K 1000018 ws rs N X = I29_1000018 k K ws rs N X := by
 show L29_1000018 k K ws rs N X = _
 unfold L29_1000018
 rw [f29_1000018_def]
 exact lC (L29 k K) [] (by kernel_rfl) trivial fun x y => by kernel_rfl
theorem l29_1000023 : L29 k K 1000023 ws rs N X = I29_1000023 k K ws rs N X := by
 show L29_1000023 k K ws rs N X = _
 unfold L29_1000023
 rw [f29_1000023_def]
 exact lC (L29 k K) [] (by kernel_rfl) trivial fun x y => by kernel_rfl
theorem l29_1000015 : L29 k K 1000015 ws rs N X = I29_1000015 k K ws rs N X := by
 show L29_1000015 k K ws rs N X = _
 unfold L29_1000015
 rw [f29_1000015_def]
 exact lC (L29 k K) [(1000018, sp29_1000018, cd29_1000018), (1000023, sp29_1000023, cd29_1000023)] (by kernel_rfl) ⟨l29_1000018 k K, l29_1000023 k K, trivial⟩ fun x y => by kernel_rfl
theorem l29_1000025 : L29 k K 1000025 ws rs N X = I29_1000025 k K ws rs N X := by
 show L29_1000025 k K ws rs N X = _
 unfold L29_1000025
 rw [f29_1000025_def]
 exact lC (L29 k K) [] (by kernel_rfl) trivial fun x y => by kernel_rfl
theorem l29_1000030 : L29 k K 1000030 ws rs N X = I29_1000030 k K ws rs N X := by
 show L29_1000030 k K ws rs N X = _
 unfold L29_1000030
 rw [f29_1000030_def]
 exact lC (L29 k K) [] (by kernel_rfl) trivial fun x y => by kernel_rfl
theorem tu29 : tOk (R := R) 29 aa29 ab29 g29 := by
 intro k x y K
 unfold g29
 rw [f29_def]
 cases k with
 | zero => rfl
 | succ k => exact eS Try.f29 an29 0 169 (L29 k K) [(1000015, sp29_1000015, cd29_1000015), (1000025, sp29_1000025, cd29_1000025), (1000030, sp29_1000030, cd29_1000030)] (by kernel_rfl) (S29_eq k) (by kernel_rfl) ⟨l29_1000015 k K, l29_1000025 k K, l29_1000030 k K, trivial⟩ (by kernel_rfl)
noncomputable def s29 := onS (R := R) aa29 ab29 g29 (fun k => callC T F k 29)
theorem s29_eq : sOk (R := R) s29 29 := onS_eq (fun _ _ _ _ => rfl) tu29
end Go.Proofs.Ytoepnomdklhhlaa.PM
