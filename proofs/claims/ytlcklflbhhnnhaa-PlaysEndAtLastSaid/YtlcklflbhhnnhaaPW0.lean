/- The small machine's run is the typed form (printed by a program of this work). -/
import Derived.Test.YtlcklflbhhnnhaaPA0
set_option linter.unusedVariables false
set_option linter.unusedSimpArgs false
set_option maxRecDepth 100000
namespace Go.Proofs.Ytlcklflbhhnnhaa.PM
open Go
abbrev KT (R : Type) := List PV → List RowS → Option R
noncomputable def F : Nat → Option PFn := findN [(64, .code Try.f64 an64), (18, .code Try.f18 an18), (24, .code Try.f24 an24), (66, .code Try.f66 an66), (22, .code Try.f22 an22), (68, .code Try.f68 an68), (76, .code Try.f76 an76), (77, .ext [.lend (.int .u8)] (cloneSpec (.int .u8) 1)), (25, .code Try.f25 an25), (53, .code Try.f53 an53), (123, .code Try.f123 an123), (119, .code Try.f119 an119), (135, .ext [.lend (.int .u8), .any] repSpec), (87, .code Try.f87 an87), (132, .code Try.f132 an132), (114, .code Try.f114 an114), (115, .ext [.any, .any] (sortSpec 116)), (86, .code Try.f86 an86), (120, .code Try.f120 an120), (95, .code Try.f95 an95), (104, .code Try.f104 an104), (131, .code Try.f131 an131), (112, .code Try.f112 an112), (92, .code Try.f92 an92), (124, .code Try.f124 an124), (71, .code Try.f71 an71), (117, .code Try.f117 an117), (90, .code Try.f90 an90), (107, .code Try.f107 an107), (109, .ext [.lend zP1] (cloneSpec zP1 16)), (128, .code Try.f128 an128), (108, .code Try.f108 an108), (79, .code Try.f79 an79), (82, .code Try.f82 an82), (100, .code Try.f100 an100), (59, .code Try.f59 an59), (14, .code Try.f14 an14)]
theorem fx1 {α β : Type} {f g : α → β} (h : ∀ a, f a = g a) : f = g := funext h
theorem fx2 {α0 α1 β : Type} {f g : α0 → α1 → β} (h : ∀ a0 a1, f a0 a1 = g a0 a1) : f = g := funext fun a0 => fx1 fun a1 => h a0 a1
theorem fx3 {α0 α1 α2 β : Type} {f g : α0 → α1 → α2 → β} (h : ∀ a0 a1 a2, f a0 a1 a2 = g a0 a1 a2) : f = g := funext fun a0 => fx2 fun a1 a2 => h a0 a1 a2
theorem fx4 {α0 α1 α2 α3 β : Type} {f g : α0 → α1 → α2 → α3 → β} (h : ∀ a0 a1 a2 a3, f a0 a1 a2 a3 = g a0 a1 a2 a3) : f = g := funext fun a0 => fx3 fun a1 a2 a3 => h a0 a1 a2 a3
theorem fx5 {α0 α1 α2 α3 α4 β : Type} {f g : α0 → α1 → α2 → α3 → α4 → β} (h : ∀ a0 a1 a2 a3 a4, f a0 a1 a2 a3 a4 = g a0 a1 a2 a3 a4) : f = g := funext fun a0 => fx4 fun a1 a2 a3 a4 => h a0 a1 a2 a3 a4
theorem fx6 {α0 α1 α2 α3 α4 α5 β : Type} {f g : α0 → α1 → α2 → α3 → α4 → α5 → β} (h : ∀ a0 a1 a2 a3 a4 a5, f a0 a1 a2 a3 a4 a5 = g a0 a1 a2 a3 a4 a5) : f = g := funext fun a0 => fx5 fun a1 a2 a3 a4 a5 => h a0 a1 a2 a3 a4 a5
theorem fx7 {α0 α1 α2 α3 α4 α5 α6 β : Type} {f g : α0 → α1 → α2 → α3 → α4 → α5 → α6 → β} (h : ∀ a0 a1 a2 a3 a4 a5 a6, f a0 a1 a2 a3 a4 a5 a6 = g a0 a1 a2 a3 a4 a5 a6) : f = g := funext fun a0 => fx6 fun a1 a2 a3 a4 a5 a6 => h a0 a1 a2 a3 a4 a5 a6
theorem fx8 {α0 α1 α2 α3 α4 α5 α6 α7 β : Type} {f g : α0 → α1 → α2 → α3 → α4 → α5 → α6 → α7 → β} (h : ∀ a0 a1 a2 a3 a4 a5 a6 a7, f a0 a1 a2 a3 a4 a5 a6 a7 = g a0 a1 a2 a3 a4 a5 a6 a7) : f = g := funext fun a0 => fx7 fun a1 a2 a3 a4 a5 a6 a7 => h a0 a1 a2 a3 a4 a5 a6 a7
theorem fx9 {α0 α1 α2 α3 α4 α5 α6 α7 α8 β : Type} {f g : α0 → α1 → α2 → α3 → α4 → α5 → α6 → α7 → α8 → β} (h : ∀ a0 a1 a2 a3 a4 a5 a6 a7 a8, f a0 a1 a2 a3 a4 a5 a6 a7 a8 = g a0 a1 a2 a3 a4 a5 a6 a7 a8) : f = g := funext fun a0 => fx8 fun a1 a2 a3 a4 a5 a6 a7 a8 => h a0 a1 a2 a3 a4 a5 a6 a7 a8
theorem fx10 {α0 α1 α2 α3 α4 α5 α6 α7 α8 α9 β : Type} {f g : α0 → α1 → α2 → α3 → α4 → α5 → α6 → α7 → α8 → α9 → β} (h : ∀ a0 a1 a2 a3 a4 a5 a6 a7 a8 a9, f a0 a1 a2 a3 a4 a5 a6 a7 a8 a9 = g a0 a1 a2 a3 a4 a5 a6 a7 a8 a9) : f = g := funext fun a0 => fx9 fun a1 a2 a3 a4 a5 a6 a7 a8 a9 => h a0 a1 a2 a3 a4 a5 a6 a7 a8 a9
theorem fx11 {α0 α1 α2 α3 α4 α5 α6 α7 α8 α9 α10 β : Type} {f g : α0 → α1 → α2 → α3 → α4 → α5 → α6 → α7 → α8 → α9 → α10 → β} (h : ∀ a0 a1 a2 a3 a4 a5 a6 a7 a8 a9 a10, f a0 a1 a2 a3 a4 a5 a6 a7 a8 a9 a10 = g a0 a1 a2 a3 a4 a5 a6 a7 a8 a9 a10) : f = g := funext fun a0 => fx10 fun a1 a2 a3 a4 a5 a6 a7 a8 a9 a10 => h a0 a1 a2 a3 a4 a5 a6 a7 a8 a9 a10
theorem fx12 {α0 α1 α2 α3 α4 α5 α6 α7 α8 α9 α10 α11 β : Type} {f g : α0 → α1 → α2 → α3 → α4 → α5 → α6 → α7 → α8 → α9 → α10 → α11 → β} (h : ∀ a0 a1 a2 a3 a4 a5 a6 a7 a8 a9 a10 a11, f a0 a1 a2 a3 a4 a5 a6 a7 a8 a9 a10 a11 = g a0 a1 a2 a3 a4 a5 a6 a7 a8 a9 a10 a11) : f = g := funext fun a0 => fx11 fun a1 a2 a3 a4 a5 a6 a7 a8 a9 a10 a11 => h a0 a1 a2 a3 a4 a5 a6 a7 a8 a9 a10 a11
theorem fx13 {α0 α1 α2 α3 α4 α5 α6 α7 α8 α9 α10 α11 α12 β : Type} {f g : α0 → α1 → α2 → α3 → α4 → α5 → α6 → α7 → α8 → α9 → α10 → α11 → α12 → β} (h : ∀ a0 a1 a2 a3 a4 a5 a6 a7 a8 a9 a10 a11 a12, f a0 a1 a2 a3 a4 a5 a6 a7 a8 a9 a10 a11 a12 = g a0 a1 a2 a3 a4 a5 a6 a7 a8 a9 a10 a11 a12) : f = g := funext fun a0 => fx12 fun a1 a2 a3 a4 a5 a6 a7 a8 a9 a10 a11 a12 => h a0 a1 a2 a3 a4 a5 a6 a7 a8 a9 a10 a11 a12
theorem fx14 {α0 α1 α2 α3 α4 α5 α6 α7 α8 α9 α10 α11 α12 α13 β : Type} {f g : α0 → α1 → α2 → α3 → α4 → α5 → α6 → α7 → α8 → α9 → α10 → α11 → α12 → α13 → β} (h : ∀ a0 a1 a2 a3 a4 a5 a6 a7 a8 a9 a10 a11 a12 a13, f a0 a1 a2 a3 a4 a5 a6 a7 a8 a9 a10 a11 a12 a13 = g a0 a1 a2 a3 a4 a5 a6 a7 a8 a9 a10 a11 a12 a13) : f = g := funext fun a0 => fx13 fun a1 a2 a3 a4 a5 a6 a7 a8 a9 a10 a11 a12 a13 => h a0 a1 a2 a3 a4 a5 a6 a7 a8 a9 a10 a11 a12 a13
theorem fx15 {α0 α1 α2 α3 α4 α5 α6 α7 α8 α9 α10 α11 α12 α13 α14 β : Type} {f g : α0 → α1 → α2 → α3 → α4 → α5 → α6 → α7 → α8 → α9 → α10 → α11 → α12 → α13 → α14 → β} (h : ∀ a0 a1 a2 a3 a4 a5 a6 a7 a8 a9 a10 a11 a12 a13 a14, f a0 a1 a2 a3 a4 a5 a6 a7 a8 a9 a10 a11 a12 a13 a14 = g a0 a1 a2 a3 a4 a5 a6 a7 a8 a9 a10 a11 a12 a13 a14) : f = g := funext fun a0 => fx14 fun a1 a2 a3 a4 a5 a6 a7 a8 a9 a10 a11 a12 a13 a14 => h a0 a1 a2 a3 a4 a5 a6 a7 a8 a9 a10 a11 a12 a13 a14
theorem fx16 {α0 α1 α2 α3 α4 α5 α6 α7 α8 α9 α10 α11 α12 α13 α14 α15 β : Type} {f g : α0 → α1 → α2 → α3 → α4 → α5 → α6 → α7 → α8 → α9 → α10 → α11 → α12 → α13 → α14 → α15 → β} (h : ∀ a0 a1 a2 a3 a4 a5 a6 a7 a8 a9 a10 a11 a12 a13 a14 a15, f a0 a1 a2 a3 a4 a5 a6 a7 a8 a9 a10 a11 a12 a13 a14 a15 = g a0 a1 a2 a3 a4 a5 a6 a7 a8 a9 a10 a11 a12 a13 a14 a15) : f = g := funext fun a0 => fx15 fun a1 a2 a3 a4 a5 a6 a7 a8 a9 a10 a11 a12 a13 a14 a15 => h a0 a1 a2 a3 a4 a5 a6 a7 a8 a9 a10 a11 a12 a13 a14 a15
theorem fx17 {α0 α1 α2 α3 α4 α5 α6 α7 α8 α9 α10 α11 α12 α13 α14 α15 α16 β : Type} {f g : α0 → α1 → α2 → α3 → α4 → α5 → α6 → α7 → α8 → α9 → α10 → α11 → α12 → α13 → α14 → α15 → α16 → β} (h : ∀ a0 a1 a2 a3 a4 a5 a6 a7 a8 a9 a10 a11 a12 a13 a14 a15 a16, f a0 a1 a2 a3 a4 a5 a6 a7 a8 a9 a10 a11 a12 a13 a14 a15 a16 = g a0 a1 a2 a3 a4 a5 a6 a7 a8 a9 a10 a11 a12 a13 a14 a15 a16) : f = g := funext fun a0 => fx16 fun a1 a2 a3 a4 a5 a6 a7 a8 a9 a10 a11 a12 a13 a14 a15 a16 => h a0 a1 a2 a3 a4 a5 a6 a7 a8 a9 a10 a11 a12 a13 a14 a15 a16
theorem fx18 {α0 α1 α2 α3 α4 α5 α6 α7 α8 α9 α10 α11 α12 α13 α14 α15 α16 α17 β : Type} {f g : α0 → α1 → α2 → α3 → α4 → α5 → α6 → α7 → α8 → α9 → α10 → α11 → α12 → α13 → α14 → α15 → α16 → α17 → β} (h : ∀ a0 a1 a2 a3 a4 a5 a6 a7 a8 a9 a10 a11 a12 a13 a14 a15 a16 a17, f a0 a1 a2 a3 a4 a5 a6 a7 a8 a9 a10 a11 a12 a13 a14 a15 a16 a17 = g a0 a1 a2 a3 a4 a5 a6 a7 a8 a9 a10 a11 a12 a13 a14 a15 a16 a17) : f = g := funext fun a0 => fx17 fun a1 a2 a3 a4 a5 a6 a7 a8 a9 a10 a11 a12 a13 a14 a15 a16 a17 => h a0 a1 a2 a3 a4 a5 a6 a7 a8 a9 a10 a11 a12 a13 a14 a15 a16 a17
theorem fx19 {α0 α1 α2 α3 α4 α5 α6 α7 α8 α9 α10 α11 α12 α13 α14 α15 α16 α17 α18 β : Type} {f g : α0 → α1 → α2 → α3 → α4 → α5 → α6 → α7 → α8 → α9 → α10 → α11 → α12 → α13 → α14 → α15 → α16 → α17 → α18 → β} (h : ∀ a0 a1 a2 a3 a4 a5 a6 a7 a8 a9 a10 a11 a12 a13 a14 a15 a16 a17 a18, f a0 a1 a2 a3 a4 a5 a6 a7 a8 a9 a10 a11 a12 a13 a14 a15 a16 a17 a18 = g a0 a1 a2 a3 a4 a5 a6 a7 a8 a9 a10 a11 a12 a13 a14 a15 a16 a17 a18) : f = g := funext fun a0 => fx18 fun a1 a2 a3 a4 a5 a6 a7 a8 a9 a10 a11 a12 a13 a14 a15 a16 a17 a18 => h a0 a1 a2 a3 a4 a5 a6 a7 a8 a9 a10 a11 a12 a13 a14 a15 a16 a17 a18
theorem fx20 {α0 α1 α2 α3 α4 α5 α6 α7 α8 α9 α10 α11 α12 α13 α14 α15 α16 α17 α18 α19 β : Type} {f g : α0 → α1 → α2 → α3 → α4 → α5 → α6 → α7 → α8 → α9 → α10 → α11 → α12 → α13 → α14 → α15 → α16 → α17 → α18 → α19 → β} (h : ∀ a0 a1 a2 a3 a4 a5 a6 a7 a8 a9 a10 a11 a12 a13 a14 a15 a16 a17 a18 a19, f a0 a1 a2 a3 a4 a5 a6 a7 a8 a9 a10 a11 a12 a13 a14 a15 a16 a17 a18 a19 = g a0 a1 a2 a3 a4 a5 a6 a7 a8 a9 a10 a11 a12 a13 a14 a15 a16 a17 a18 a19) : f = g := funext fun a0 => fx19 fun a1 a2 a3 a4 a5 a6 a7 a8 a9 a10 a11 a12 a13 a14 a15 a16 a17 a18 a19 => h a0 a1 a2 a3 a4 a5 a6 a7 a8 a9 a10 a11 a12 a13 a14 a15 a16 a17 a18 a19
theorem fx21 {α0 α1 α2 α3 α4 α5 α6 α7 α8 α9 α10 α11 α12 α13 α14 α15 α16 α17 α18 α19 α20 β : Type} {f g : α0 → α1 → α2 → α3 → α4 → α5 → α6 → α7 → α8 → α9 → α10 → α11 → α12 → α13 → α14 → α15 → α16 → α17 → α18 → α19 → α20 → β} (h : ∀ a0 a1 a2 a3 a4 a5 a6 a7 a8 a9 a10 a11 a12 a13 a14 a15 a16 a17 a18 a19 a20, f a0 a1 a2 a3 a4 a5 a6 a7 a8 a9 a10 a11 a12 a13 a14 a15 a16 a17 a18 a19 a20 = g a0 a1 a2 a3 a4 a5 a6 a7 a8 a9 a10 a11 a12 a13 a14 a15 a16 a17 a18 a19 a20) : f = g := funext fun a0 => fx20 fun a1 a2 a3 a4 a5 a6 a7 a8 a9 a10 a11 a12 a13 a14 a15 a16 a17 a18 a19 a20 => h a0 a1 a2 a3 a4 a5 a6 a7 a8 a9 a10 a11 a12 a13 a14 a15 a16 a17 a18 a19 a20
theorem fx22 {α0 α1 α2 α3 α4 α5 α6 α7 α8 α9 α10 α11 α12 α13 α14 α15 α16 α17 α18 α19 α20 α21 β : Type} {f g : α0 → α1 → α2 → α3 → α4 → α5 → α6 → α7 → α8 → α9 → α10 → α11 → α12 → α13 → α14 → α15 → α16 → α17 → α18 → α19 → α20 → α21 → β} (h : ∀ a0 a1 a2 a3 a4 a5 a6 a7 a8 a9 a10 a11 a12 a13 a14 a15 a16 a17 a18 a19 a20 a21, f a0 a1 a2 a3 a4 a5 a6 a7 a8 a9 a10 a11 a12 a13 a14 a15 a16 a17 a18 a19 a20 a21 = g a0 a1 a2 a3 a4 a5 a6 a7 a8 a9 a10 a11 a12 a13 a14 a15 a16 a17 a18 a19 a20 a21) : f = g := funext fun a0 => fx21 fun a1 a2 a3 a4 a5 a6 a7 a8 a9 a10 a11 a12 a13 a14 a15 a16 a17 a18 a19 a20 a21 => h a0 a1 a2 a3 a4 a5 a6 a7 a8 a9 a10 a11 a12 a13 a14 a15 a16 a17 a18 a19 a20 a21
theorem fx23 {α0 α1 α2 α3 α4 α5 α6 α7 α8 α9 α10 α11 α12 α13 α14 α15 α16 α17 α18 α19 α20 α21 α22 β : Type} {f g : α0 → α1 → α2 → α3 → α4 → α5 → α6 → α7 → α8 → α9 → α10 → α11 → α12 → α13 → α14 → α15 → α16 → α17 → α18 → α19 → α20 → α21 → α22 → β} (h : ∀ a0 a1 a2 a3 a4 a5 a6 a7 a8 a9 a10 a11 a12 a13 a14 a15 a16 a17 a18 a19 a20 a21 a22, f a0 a1 a2 a3 a4 a5 a6 a7 a8 a9 a10 a11 a12 a13 a14 a15 a16 a17 a18 a19 a20 a21 a22 = g a0 a1 a2 a3 a4 a5 a6 a7 a8 a9 a10 a11 a12 a13 a14 a15 a16 a17 a18 a19 a20 a21 a22) : f = g := funext fun a0 => fx22 fun a1 a2 a3 a4 a5 a6 a7 a8 a9 a10 a11 a12 a13 a14 a15 a16 a17 a18 a19 a20 a21 a22 => h a0 a1 a2 a3 a4 a5 a6 a7 a8 a9 a10 a11 a12 a13 a14 a15 a16 a17 a18 a19 a20 a21 a22
theorem fx24 {α0 α1 α2 α3 α4 α5 α6 α7 α8 α9 α10 α11 α12 α13 α14 α15 α16 α17 α18 α19 α20 α21 α22 α23 β : Type} {f g : α0 → α1 → α2 → α3 → α4 → α5 → α6 → α7 → α8 → α9 → α10 → α11 → α12 → α13 → α14 → α15 → α16 → α17 → α18 → α19 → α20 → α21 → α22 → α23 → β} (h : ∀ a0 a1 a2 a3 a4 a5 a6 a7 a8 a9 a10 a11 a12 a13 a14 a15 a16 a17 a18 a19 a20 a21 a22 a23, f a0 a1 a2 a3 a4 a5 a6 a7 a8 a9 a10 a11 a12 a13 a14 a15 a16 a17 a18 a19 a20 a21 a22 a23 = g a0 a1 a2 a3 a4 a5 a6 a7 a8 a9 a10 a11 a12 a13 a14 a15 a16 a17 a18 a19 a20 a21 a22 a23) : f = g := funext fun a0 => fx23 fun a1 a2 a3 a4 a5 a6 a7 a8 a9 a10 a11 a12 a13 a14 a15 a16 a17 a18 a19 a20 a21 a22 a23 => h a0 a1 a2 a3 a4 a5 a6 a7 a8 a9 a10 a11 a12 a13 a14 a15 a16 a17 a18 a19 a20 a21 a22 a23
theorem fx25 {α0 α1 α2 α3 α4 α5 α6 α7 α8 α9 α10 α11 α12 α13 α14 α15 α16 α17 α18 α19 α20 α21 α22 α23 α24 β : Type} {f g : α0 → α1 → α2 → α3 → α4 → α5 → α6 → α7 → α8 → α9 → α10 → α11 → α12 → α13 → α14 → α15 → α16 → α17 → α18 → α19 → α20 → α21 → α22 → α23 → α24 → β} (h : ∀ a0 a1 a2 a3 a4 a5 a6 a7 a8 a9 a10 a11 a12 a13 a14 a15 a16 a17 a18 a19 a20 a21 a22 a23 a24, f a0 a1 a2 a3 a4 a5 a6 a7 a8 a9 a10 a11 a12 a13 a14 a15 a16 a17 a18 a19 a20 a21 a22 a23 a24 = g a0 a1 a2 a3 a4 a5 a6 a7 a8 a9 a10 a11 a12 a13 a14 a15 a16 a17 a18 a19 a20 a21 a22 a23 a24) : f = g := funext fun a0 => fx24 fun a1 a2 a3 a4 a5 a6 a7 a8 a9 a10 a11 a12 a13 a14 a15 a16 a17 a18 a19 a20 a21 a22 a23 a24 => h a0 a1 a2 a3 a4 a5 a6 a7 a8 a9 a10 a11 a12 a13 a14 a15 a16 a17 a18 a19 a20 a21 a22 a23 a24
theorem fx26 {α0 α1 α2 α3 α4 α5 α6 α7 α8 α9 α10 α11 α12 α13 α14 α15 α16 α17 α18 α19 α20 α21 α22 α23 α24 α25 β : Type} {f g : α0 → α1 → α2 → α3 → α4 → α5 → α6 → α7 → α8 → α9 → α10 → α11 → α12 → α13 → α14 → α15 → α16 → α17 → α18 → α19 → α20 → α21 → α22 → α23 → α24 → α25 → β} (h : ∀ a0 a1 a2 a3 a4 a5 a6 a7 a8 a9 a10 a11 a12 a13 a14 a15 a16 a17 a18 a19 a20 a21 a22 a23 a24 a25, f a0 a1 a2 a3 a4 a5 a6 a7 a8 a9 a10 a11 a12 a13 a14 a15 a16 a17 a18 a19 a20 a21 a22 a23 a24 a25 = g a0 a1 a2 a3 a4 a5 a6 a7 a8 a9 a10 a11 a12 a13 a14 a15 a16 a17 a18 a19 a20 a21 a22 a23 a24 a25) : f = g := funext fun a0 => fx25 fun a1 a2 a3 a4 a5 a6 a7 a8 a9 a10 a11 a12 a13 a14 a15 a16 a17 a18 a19 a20 a21 a22 a23 a24 a25 => h a0 a1 a2 a3 a4 a5 a6 a7 a8 a9 a10 a11 a12 a13 a14 a15 a16 a17 a18 a19 a20 a21 a22 a23 a24 a25
theorem fx27 {α0 α1 α2 α3 α4 α5 α6 α7 α8 α9 α10 α11 α12 α13 α14 α15 α16 α17 α18 α19 α20 α21 α22 α23 α24 α25 α26 β : Type} {f g : α0 → α1 → α2 → α3 → α4 → α5 → α6 → α7 → α8 → α9 → α10 → α11 → α12 → α13 → α14 → α15 → α16 → α17 → α18 → α19 → α20 → α21 → α22 → α23 → α24 → α25 → α26 → β} (h : ∀ a0 a1 a2 a3 a4 a5 a6 a7 a8 a9 a10 a11 a12 a13 a14 a15 a16 a17 a18 a19 a20 a21 a22 a23 a24 a25 a26, f a0 a1 a2 a3 a4 a5 a6 a7 a8 a9 a10 a11 a12 a13 a14 a15 a16 a17 a18 a19 a20 a21 a22 a23 a24 a25 a26 = g a0 a1 a2 a3 a4 a5 a6 a7 a8 a9 a10 a11 a12 a13 a14 a15 a16 a17 a18 a19 a20 a21 a22 a23 a24 a25 a26) : f = g := funext fun a0 => fx26 fun a1 a2 a3 a4 a5 a6 a7 a8 a9 a10 a11 a12 a13 a14 a15 a16 a17 a18 a19 a20 a21 a22 a23 a24 a25 a26 => h a0 a1 a2 a3 a4 a5 a6 a7 a8 a9 a10 a11 a12 a13 a14 a15 a16 a17 a18 a19 a20 a21 a22 a23 a24 a25 a26
theorem fx28 {α0 α1 α2 α3 α4 α5 α6 α7 α8 α9 α10 α11 α12 α13 α14 α15 α16 α17 α18 α19 α20 α21 α22 α23 α24 α25 α26 α27 β : Type} {f g : α0 → α1 → α2 → α3 → α4 → α5 → α6 → α7 → α8 → α9 → α10 → α11 → α12 → α13 → α14 → α15 → α16 → α17 → α18 → α19 → α20 → α21 → α22 → α23 → α24 → α25 → α26 → α27 → β} (h : ∀ a0 a1 a2 a3 a4 a5 a6 a7 a8 a9 a10 a11 a12 a13 a14 a15 a16 a17 a18 a19 a20 a21 a22 a23 a24 a25 a26 a27, f a0 a1 a2 a3 a4 a5 a6 a7 a8 a9 a10 a11 a12 a13 a14 a15 a16 a17 a18 a19 a20 a21 a22 a23 a24 a25 a26 a27 = g a0 a1 a2 a3 a4 a5 a6 a7 a8 a9 a10 a11 a12 a13 a14 a15 a16 a17 a18 a19 a20 a21 a22 a23 a24 a25 a26 a27) : f = g := funext fun a0 => fx27 fun a1 a2 a3 a4 a5 a6 a7 a8 a9 a10 a11 a12 a13 a14 a15 a16 a17 a18 a19 a20 a21 a22 a23 a24 a25 a26 a27 => h a0 a1 a2 a3 a4 a5 a6 a7 a8 a9 a10 a11 a12 a13 a14 a15 a16 a17 a18 a19 a20 a21 a22 a23 a24 a25 a26 a27
theorem fx29 {α0 α1 α2 α3 α4 α5 α6 α7 α8 α9 α10 α11 α12 α13 α14 α15 α16 α17 α18 α19 α20 α21 α22 α23 α24 α25 α26 α27 α28 β : Type} {f g : α0 → α1 → α2 → α3 → α4 → α5 → α6 → α7 → α8 → α9 → α10 → α11 → α12 → α13 → α14 → α15 → α16 → α17 → α18 → α19 → α20 → α21 → α22 → α23 → α24 → α25 → α26 → α27 → α28 → β} (h : ∀ a0 a1 a2 a3 a4 a5 a6 a7 a8 a9 a10 a11 a12 a13 a14 a15 a16 a17 a18 a19 a20 a21 a22 a23 a24 a25 a26 a27 a28, f a0 a1 a2 a3 a4 a5 a6 a7 a8 a9 a10 a11 a12 a13 a14 a15 a16 a17 a18 a19 a20 a21 a22 a23 a24 a25 a26 a27 a28 = g a0 a1 a2 a3 a4 a5 a6 a7 a8 a9 a10 a11 a12 a13 a14 a15 a16 a17 a18 a19 a20 a21 a22 a23 a24 a25 a26 a27 a28) : f = g := funext fun a0 => fx28 fun a1 a2 a3 a4 a5 a6 a7 a8 a9 a10 a11 a12 a13 a14 a15 a16 a17 a18 a19 a20 a21 a22 a23 a24 a25 a26 a27 a28 => h a0 a1 a2 a3 a4 a5 a6 a7 a8 a9 a10 a11 a12 a13 a14 a15 a16 a17 a18 a19 a20 a21 a22 a23 a24 a25 a26 a27 a28
theorem fx30 {α0 α1 α2 α3 α4 α5 α6 α7 α8 α9 α10 α11 α12 α13 α14 α15 α16 α17 α18 α19 α20 α21 α22 α23 α24 α25 α26 α27 α28 α29 β : Type} {f g : α0 → α1 → α2 → α3 → α4 → α5 → α6 → α7 → α8 → α9 → α10 → α11 → α12 → α13 → α14 → α15 → α16 → α17 → α18 → α19 → α20 → α21 → α22 → α23 → α24 → α25 → α26 → α27 → α28 → α29 → β} (h : ∀ a0 a1 a2 a3 a4 a5 a6 a7 a8 a9 a10 a11 a12 a13 a14 a15 a16 a17 a18 a19 a20 a21 a22 a23 a24 a25 a26 a27 a28 a29, f a0 a1 a2 a3 a4 a5 a6 a7 a8 a9 a10 a11 a12 a13 a14 a15 a16 a17 a18 a19 a20 a21 a22 a23 a24 a25 a26 a27 a28 a29 = g a0 a1 a2 a3 a4 a5 a6 a7 a8 a9 a10 a11 a12 a13 a14 a15 a16 a17 a18 a19 a20 a21 a22 a23 a24 a25 a26 a27 a28 a29) : f = g := funext fun a0 => fx29 fun a1 a2 a3 a4 a5 a6 a7 a8 a9 a10 a11 a12 a13 a14 a15 a16 a17 a18 a19 a20 a21 a22 a23 a24 a25 a26 a27 a28 a29 => h a0 a1 a2 a3 a4 a5 a6 a7 a8 a9 a10 a11 a12 a13 a14 a15 a16 a17 a18 a19 a20 a21 a22 a23 a24 a25 a26 a27 a28 a29
section
variable {R : Type}
noncomputable def onS (a : List Sh) (b : List RSh) (g : Nat → Sh.D.DL a × RSh.DL b → KT R → Option R) (o : Nat → List PV → List RowS → KT R → Option R) (k : Nat) (ws : List PV) (rs : List RowS) (K : KT R) : Option R := onShape a b (fun v => g k v K) (o k ws rs K) ws rs
abbrev sOk (s : Nat → List PV → List RowS → KT R → Option R) (f : Nat) : Prop := ∀ k ws rs K, s k ws rs K = callC T F k f ws rs K
abbrev tOk (f : Nat) (a : List Sh) (b : List RSh) (g : Nat → Sh.D.DL a × RSh.DL b → KT R → Option R) : Prop := ∀ k x y K, callC T F k f (Sh.build.buildL a x) (RSh.buildL b y) K = g k (x, y) K
theorem onS_eq {a : List Sh} {b : List RSh} {g : Nat → Sh.D.DL a × RSh.DL b → KT R → Option R} {o : Nat → List PV → List RowS → KT R → Option R} {f : Nat} (ho : sOk o f) (h : tOk f a b g) : sOk (onS a b g o) f := by
  intro k ws rs K
  unfold onS
  rw [ho]
  exact onShape_eq (G := fun ws rs => callC T F k f ws rs K) (fun x y => (h k x y K).symm) ws rs
noncomputable def pickS (l : List (Nat × (Nat → List PV → List RowS → KT R → Option R))) (k g : Nat) (ws : List PV) (rs : List RowS) (K : KT R) : Option R := match l with
  | [] => callC T F k g ws rs K
  | (n, s) :: l => bif g == n then s k ws rs K else pickS l k g ws rs K
def pickOk : List (Nat × (Nat → List PV → List RowS → KT R → Option R)) → Prop
  | [] => True
  | (n, s) :: l => sOk s n ∧ pickOk l
theorem pickS_eq : ∀ {l : List (Nat × (Nat → List PV → List RowS → KT R → Option R))}, pickOk l → ∀ k, pickS l k = callC T F k
  | [], _, k => rfl
  | (n, s) :: l, h, k => by
    funext g ws rs K
    unfold pickS
    exact pick_eq (fun e => by subst e; exact h.1 k ws rs K) (by rw [pickS_eq h.2 k])
theorem eS (fn : Func) (an : Ann) (n nt : Nat) {f k : Nat} {ws : List PV} {rs : List RowS} {K : KT R} {S : Nat → List PV → List RowS → KT R → Option R} (L : Nat → List PV → List RowS → (St → Option R) → (Nat → St → Option R) → Option R) (l : List (Nat × List (Nat × Mode) × Code)) {q : Option R}
    (h1 : callC T F (k + 1) f ws rs K = exec T an (modesOf F) n k nt (callC T F k) (ending T fn an n K) (bodyOf fn) ⟨argEnv 0 ws (fun _ => none), rowsOf rs⟩ (ending T fn an n K) (fun _ _ => none))
    (h2 : S = callC T F k) (h3 : cutBlocks an (bodyOf fn) = l) (h4 : CutsOkL T an (modesOf F) n k nt S L (ending T fn an n K) l)
    (h5 : execS T an (modesOf F) n k nt S L (ending T fn an n K) (bodyOf fn) ⟨argEnv 0 ws (fun _ => none), rowsOf rs⟩ (ending T fn an n K) (fun _ _ => none) = q) : callC T F (k + 1) f ws rs K = q := by
  rw [h1, ← h2, ← execS_eq T an (modesOf F) n k nt S L (bodyOf fn) (cuts_of _ _ _ _ _ _ _ _ _ h3 h4)]
  exact h5
theorem lC {a : List Sh} {b : List RSh} {g : Sh.D.DL a × RSh.DL b → Option R} {an : Ann} {n k nt : Nat} {S : Nat → List PV → List RowS → KT R → Option R} (L : Nat → List PV → List RowS → (St → Option R) → (Nat → St → Option R) → Option R) (l : List (Nat × List (Nat × Mode) × Code)) {Rt : St → Option R} {cd : Code} {sp : List (Nat × Mode)} {ws : List PV} {rs : List RowS} {N : St → Option R} {X : Nat → St → Option R}
    (h3 : cutsIn an cd = l) (h4 : CutsOkL T an (modesOf F) n k nt S L Rt l) (h : ∀ x y, g (x, y) = innerS T an (modesOf F) n k nt S L Rt cd (sh sp (Sh.build.buildL a x) (RSh.buildL b y)) N X) :
    onShape a b g (inner T an (modesOf F) n k nt S Rt cd (sh sp ws rs) N X) ws rs = inner T an (modesOf F) n k nt S Rt cd (sh sp ws rs) N X :=
  onShape_eq (G := fun ws rs => inner T an (modesOf F) n k nt S Rt cd (sh sp ws rs) N X) (fun x y => (h x y).trans (innerS_eq T an (modesOf F) n k nt S L cd h3 h4 _ N X)) ws rs
noncomputable abbrev L0 : Nat → List PV → List RowS → (St → Option R) → (Nat → St → Option R) → Option R := fun _ _ _ _ _ => none
end
variable {R : Type} (k : Nat) (K : KT R) (id : Nat) (ws : List PV) (rs : List RowS) (N : St → Option R) (X : Nat → St → Option R)
noncomputable abbrev kt64 : Int → Option R := (fun z0 => K [zi z0] [])
abbrev aa64 : List Sh := [.val [(0, 0)] zT2]
abbrev ab64 : List RSh := []
noncomputable def g64 (k : Nat) (v : Sh.D.DL aa64 × RSh.DL ab64) (K : KT R) : Option R := f64 k v.1.1 (kt64 K)
noncomputable abbrev E64 := ending T Try.f64 an64 0 K
noncomputable def S64 := pickS (R := R) []
theorem S64_eq : ∀ k, S64 (R := R) k = callC T F k := pickS_eq trivial
noncomputable abbrev I64_0 : Option R := inner T an64 (modesOf F) 0 k 25 (S64 k) (E64 K) cd64_0 (sh sp64_0 ws rs) N X
abbrev aa64_0 : List Sh := [zv, .val [(0, 0)] zT2, zv, zv]
abbrev ab64_0 : List RSh := []
noncomputable def L64_0 : Option R :=
  onShape aa64_0 ab64_0 (fun v => f64_0 k (fun p0 => N (sh jn64_0 [zi p0] [])) v.1.2.1 v.1.2.2.1 k v.1.1 v.1.2.2.2.1) (I64_0 k K ws rs N X) ws rs
noncomputable def L64 : Option R := bif id == 0 then L64_0 k K ws rs N X else none
theorem i64_0 (c1 : List Int) (c2 : Int) (m : Nat) : ∀ (c0 c3 : Int),
    iter (atHead an64 0 bd64_0) m (fun st N' => exec T an64 (modesOf F) 0 k 25 (S64 k) (E64 K) bd64_0 st N' (outX an64 0 0 N X)) (sh sp64_0 [zi c0, .val [(0, 0)] zT2 c1, zi c2, zi c3] []) = f64_0d k (fun p0 => N (sh jn64_0 [zi p0] [])) c1 c2 m c0 c3 := by
  induction m with
  | zero => intros; rfl
  | succ m ih =>
    intro c0 c3
    simp only [iter]
    rw [← execS_eq T an64 (modesOf F) 0 k 25 (S64 k) (L64 k K) bd64_0 (cuts_of _ _ _ _ _ _ _ _ bd64_0 (l := []) (by kernel_rfl) trivial)]
    have h := fx2 ih
    simp only [f64_0d]
    rw [← h]
    show _ = _
    kernel_rfl
theorem l64_0 : L64 k K 0 ws rs N X = I64_0 k K ws rs N X := by
  show L64_0 k K ws rs N X = _
  unfold L64_0
  rw [f64_0_def]
  exact onShape_eq (a := aa64_0) (b := ab64_0) (G := fun ws rs => I64_0 k K ws rs N X) (fun x y => Eq.trans (by kernel_rfl) (Eq.trans (i64_0 k K N X x.2.1 x.2.2.1 k x.1 x.2.2.2.1).symm (by kernel_rfl))) ws rs
theorem tu64 : tOk (R := R) 64 aa64 ab64 g64 := by
  intro k x y K
  unfold g64
  rw [f64_def]
  cases k with
  | zero => rfl
  | succ k => exact eS Try.f64 an64 0 25 (L64 k K) [(0, sp64_0, cd64_0)] (by kernel_rfl) (S64_eq k) (by kernel_rfl) ⟨l64_0 k K, trivial⟩ (by kernel_rfl)
noncomputable def s64 := onS (R := R) aa64 ab64 g64 (fun k => callC T F k 64)
theorem s64_eq : sOk (R := R) s64 64 := onS_eq (fun _ _ _ _ => rfl) tu64
noncomputable abbrev kt18 : Int → Int → Option R := (fun z0 z1 => K [zi z0, zi z1] [])
abbrev aa18 : List Sh := [.val [(0, 0)] zT2]
abbrev ab18 : List RSh := []
noncomputable def g18 (k : Nat) (v : Sh.D.DL aa18 × RSh.DL ab18) (K : KT R) : Option R := f18 k v.1.1 (kt18 K)
noncomputable abbrev E18 := ending T Try.f18 an18 0 K
noncomputable def S18 := pickS (R := R) [(64, s64)]
theorem S18_eq : ∀ k, S18 (R := R) k = callC T F k := pickS_eq ⟨s64_eq, trivial⟩
theorem tu18 : tOk (R := R) 18 aa18 ab18 g18 := by
  intro k x y K
  unfold g18
  rw [f18_def]
  cases k with
  | zero => rfl
  | succ k => exact eS Try.f18 an18 0 9 L0 [] (by kernel_rfl) (S18_eq k) (by kernel_rfl) trivial (by kernel_rfl)
noncomputable def s18 := onS (R := R) aa18 ab18 g18 (fun k => callC T F k 18)
theorem s18_eq : sOk (R := R) s18 18 := onS_eq (fun _ _ _ _ => rfl) tu18
noncomputable abbrev kt24 : Bool → Option R := (fun z0 => K [.val [] .bool z0] [])
abbrev aa24 : List Sh := []
abbrev ab24 : List RSh := []
noncomputable def g24 (k : Nat) (v : Sh.D.DL aa24 × RSh.DL ab24) (K : KT R) : Option R := f24 k (kt24 K)
noncomputable abbrev E24 := ending T Try.f24 an24 0 K
noncomputable def S24 := pickS (R := R) [(18, s18)]
theorem S24_eq : ∀ k, S24 (R := R) k = callC T F k := pickS_eq ⟨s18_eq, trivial⟩
theorem tu24 : tOk (R := R) 24 aa24 ab24 g24 := by
  intro k x y K
  unfold g24
  rw [f24_def]
  cases k with
  | zero => rfl
  | succ k => exact eS Try.f24 an24 0 14 L0 [] (by kernel_rfl) (S24_eq k) (by kernel_rfl) trivial (by kernel_rfl)
noncomputable def s24 := onS (R := R) aa24 ab24 g24 (fun k => callC T F k 24)
theorem s24_eq : sOk (R := R) s24 24 := onS_eq (fun _ _ _ _ => rfl) tu24
noncomputable abbrev kt66 : Bool → Option R := (fun z0 => K [.val [] .bool z0] [])
abbrev aa66 : List Sh := [zv, zv, zv]
abbrev ab66 : List RSh := []
noncomputable def g66 (k : Nat) (v : Sh.D.DL aa66 × RSh.DL ab66) (K : KT R) : Option R := f66 k v.1.1 v.1.2.1 v.1.2.2.1 (kt66 K)
noncomputable abbrev E66 := ending T Try.f66 an66 0 K
noncomputable def S66 := pickS (R := R) []
theorem S66_eq : ∀ k, S66 (R := R) k = callC T F k := pickS_eq trivial
theorem tu66 : tOk (R := R) 66 aa66 ab66 g66 := by
  intro k x y K
  unfold g66
  rw [f66_def]
  cases k with
  | zero => rfl
  | succ k => exact eS Try.f66 an66 0 15 L0 [] (by kernel_rfl) (S66_eq k) (by kernel_rfl) trivial (by kernel_rfl)
noncomputable def s66 := onS (R := R) aa66 ab66 g66 (fun k => callC T F k 66)
theorem s66_eq : sOk (R := R) s66 66 := onS_eq (fun _ _ _ _ => rfl) tu66
noncomputable abbrev kt22 : Int → Option R := (fun z0 => K [zi z0] [])
abbrev aa22 : List Sh := [.agg [zv, zv, zv, zv, zv]]
abbrev ab22 : List RSh := []
noncomputable def g22 (k : Nat) (v : Sh.D.DL aa22 × RSh.DL ab22) (K : KT R) : Option R := f22 k v.1.1.1 v.1.1.2.1 v.1.1.2.2.1 v.1.1.2.2.2.1 v.1.1.2.2.2.2.1 (kt22 K)
noncomputable abbrev E22 := ending T Try.f22 an22 0 K
noncomputable def S22 := pickS (R := R) [(66, s66)]
theorem S22_eq : ∀ k, S22 (R := R) k = callC T F k := pickS_eq ⟨s66_eq, trivial⟩
theorem tu22 : tOk (R := R) 22 aa22 ab22 g22 := by
  intro k x y K
  unfold g22
  rw [f22_def]
  cases k with
  | zero => rfl
  | succ k => exact eS Try.f22 an22 0 31 L0 [] (by kernel_rfl) (S22_eq k) (by kernel_rfl) trivial (by kernel_rfl)
noncomputable def s22 := onS (R := R) aa22 ab22 g22 (fun k => callC T F k 22)
theorem s22_eq : sOk (R := R) s22 22 := onS_eq (fun _ _ _ _ => rfl) tu22
noncomputable abbrev kt68 : Bool → Option R := (fun z0 => K [.val [] .bool z0] [])
abbrev aa68 : List Sh := [.val [] .str]
abbrev ab68 : List RSh := []
noncomputable def g68 (k : Nat) (v : Sh.D.DL aa68 × RSh.DL ab68) (K : KT R) : Option R := f68 k v.1.1 (kt68 K)
noncomputable abbrev E68 := ending T Try.f68 an68 0 K
noncomputable def S68 := pickS (R := R) []
theorem S68_eq : ∀ k, S68 (R := R) k = callC T F k := pickS_eq trivial
noncomputable abbrev I68_0 : Option R := inner T an68 (modesOf F) 0 k 47 (S68 k) (E68 K) cd68_0 (sh sp68_0 ws rs) N X
abbrev aa68_0 : List Sh := [.val [] .str, zv, zv]
abbrev ab68_0 : List RSh := []
noncomputable def L68_0 : Option R :=
  onShape aa68_0 ab68_0 (fun v => f68_0 k (kt68 K) (N (sh jn68_0 [] [])) v.1.1 v.1.2.1 k v.1.2.2.1) (I68_0 k K ws rs N X) ws rs
noncomputable def L68 : Option R := bif id == 0 then L68_0 k K ws rs N X else none
theorem i68_0 (c0 : ByteArray) (c1 : Int) (m : Nat) : ∀ (c2 : Int),
    iter (atHead an68 0 bd68_0) m (fun st N' => exec T an68 (modesOf F) 0 k 47 (S68 k) (E68 K) bd68_0 st N' (outX an68 0 0 N X)) (sh sp68_0 [.val [] .str c0, zi c1, zi c2] []) = f68_0d k (kt68 K) (N (sh jn68_0 [] [])) c0 c1 m c2 := by
  induction m with
  | zero => intros; rfl
  | succ m ih =>
    intro c2
    simp only [iter]
    rw [← execS_eq T an68 (modesOf F) 0 k 47 (S68 k) (L68 k K) bd68_0 (cuts_of _ _ _ _ _ _ _ _ bd68_0 (l := []) (by kernel_rfl) trivial)]
    have h := fx1 ih
    simp only [f68_0d]
    rw [← h]
    show _ = _
    kernel_rfl
theorem l68_0 : L68 k K 0 ws rs N X = I68_0 k K ws rs N X := by
  show L68_0 k K ws rs N X = _
  unfold L68_0
  rw [f68_0_def]
  exact onShape_eq (a := aa68_0) (b := ab68_0) (G := fun ws rs => I68_0 k K ws rs N X) (fun x y => Eq.trans (by kernel_rfl) (Eq.trans (i68_0 k K N X x.1 x.2.1 k x.2.2.1).symm (by kernel_rfl))) ws rs
theorem tu68 : tOk (R := R) 68 aa68 ab68 g68 := by
  intro k x y K
  unfold g68
  rw [f68_def]
  cases k with
  | zero => rfl
  | succ k => exact eS Try.f68 an68 0 47 (L68 k K) [(0, sp68_0, cd68_0)] (by kernel_rfl) (S68_eq k) (by kernel_rfl) ⟨l68_0 k K, trivial⟩ (by kernel_rfl)
noncomputable def s68 := onS (R := R) aa68 ab68 g68 (fun k => callC T F k 68)
theorem s68_eq : sOk (R := R) s68 68 := onS_eq (fun _ _ _ _ => rfl) tu68
noncomputable abbrev kt76 : Int → Option R := (fun z0 => K [zi z0] [])
abbrev aa76 : List Sh := [zv, .val [] .str, .val [(0, 0)] zT2]
abbrev ab76 : List RSh := []
noncomputable def g76 (k : Nat) (v : Sh.D.DL aa76 × RSh.DL ab76) (K : KT R) : Option R := f76 k v.1.1 v.1.2.1 v.1.2.2.1 (kt76 K)
noncomputable abbrev E76 := ending T Try.f76 an76 0 K
noncomputable def S76 := pickS (R := R) [(66, s66), (68, s68)]
theorem S76_eq : ∀ k, S76 (R := R) k = callC T F k := pickS_eq ⟨s66_eq, s68_eq, trivial⟩
theorem tu76 : tOk (R := R) 76 aa76 ab76 g76 := by
  intro k x y K
  unfold g76
  rw [f76_def]
  cases k with
  | zero => rfl
  | succ k => exact eS Try.f76 an76 0 19 L0 [] (by kernel_rfl) (S76_eq k) (by kernel_rfl) trivial (by kernel_rfl)
noncomputable def s76 := onS (R := R) aa76 ab76 g76 (fun k => callC T F k 76)
theorem s76_eq : sOk (R := R) s76 76 := onS_eq (fun _ _ _ _ => rfl) tu76
noncomputable abbrev kt77 : List Int → Option R := (fun z0 => K [.rw 1] [zr0 z0])
abbrev aa77 : List Sh := [.val [(0, 0)] zT2]
abbrev ab77 : List RSh := []
noncomputable def g77 (k : Nat) (v : Sh.D.DL aa77 × RSh.DL ab77) (K : KT R) : Option R := f77 k v.1.1 (kt77 K)
theorem e77 (k : Nat) (a0 : List Int) (K : KT R) : callC T F k 77 [.val [(0, 0)] zT2 a0] [] K = f77 k a0 (kt77 K) := by
  rw [f77_def]
  cases k with
  | zero => rfl
  | succ k => exact clone_call (m := [.lend (.int .u8)]) (ty := (.int .u8)) (bytes := 1) (by kernel_rfl) a0 K
theorem tu77 : tOk (R := R) 77 aa77 ab77 g77 := fun k x y K => e77 k x.1 K
noncomputable def s77 := onS (R := R) aa77 ab77 g77 (fun k => callC T F k 77)
theorem s77_eq : sOk (R := R) s77 77 := onS_eq (fun _ _ _ _ => rfl) tu77
noncomputable abbrev kt25 : zK0 R := (fun z0 z1 z2 z3 z4 z5 z6 z7 => K [.agg [zi z0, zi z1, .val [] .str z2, .rw 1, zi z3, .nils, zi z4, zi z5], zi z6] [zr0 z7])
abbrev aa25 : List Sh := [zv, .val [] .str, .val [(0, 0)] zT2]
abbrev ab25 : List RSh := []
noncomputable def g25 (k : Nat) (v : Sh.D.DL aa25 × RSh.DL ab25) (K : KT R) : Option R := f25 k v.1.1 v.1.2.1 v.1.2.2.1 (kt25 K)
noncomputable abbrev E25 := ending T Try.f25 an25 0 K
noncomputable def S25 := pickS (R := R) [(76, s76), (77, s77)]
theorem S25_eq : ∀ k, S25 (R := R) k = callC T F k := pickS_eq ⟨s76_eq, s77_eq, trivial⟩
theorem tu25 : tOk (R := R) 25 aa25 ab25 g25 := by
  intro k x y K
  unfold g25
  rw [f25_def]
  cases k with
  | zero => rfl
  | succ k => exact eS Try.f25 an25 0 22 L0 [] (by kernel_rfl) (S25_eq k) (by kernel_rfl) trivial (by kernel_rfl)
noncomputable def s25 := onS (R := R) aa25 ab25 g25 (fun k => callC T F k 25)
theorem s25_eq : sOk (R := R) s25 25 := onS_eq (fun _ _ _ _ => rfl) tu25
noncomputable abbrev kt53 : Int → Int → ByteArray → Int → Int → Int → Int → Int → Option R := (fun z0 z1 z2 z3 z4 z5 z6 z7 => K [.agg [zi z0, zi z1, .val [] .str z2, .nils, .nils, zi z3, zi z4, zi z5, zi z6], zi z7] [])
abbrev aa53 : List Sh := [zv]
abbrev ab53 : List RSh := []
noncomputable def g53 (k : Nat) (v : Sh.D.DL aa53 × RSh.DL ab53) (K : KT R) : Option R := f53 k v.1.1 (kt53 K)
noncomputable abbrev E53 := ending T Try.f53 an53 0 K
noncomputable def S53 := pickS (R := R) [(66, s66)]
theorem S53_eq : ∀ k, S53 (R := R) k = callC T F k := pickS_eq ⟨s66_eq, trivial⟩
theorem tu53 : tOk (R := R) 53 aa53 ab53 g53 := by
  intro k x y K
  unfold g53
  rw [f53_def]
  cases k with
  | zero => rfl
  | succ k => exact eS Try.f53 an53 0 10 L0 [] (by kernel_rfl) (S53_eq k) (by kernel_rfl) trivial (by kernel_rfl)
noncomputable def s53 := onS (R := R) aa53 ab53 g53 (fun k => callC T F k 53)
theorem s53_eq : sOk (R := R) s53 53 := onS_eq (fun _ _ _ _ => rfl) tu53
noncomputable abbrev kt123 : zK1 R := (fun z0 z1 z2 z3 z4 z5 z6 z7 z8 z9 z10 z11 z12 z13 z14 z15 z16 z17 z18 z19 z20 z21 z22 z23 z24 z25 z26 z27 z28 z29 => K [.rw 6] [zr1 z0 z1 z2 z3 z4 z5 z6 z7 z8 z9 z10 z11 z12 z13 z14 z15 z16 z17 z18 z19 z20 z21 z22 z23 z24 z25 z26, ⟨0, .gone⟩, ⟨0, .gone⟩, zr2 z27, zr2 z28, zr3 z29])
abbrev aa123 : List Sh := [.ptr 1 22, zv]
abbrev ab123 : List RSh := [zs0, .arr [(0, 0)] zP2, .arr [(0, 0)] zP2]
noncomputable def g123 (k : Nat) (v : Sh.D.DL aa123 × RSh.DL ab123) (K : KT R) : Option R := let u0 := v.2.1.2.2.2.2.2.2.2; let u1 := u0.2.2.2.2.2.2.2; let u2 := u1.2.2.2.2.2.2.2; f123 k v.1.2.1 v.2.1.1 v.2.1.2.1 v.2.1.2.2.1 v.2.1.2.2.2.1 v.2.1.2.2.2.2.1 v.2.1.2.2.2.2.2.1 v.2.1.2.2.2.2.2.2.1 v.2.1.2.2.2.2.2.2.2.1 u0.2.1 u0.2.2.1 u0.2.2.2.1 u0.2.2.2.2.1 u0.2.2.2.2.2.1 u0.2.2.2.2.2.2.1 u0.2.2.2.2.2.2.2.1 u1.2.1 u1.2.2.1 u1.2.2.2.1 u1.2.2.2.2.1 u1.2.2.2.2.2.1 u1.2.2.2.2.2.2.1 u1.2.2.2.2.2.2.2.1 u2.2.1 u2.2.2.1 u2.2.2.2.2.1 u2.2.2.2.2.2.1 u2.2.2.2.2.2.2.2.1 v.2.2.1 v.2.2.2.1 (kt123 K)
noncomputable abbrev E123 := ending T Try.f123 an123 3 K
noncomputable def S123 := pickS (R := R) []
theorem S123_eq : ∀ k, S123 (R := R) k = callC T F k := pickS_eq trivial
noncomputable abbrev I123_0 : Option R := inner T an123 (modesOf F) 3 k 42 (S123 k) (E123 K) cd123_0 (sh sp123_0 ws rs) N X
abbrev aa123_0 : List Sh := [.ptr 1 22, zv, .rw 6]
abbrev ab123_0 : List RSh := [zs1, .gone, .gone, .arr [(0, 0)] zP2, .arr [(0, 0)] zP2, .arr [(0, 0)] zP0]
noncomputable def L123_0 : Option R :=
  onShape aa123_0 ab123_0 (fun v => let u0 := v.2.1.2.2.2.2.2.2.2; let u1 := u0.2.2.2.2.2.2.2; let u2 := u1.2.2.2.2.2.2.2; f123_0 k (fun p27 p29 => N (sh jn123_0 [.rw 6] [zr1 v.2.1.1 v.2.1.2.1 v.2.1.2.2.1 v.2.1.2.2.2.1 v.2.1.2.2.2.2.1 v.2.1.2.2.2.2.2.1 v.2.1.2.2.2.2.2.2.1 v.2.1.2.2.2.2.2.2.2.1 u0.2.1 u0.2.2.1 u0.2.2.2.1 u0.2.2.2.2.1 u0.2.2.2.2.2.1 u0.2.2.2.2.2.2.1 u0.2.2.2.2.2.2.2.1 u1.2.1 u1.2.2.1 u1.2.2.2.1 u1.2.2.2.2.1 u1.2.2.2.2.2.1 u1.2.2.2.2.2.2.1 u1.2.2.2.2.2.2.2.1 u2.2.1 u2.2.2.1 u2.2.2.2.2.1 u2.2.2.2.2.2.1 u2.2.2.2.2.2.2.2.1, ⟨0, .gone⟩, ⟨0, .gone⟩, zr2 p27, zr2 v.2.2.2.2.2.1, zr3 p29])) v.1.2.1 v.2.1.1 v.2.1.2.1 v.2.1.2.2.1 v.2.1.2.2.2.1 v.2.1.2.2.2.2.1 v.2.1.2.2.2.2.2.1 v.2.1.2.2.2.2.2.2.1 v.2.1.2.2.2.2.2.2.2.1 u0.2.1 u0.2.2.1 u0.2.2.2.1 u0.2.2.2.2.1 u0.2.2.2.2.2.1 u0.2.2.2.2.2.2.1 u0.2.2.2.2.2.2.2.1 u1.2.1 u1.2.2.1 u1.2.2.2.1 u1.2.2.2.2.1 u1.2.2.2.2.2.1 u1.2.2.2.2.2.2.1 u1.2.2.2.2.2.2.2.1 u2.2.1 u2.2.2.1 u2.2.2.2.2.1 u2.2.2.2.2.2.1 u2.2.2.2.2.2.2.2.1 v.2.2.2.2.2.1 k v.2.2.2.2.1 v.2.2.2.2.2.2.1) (I123_0 k K ws rs N X) ws rs
noncomputable def L123 : Option R := bif id == 0 then L123_0 k K ws rs N X else none
theorem i123_0 (c0 c1 c2 c3 c4 c5 c6 c7 : Int) (c8 : ByteArray) (c9 : List Int) (c10 : Int) (c11 : zL5) (c12 c13 c14 c15 : Int) (c16 : ByteArray) (c17 : List Int) (c18 : zL5) (c19 c20 c21 c22 : Int) (c23 : List Bool) (c24 : Int) (c25 : List Bool) (c26 c27 : Int) (c29 : zL1) (m : Nat) : ∀ (c28 : zL1) (c30 : zL3),
    iter (atHead an123 3 bd123_0) m (fun st N' => exec T an123 (modesOf F) 3 k 42 (S123 k) (E123 K) bd123_0 st N' (outX an123 3 0 N X)) (sh sp123_0 [.ptr 1 22, zi c0, .rw 6] [zr1 c1 c2 c3 c4 c5 c6 c7 c8 c9 c10 c11 c12 c13 c14 c15 c16 c17 c18 c19 c20 c21 c22 c23 c24 c25 c26 c27, ⟨0, .gone⟩, ⟨0, .gone⟩, zr2 c28, zr2 c29, zr3 c30]) = f123_0d k (fun p27 p29 => N (sh jn123_0 [.rw 6] [zr1 c1 c2 c3 c4 c5 c6 c7 c8 c9 c10 c11 c12 c13 c14 c15 c16 c17 c18 c19 c20 c21 c22 c23 c24 c25 c26 c27, ⟨0, .gone⟩, ⟨0, .gone⟩, zr2 p27, zr2 c29, zr3 p29])) c0 c1 c2 c3 c4 c5 c6 c7 c8 c9 c10 c11 c12 c13 c14 c15 c16 c17 c18 c19 c20 c21 c22 c23 c24 c25 c26 c27 c29 m c28 c30 := by
  induction m with
  | zero => intros; rfl
  | succ m ih =>
    intro c28 c30
    simp only [iter]
    rw [← execS_eq T an123 (modesOf F) 3 k 42 (S123 k) (L123 k K) bd123_0 (cuts_of _ _ _ _ _ _ _ _ bd123_0 (l := []) (by kernel_rfl) trivial)]
    have h := fx2 ih
    simp only [f123_0d]
    rw [← h]
    show _ = _
    kernel_rfl
theorem l123_0 : L123 k K 0 ws rs N X = I123_0 k K ws rs N X := by
  show L123_0 k K ws rs N X = _
  unfold L123_0
  rw [f123_0_def]
  exact onShape_eq (a := aa123_0) (b := ab123_0) (G := fun ws rs => I123_0 k K ws rs N X) (fun x y => Eq.trans (by kernel_rfl) (Eq.trans (i123_0 k K N X x.2.1 y.1.1 y.1.2.1 y.1.2.2.1 y.1.2.2.2.1 y.1.2.2.2.2.1 y.1.2.2.2.2.2.1 y.1.2.2.2.2.2.2.1 y.1.2.2.2.2.2.2.2.1 y.1.2.2.2.2.2.2.2.2.1 y.1.2.2.2.2.2.2.2.2.2.1 y.1.2.2.2.2.2.2.2.2.2.2.1 y.1.2.2.2.2.2.2.2.2.2.2.2.1 y.1.2.2.2.2.2.2.2.2.2.2.2.2.1 y.1.2.2.2.2.2.2.2.2.2.2.2.2.2.1 y.1.2.2.2.2.2.2.2.2.2.2.2.2.2.2.1 y.1.2.2.2.2.2.2.2.2.2.2.2.2.2.2.2.1 y.1.2.2.2.2.2.2.2.2.2.2.2.2.2.2.2.2.1 y.1.2.2.2.2.2.2.2.2.2.2.2.2.2.2.2.2.2.1 y.1.2.2.2.2.2.2.2.2.2.2.2.2.2.2.2.2.2.2.1 y.1.2.2.2.2.2.2.2.2.2.2.2.2.2.2.2.2.2.2.2.1 y.1.2.2.2.2.2.2.2.2.2.2.2.2.2.2.2.2.2.2.2.2.1 y.1.2.2.2.2.2.2.2.2.2.2.2.2.2.2.2.2.2.2.2.2.2.1 y.1.2.2.2.2.2.2.2.2.2.2.2.2.2.2.2.2.2.2.2.2.2.2.1 y.1.2.2.2.2.2.2.2.2.2.2.2.2.2.2.2.2.2.2.2.2.2.2.2.1 y.1.2.2.2.2.2.2.2.2.2.2.2.2.2.2.2.2.2.2.2.2.2.2.2.2.2.1 y.1.2.2.2.2.2.2.2.2.2.2.2.2.2.2.2.2.2.2.2.2.2.2.2.2.2.2.1 y.1.2.2.2.2.2.2.2.2.2.2.2.2.2.2.2.2.2.2.2.2.2.2.2.2.2.2.2.2.1 y.2.2.2.2.1 k y.2.2.2.1 y.2.2.2.2.2.1).symm (by kernel_rfl))) ws rs
theorem tu123 : tOk (R := R) 123 aa123 ab123 g123 := by
  intro k x y K
  unfold g123
  rw [f123_def]
  cases k with
  | zero => rfl
  | succ k => exact eS Try.f123 an123 3 42 (L123 k K) [(0, sp123_0, cd123_0)] (by kernel_rfl) (S123_eq k) (by kernel_rfl) ⟨l123_0 k K, trivial⟩ (by kernel_rfl)
noncomputable def s123 := onS (R := R) aa123 ab123 g123 (fun k => callC T F k 123)
theorem s123_eq : sOk (R := R) s123 123 := onS_eq (fun _ _ _ _ => rfl) tu123
noncomputable abbrev kt119 : Bool → Option R := (fun z0 => K [.val [] .bool z0] [])
abbrev aa119 : List Sh := [.agg [zv, zv, .val [] .str, .val [(0, 0)] zT2, .val [(0, 0)] zT1, zv, zv, zv, zv], .agg [zv, zv, .val [] .str, zv, zv, zv, .val [(0, 0)] zT2, .val [(0, 0)] zT1, .val [] .bool]]
abbrev ab119 : List RSh := []
noncomputable def g119 (k : Nat) (v : Sh.D.DL aa119 × RSh.DL ab119) (K : KT R) : Option R := let u0 := v.1.1.2.2.2.2.2.2.2; let u1 := v.1.2.1.2.2.2.2.2.2.2; f119 k v.1.1.1 v.1.1.2.1 v.1.1.2.2.1 v.1.1.2.2.2.1 v.1.1.2.2.2.2.1 v.1.1.2.2.2.2.2.1 v.1.1.2.2.2.2.2.2.1 v.1.1.2.2.2.2.2.2.2.1 u0.2.1 v.1.2.1.1 v.1.2.1.2.1 v.1.2.1.2.2.1 v.1.2.1.2.2.2.1 v.1.2.1.2.2.2.2.1 v.1.2.1.2.2.2.2.2.1 v.1.2.1.2.2.2.2.2.2.1 v.1.2.1.2.2.2.2.2.2.2.1 u1.2.1 (kt119 K)
noncomputable abbrev E119 := ending T Try.f119 an119 0 K
noncomputable def S119 := pickS (R := R) []
theorem S119_eq : ∀ k, S119 (R := R) k = callC T F k := pickS_eq trivial
theorem tu119 : tOk (R := R) 119 aa119 ab119 g119 := by
  intro k x y K
  unfold g119
  rw [f119_def]
  cases k with
  | zero => rfl
  | succ k => exact eS Try.f119 an119 0 64 L0 [] (by kernel_rfl) (S119_eq k) (by kernel_rfl) trivial (by kernel_rfl)
noncomputable def s119 := onS (R := R) aa119 ab119 g119 (fun k => callC T F k 119)
theorem s119_eq : sOk (R := R) s119 119 := onS_eq (fun _ _ _ _ => rfl) tu119
noncomputable abbrev kt135 : List Int → Option R := (fun z0 => K [.rw 1] [zr0 z0])
abbrev aa135 : List Sh := [.val [(0, 0)] zT2, zv]
abbrev ab135 : List RSh := []
noncomputable def g135 (k : Nat) (v : Sh.D.DL aa135 × RSh.DL ab135) (K : KT R) : Option R := f135 k v.1.1 v.1.2.1 (kt135 K)
theorem e135 (k : Nat) (a0 : List Int) (a1 : Int) (K : KT R) : callC T F k 135 [.val [(0, 0)] zT2 a0, zi a1] [] K = f135 k a0 a1 (kt135 K) := by
  rw [f135_def]
  cases k with
  | zero => rfl
  | succ k => exact rep_call (m := [.lend (.int .u8), .any]) (by kernel_rfl) [(0, 0)] [] a0 a1 K
theorem tu135 : tOk (R := R) 135 aa135 ab135 g135 := fun k x y K => e135 k x.1 x.2.1 K
noncomputable def s135 := onS (R := R) aa135 ab135 g135 (fun k => callC T F k 135)
theorem s135_eq : sOk (R := R) s135 135 := onS_eq (fun _ _ _ _ => rfl) tu135
noncomputable abbrev kt87 : zL6 → Option R := (fun z0 => K [.rw 1] [zr4 z0])
abbrev aa87 : List Sh := [.val [(0, 0)] zT1, zv]
abbrev ab87 : List RSh := []
noncomputable def g87 (k : Nat) (v : Sh.D.DL aa87 × RSh.DL ab87) (K : KT R) : Option R := f87 k v.1.1 v.1.2.1 (kt87 K)
noncomputable abbrev E87 := ending T Try.f87 an87 0 K
noncomputable def S87 := pickS (R := R) []
theorem S87_eq : ∀ k, S87 (R := R) k = callC T F k := pickS_eq trivial
noncomputable abbrev I87_1000007 : Option R := inner T an87 (modesOf F) 0 k 39 (S87 k) (E87 K) cd87_1000007 (sh sp87_1000007 ws rs) N X
abbrev aa87_1000007 : List Sh := [zv, .rw 1, zv, .ptr 2 0, .val [(0, 0)] zT1, zv, zv, .val [] .bool]
abbrev ab87_1000007 : List RSh := [.arr [] zP1, .vars [zv, zv]]
noncomputable def L87_1000007 : Option R :=
  onShape aa87_1000007 ab87_1000007 (fun v => f87_1000007 k (fun p4 => N (sh fi87_7 [zi v.1.1, .rw 1, .ptr 2 0, .val [(0, 0)] zT1 v.1.2.2.2.2.1, zi v.1.2.2.2.2.2.1, zi v.1.2.2.2.2.2.2.1] [zr4 p4, ⟨0, .vars [zi v.2.2.1.1, zi v.2.2.1.2.1]⟩])) v.1.1 v.1.2.2.1 v.1.2.2.2.2.1 v.1.2.2.2.2.2.1 v.1.2.2.2.2.2.2.1 v.1.2.2.2.2.2.2.2.1 v.2.1 v.2.2.1.1 v.2.2.1.2.1) (I87_1000007 k K ws rs N X) ws rs
noncomputable abbrev I87_0 : Option R := inner T an87 (modesOf F) 0 k 39 (S87 k) (E87 K) cd87_0 (sh sp87_0 ws rs) N X
abbrev aa87_0 : List Sh := [zv, .rw 1, zv, .val [(0, 0)] zT1, zv, zv]
abbrev ab87_0 : List RSh := [.arr [] zP1]
noncomputable def L87_0 : Option R :=
  onShape aa87_0 ab87_0 (fun v => f87_0 k (fun p1 p2 => N (sh jn87_0 [zi v.1.1, .rw 1, zi p1] [zr4 p2])) v.1.1 v.1.2.2.2.1 v.1.2.2.2.2.1 k v.1.2.2.1 v.1.2.2.2.2.2.1 v.2.1) (I87_0 k K ws rs N X) ws rs
noncomputable abbrev I87_1000011 : Option R := inner T an87 (modesOf F) 0 k 39 (S87 k) (E87 K) cd87_1000011 (sh sp87_1000011 ws rs) N X
abbrev aa87_1000011 : List Sh := [zv, .rw 1, zv, .val [] .bool]
abbrev ab87_1000011 : List RSh := [.arr [] zP1]
noncomputable def L87_1000011 : Option R :=
  onShape aa87_1000011 ab87_1000011 (fun v => f87_1000011 k (fun p0 => N (sh fi87_11 [.rw 1] [zr4 p0])) v.1.1 v.1.2.2.1 v.1.2.2.2.1 v.2.1) (I87_1000011 k K ws rs N X) ws rs
noncomputable def L87 : Option R := bif id == 1000007 then L87_1000007 k K ws rs N X else bif id == 0 then L87_0 k K ws rs N X else bif id == 1000011 then L87_1000011 k K ws rs N X else none
theorem l87_1000007 : L87 k K 1000007 ws rs N X = I87_1000007 k K ws rs N X := by
  show L87_1000007 k K ws rs N X = _
  unfold L87_1000007
  rw [f87_1000007_def]
  exact lC (L87 k K) [] (by kernel_rfl) trivial fun x y => by kernel_rfl
theorem i87_0 (c0 : Int) (c2 : zL5) (c3 : Int) (m : Nat) : ∀ (c1 c4 : Int) (c5 : zL6),
    iter (atHead an87 0 bd87_0) m (fun st N' => exec T an87 (modesOf F) 0 k 39 (S87 k) (E87 K) bd87_0 st N' (outX an87 0 0 N X)) (sh sp87_0 [zi c0, .rw 1, zi c1, .val [(0, 0)] zT1 c2, zi c3, zi c4] [zr4 c5]) = f87_0d k (fun p1 p2 => N (sh jn87_0 [zi c0, .rw 1, zi p1] [zr4 p2])) c0 c2 c3 m c1 c4 c5 := by
  induction m with
  | zero => intros; rfl
  | succ m ih =>
    intro c1 c4 c5
    simp only [iter]
    rw [← execS_eq T an87 (modesOf F) 0 k 39 (S87 k) (L87 k K) bd87_0 (cuts_of _ _ _ _ _ _ _ _ bd87_0 (l := [(1000007, sp87_1000007, cd87_1000007)]) (by kernel_rfl) ⟨l87_1000007 k K, trivial⟩)]
    have h := fx3 ih
    simp only [f87_0d]
    rw [← h]
    show _ = _
    kernel_rfl
theorem l87_0 : L87 k K 0 ws rs N X = I87_0 k K ws rs N X := by
  show L87_0 k K ws rs N X = _
  unfold L87_0
  rw [f87_0_def]
  exact onShape_eq (a := aa87_0) (b := ab87_0) (G := fun ws rs => I87_0 k K ws rs N X) (fun x y => Eq.trans (by kernel_rfl) (Eq.trans (i87_0 k K N X x.1 x.2.2.2.1 x.2.2.2.2.1 k x.2.2.1 x.2.2.2.2.2.1 y.1).symm (by kernel_rfl))) ws rs
theorem l87_1000011 : L87 k K 1000011 ws rs N X = I87_1000011 k K ws rs N X := by
  show L87_1000011 k K ws rs N X = _
  unfold L87_1000011
  rw [f87_1000011_def]
  exact lC (L87 k K) [] (by kernel_rfl) trivial fun x y => by kernel_rfl
theorem tu87 : tOk (R := R) 87 aa87 ab87 g87 := by
  intro k x y K
  unfold g87
  rw [f87_def]
  cases k with
  | zero => rfl
  | succ k => exact eS Try.f87 an87 0 39 (L87 k K) [(0, sp87_0, cd87_0), (1000011, sp87_1000011, cd87_1000011)] (by kernel_rfl) (S87_eq k) (by kernel_rfl) ⟨l87_0 k K, l87_1000011 k K, trivial⟩ (by kernel_rfl)
noncomputable def s87 := onS (R := R) aa87 ab87 g87 (fun k => callC T F k 87)
theorem s87_eq : sOk (R := R) s87 87 := onS_eq (fun _ _ _ _ => rfl) tu87
noncomputable abbrev kt132 : zL6 → Option R := (fun z0 => K [.rw 1] [zr4 z0])
abbrev aa132 : List Sh := [.nils, zv]
abbrev ab132 : List RSh := []
noncomputable def g132 (k : Nat) (v : Sh.D.DL aa132 × RSh.DL ab132) (K : KT R) : Option R := f132 k v.1.2.1 (kt132 K)
noncomputable abbrev E132 := ending T Try.f132 an132 0 K
noncomputable def S132 := pickS (R := R) []
theorem S132_eq : ∀ k, S132 (R := R) k = callC T F k := pickS_eq trivial
noncomputable abbrev I132_1000002 : Option R := inner T an132 (modesOf F) 0 k 27 (S132 k) (E132 K) cd132_1000002 (sh sp132_1000002 ws rs) N X
abbrev aa132_1000002 : List Sh := [.nils, zv, .val [] .bool]
abbrev ab132_1000002 : List RSh := []
noncomputable def L132_1000002 : Option R :=
  onShape aa132_1000002 ab132_1000002 (fun v => f132_1000002 k (N (sh fi132_2 [.nils, zi v.1.2.1] [])) v.1.2.1 v.1.2.2.1) (I132_1000002 k K ws rs N X) ws rs
noncomputable abbrev I132_1000005 : Option R := inner T an132 (modesOf F) 0 k 27 (S132 k) (E132 K) cd132_1000005 (sh sp132_1000005 ws rs) N X
abbrev aa132_1000005 : List Sh := [.nils, zv, .val [] .bool]
abbrev ab132_1000005 : List RSh := []
noncomputable def L132_1000005 : Option R :=
  onShape aa132_1000005 ab132_1000005 (fun v => f132_1000005 k (fun p0 => N (sh fi132_5 [.rw 1] [zr4 p0])) v.1.2.1 v.1.2.2.1) (I132_1000005 k K ws rs N X) ws rs
noncomputable def L132 : Option R := bif id == 1000002 then L132_1000002 k K ws rs N X else bif id == 1000005 then L132_1000005 k K ws rs N X else none
theorem l132_1000002 : L132 k K 1000002 ws rs N X = I132_1000002 k K ws rs N X := by
  show L132_1000002 k K ws rs N X = _
  unfold L132_1000002
  rw [f132_1000002_def]
  exact lC (L132 k K) [] (by kernel_rfl) trivial fun x y => by kernel_rfl
theorem l132_1000005 : L132 k K 1000005 ws rs N X = I132_1000005 k K ws rs N X := by
  show L132_1000005 k K ws rs N X = _
  unfold L132_1000005
  rw [f132_1000005_def]
  exact lC (L132 k K) [] (by kernel_rfl) trivial fun x y => by kernel_rfl
theorem tu132 : tOk (R := R) 132 aa132 ab132 g132 := by
  intro k x y K
  unfold g132
  rw [f132_def]
  cases k with
  | zero => rfl
  | succ k => exact eS Try.f132 an132 0 27 (L132 k K) [(1000002, sp132_1000002, cd132_1000002), (1000005, sp132_1000005, cd132_1000005)] (by kernel_rfl) (S132_eq k) (by kernel_rfl) ⟨l132_1000002 k K, l132_1000005 k K, trivial⟩ (by kernel_rfl)
noncomputable def s132 := onS (R := R) aa132 ab132 g132 (fun k => callC T F k 132)
theorem s132_eq : sOk (R := R) s132 132 := onS_eq (fun _ _ _ _ => rfl) tu132
noncomputable abbrev kt114 : zL6 → Option R := (fun z0 => K [.rw 1] [zr4 z0])
abbrev aa114 : List Sh := [.val [(0, 0)] (.slice zT1)]
abbrev ab114 : List RSh := []
noncomputable def g114 (k : Nat) (v : Sh.D.DL aa114 × RSh.DL ab114) (K : KT R) : Option R := f114 k v.1.1 (kt114 K)
noncomputable abbrev E114 := ending T Try.f114 an114 0 K
noncomputable def S114 := pickS (R := R) [(132, s132)]
theorem S114_eq : ∀ k, S114 (R := R) k = callC T F k := pickS_eq ⟨s132_eq, trivial⟩
noncomputable abbrev I114_1000007 : Option R := inner T an114 (modesOf F) 0 k 36 (S114 k) (E114 K) cd114_1000007 (sh sp114_1000007 ws rs) N X
abbrev aa114_1000007 : List Sh := [.val [(0, 0)] (.slice zT1), zv, .val [(0, 0)] (.slice zT1), zv, zv, .val [] .bool]
abbrev ab114_1000007 : List RSh := []
noncomputable def L114_1000007 : Option R :=
  onShape aa114_1000007 ab114_1000007 (fun v => f114_1000007 k (N (sh fi114_7 [.val [(0, 0)] (.slice zT1) v.1.1, zi v.1.2.1, .val [(0, 0)] (.slice zT1) v.1.2.2.1, zi v.1.2.2.2.1, zi v.1.2.2.2.2.1] [])) v.1.1 v.1.2.1 v.1.2.2.1 v.1.2.2.2.1 v.1.2.2.2.2.1 v.1.2.2.2.2.2.1) (I114_1000007 k K ws rs N X) ws rs
noncomputable abbrev I114_0 : Option R := inner T an114 (modesOf F) 0 k 36 (S114 k) (E114 K) cd114_0 (sh sp114_0 ws rs) N X
abbrev aa114_0 : List Sh := [.val [(0, 0)] (.slice zT1), zv, .val [(0, 0)] (.slice zT1), zv, zv]
abbrev ab114_0 : List RSh := []
noncomputable def L114_0 : Option R :=
  onShape aa114_0 ab114_0 (fun v => f114_0 k (fun p1 => N (sh jn114_0 [.val [(0, 0)] (.slice zT1) v.1.1, zi p1] [])) v.1.1 v.1.2.2.1 v.1.2.2.2.1 k v.1.2.1 v.1.2.2.2.2.1) (I114_0 k K ws rs N X) ws rs
noncomputable abbrev I114_2 : Option R := inner T an114 (modesOf F) 0 k 36 (S114 k) (E114 K) cd114_2 (sh sp114_2 ws rs) N X
abbrev aa114_2 : List Sh := [.rw 1, .val [(0, 0)] (.slice zT1), zv, zv]
abbrev ab114_2 : List RSh := [.arr [] zP1]
noncomputable def L114_2 : Option R :=
  onShape aa114_2 ab114_2 (fun v => f114_2 k (fun p0 => N (sh jn114_2 [.rw 1] [zr4 p0])) v.1.2.1 v.1.2.2.1 k v.1.2.2.2.1 v.2.1) (I114_2 k K ws rs N X) ws rs
noncomputable def L114 : Option R := bif id == 1000007 then L114_1000007 k K ws rs N X else bif id == 0 then L114_0 k K ws rs N X else bif id == 2 then L114_2 k K ws rs N X else none
theorem l114_1000007 : L114 k K 1000007 ws rs N X = I114_1000007 k K ws rs N X := by
  show L114_1000007 k K ws rs N X = _
  unfold L114_1000007
  rw [f114_1000007_def]
  exact lC (L114 k K) [] (by kernel_rfl) trivial fun x y => by kernel_rfl
theorem i114_0 (c0 c2 : List (zL5)) (c3 : Int) (m : Nat) : ∀ (c1 c4 : Int),
    iter (atHead an114 0 bd114_0) m (fun st N' => exec T an114 (modesOf F) 0 k 36 (S114 k) (E114 K) bd114_0 st N' (outX an114 0 0 N X)) (sh sp114_0 [.val [(0, 0)] (.slice zT1) c0, zi c1, .val [(0, 0)] (.slice zT1) c2, zi c3, zi c4] []) = f114_0d k (fun p1 => N (sh jn114_0 [.val [(0, 0)] (.slice zT1) c0, zi p1] [])) c0 c2 c3 m c1 c4 := by
  induction m with
  | zero => intros; rfl
  | succ m ih =>
    intro c1 c4
    simp only [iter]
    rw [← execS_eq T an114 (modesOf F) 0 k 36 (S114 k) (L114 k K) bd114_0 (cuts_of _ _ _ _ _ _ _ _ bd114_0 (l := [(1000007, sp114_1000007, cd114_1000007)]) (by kernel_rfl) ⟨l114_1000007 k K, trivial⟩)]
    have h := fx2 ih
    simp only [f114_0d]
    rw [← h]
    show _ = _
    kernel_rfl
theorem l114_0 : L114 k K 0 ws rs N X = I114_0 k K ws rs N X := by
  show L114_0 k K ws rs N X = _
  unfold L114_0
  rw [f114_0_def]
  exact onShape_eq (a := aa114_0) (b := ab114_0) (G := fun ws rs => I114_0 k K ws rs N X) (fun x y => Eq.trans (by kernel_rfl) (Eq.trans (i114_0 k K N X x.1 x.2.2.1 x.2.2.2.1 k x.2.1 x.2.2.2.2.1).symm (by kernel_rfl))) ws rs
theorem i114_2 (c0 : List (zL5)) (c1 : Int) (m : Nat) : ∀ (c2 : Int) (c3 : zL6),
    iter (atHead an114 0 bd114_2) m (fun st N' => exec T an114 (modesOf F) 0 k 36 (S114 k) (E114 K) bd114_2 st N' (outX an114 0 2 N X)) (sh sp114_2 [.rw 1, .val [(0, 0)] (.slice zT1) c0, zi c1, zi c2] [zr4 c3]) = f114_2d k (fun p0 => N (sh jn114_2 [.rw 1] [zr4 p0])) c0 c1 m c2 c3 := by
  induction m with
  | zero => intros; rfl
  | succ m ih =>
    intro c2 c3
    simp only [iter]
    rw [← execS_eq T an114 (modesOf F) 0 k 36 (S114 k) (L114 k K) bd114_2 (cuts_of _ _ _ _ _ _ _ _ bd114_2 (l := []) (by kernel_rfl) trivial)]
    have h := fx2 ih
    simp only [f114_2d]
    rw [← h]
    show _ = _
    kernel_rfl
theorem l114_2 : L114 k K 2 ws rs N X = I114_2 k K ws rs N X := by
  show L114_2 k K ws rs N X = _
  unfold L114_2
  rw [f114_2_def]
  exact onShape_eq (a := aa114_2) (b := ab114_2) (G := fun ws rs => I114_2 k K ws rs N X) (fun x y => Eq.trans (by kernel_rfl) (Eq.trans (i114_2 k K N X x.2.1 x.2.2.1 k x.2.2.2.1 y.1).symm (by kernel_rfl))) ws rs
theorem tu114 : tOk (R := R) 114 aa114 ab114 g114 := by
  intro k x y K
  unfold g114
  rw [f114_def]
  cases k with
  | zero => rfl
  | succ k => exact eS Try.f114 an114 0 36 (L114 k K) [(0, sp114_0, cd114_0), (2, sp114_2, cd114_2)] (by kernel_rfl) (S114_eq k) (by kernel_rfl) ⟨l114_0 k K, l114_2 k K, trivial⟩ (by kernel_rfl)
noncomputable def s114 := onS (R := R) aa114 ab114 g114 (fun k => callC T F k 114)
theorem s114_eq : sOk (R := R) s114 114 := onS_eq (fun _ _ _ _ => rfl) tu114
noncomputable abbrev kt115 : zL6 → Option R := (fun z0 => K [] [zr4 z0])
abbrev aa115 : List Sh := [.rw 1, .fn 116 []]
abbrev ab115 : List RSh := [.arr [] zP1]
noncomputable def g115 (k : Nat) (v : Sh.D.DL aa115 × RSh.DL ab115) (K : KT R) : Option R := f115 k v.2.1 (kt115 K)
theorem e115 (k : Nat) (a0 : zL6) (K : KT R) : callC T F k 115 [.rw 1, .fn 116 []] [zr4 a0] K = f115 k a0 (kt115 K) := by
  rw [f115_def]
  cases k with
  | zero => rfl
  | succ k => exact sort_call (m := [.any, .any]) (c := 116) (by kernel_rfl) a0 K
theorem tu115 : tOk (R := R) 115 aa115 ab115 g115 := fun k x y K => e115 k y.1 K
noncomputable def s115 := onS (R := R) aa115 ab115 g115 (fun k => callC T F k 115)
theorem s115_eq : sOk (R := R) s115 115 := onS_eq (fun _ _ _ _ => rfl) tu115
noncomputable abbrev kt86 : zL6 → Option R := (fun z0 => K [.rw 1] [zr4 z0])
abbrev aa86 : List Sh := [.val [(0, 0)] zT1, .val [(0, 0)] zT1]
abbrev ab86 : List RSh := []
noncomputable def g86 (k : Nat) (v : Sh.D.DL aa86 × RSh.DL ab86) (K : KT R) : Option R := f86 k v.1.1 v.1.2.1 (kt86 K)
noncomputable abbrev E86 := ending T Try.f86 an86 0 K
noncomputable def S86 := pickS (R := R) [(114, s114), (115, s115)]
theorem S86_eq : ∀ k, S86 (R := R) k = callC T F k := pickS_eq ⟨s114_eq, s115_eq, trivial⟩
noncomputable abbrev I86_1000009 : Option R := inner T an86 (modesOf F) 0 k 57 (S86 k) (E86 K) cd86_1000009 (sh sp86_1000009 ws rs) N X
abbrev aa86_1000009 : List Sh := [.rw 1, .ptr 2 0, zv, .rw 3, zv, zv, .val [] .bool]
abbrev ab86_1000009 : List RSh := [.arr [] zP1, .vars [zv, zv], .arr [] zP1]
noncomputable def L86_1000009 : Option R :=
  onShape aa86_1000009 ab86_1000009 (fun v => f86_1000009 k (fun p2 => N (sh fi86_9 [.rw 1, .rw 2, zi v.1.2.2.2.2.1, zi v.1.2.2.2.2.2.1] [zr4 p2, zr4 v.2.2.2.1])) v.1.2.2.1 v.1.2.2.2.2.1 v.1.2.2.2.2.2.1 v.1.2.2.2.2.2.2.1 v.2.1 v.2.2.1.1 v.2.2.1.2.1 v.2.2.2.1) (I86_1000009 k K ws rs N X) ws rs
noncomputable abbrev I86_0 : Option R := inner T an86 (modesOf F) 0 k 57 (S86 k) (E86 K) cd86_0 (sh sp86_0 ws rs) N X
abbrev aa86_0 : List Sh := [.rw 1, .rw 2, zv, zv]
abbrev ab86_0 : List RSh := [.arr [] zP1, .arr [] zP1]
noncomputable def L86_0 : Option R :=
  onShape aa86_0 ab86_0 (fun v => f86_0 k (fun p0 => N (sh jn86_0 [.rw 1] [zr4 p0])) v.1.2.2.1 v.2.2.1 k v.1.2.2.2.1 v.2.1) (I86_0 k K ws rs N X) ws rs
noncomputable def L86 : Option R := bif id == 1000009 then L86_1000009 k K ws rs N X else bif id == 0 then L86_0 k K ws rs N X else none
theorem l86_1000009 : L86 k K 1000009 ws rs N X = I86_1000009 k K ws rs N X := by
  show L86_1000009 k K ws rs N X = _
  unfold L86_1000009
  rw [f86_1000009_def]
  exact lC (L86 k K) [] (by kernel_rfl) trivial fun x y => by kernel_rfl
theorem i86_0 (c0 : Int) (c3 : zL6) (m : Nat) : ∀ (c1 : Int) (c2 : zL6),
    iter (atHead an86 0 bd86_0) m (fun st N' => exec T an86 (modesOf F) 0 k 57 (S86 k) (E86 K) bd86_0 st N' (outX an86 0 0 N X)) (sh sp86_0 [.rw 1, .rw 2, zi c0, zi c1] [zr4 c2, zr4 c3]) = f86_0d k (fun p0 => N (sh jn86_0 [.rw 1] [zr4 p0])) c0 c3 m c1 c2 := by
  induction m with
  | zero => intros; rfl
  | succ m ih =>
    intro c1 c2
    simp only [iter]
    rw [← execS_eq T an86 (modesOf F) 0 k 57 (S86 k) (L86 k K) bd86_0 (cuts_of _ _ _ _ _ _ _ _ bd86_0 (l := [(1000009, sp86_1000009, cd86_1000009)]) (by kernel_rfl) ⟨l86_1000009 k K, trivial⟩)]
    have h := fx2 ih
    simp only [f86_0d]
    rw [← h]
    show _ = _
    kernel_rfl
theorem l86_0 : L86 k K 0 ws rs N X = I86_0 k K ws rs N X := by
  show L86_0 k K ws rs N X = _
  unfold L86_0
  rw [f86_0_def]
  exact onShape_eq (a := aa86_0) (b := ab86_0) (G := fun ws rs => I86_0 k K ws rs N X) (fun x y => Eq.trans (by kernel_rfl) (Eq.trans (i86_0 k K N X x.2.2.1 y.2.1 k x.2.2.2.1 y.1).symm (by kernel_rfl))) ws rs
theorem tu86 : tOk (R := R) 86 aa86 ab86 g86 := by
  intro k x y K
  unfold g86
  rw [f86_def]
  cases k with
  | zero => rfl
  | succ k => exact eS Try.f86 an86 0 57 (L86 k K) [(0, sp86_0, cd86_0)] (by kernel_rfl) (S86_eq k) (by kernel_rfl) ⟨l86_0 k K, trivial⟩ (by kernel_rfl)
noncomputable def s86 := onS (R := R) aa86 ab86 g86 (fun k => callC T F k 86)
theorem s86_eq : sOk (R := R) s86 86 := onS_eq (fun _ _ _ _ => rfl) tu86
noncomputable abbrev kt120 : Bool → List Int → zL6 → Option R := (fun z0 z1 z2 => K [.rw 1, .rw 2, .val [] .bool z0] [zr0 z1, zr4 z2])
abbrev aa120 : List Sh := [.val [(0, 0)] zT2, .val [(0, 0)] zT1, zv, .val [(0, 0)] zT2]
abbrev ab120 : List RSh := []
noncomputable def g120 (k : Nat) (v : Sh.D.DL aa120 × RSh.DL ab120) (K : KT R) : Option R := f120 k v.1.1 v.1.2.1 v.1.2.2.1 v.1.2.2.2.1 (kt120 K)
noncomputable abbrev E120 := ending T Try.f120 an120 0 K
noncomputable def S120 := pickS (R := R) [(77, s77), (86, s86), (87, s87), (135, s135)]
theorem S120_eq : ∀ k, S120 (R := R) k = callC T F k := pickS_eq ⟨s77_eq, s86_eq, s87_eq, s135_eq, trivial⟩
noncomputable abbrev I120_1000004 : Option R := inner T an120 (modesOf F) 0 k 80 (S120 k) (E120 K) cd120_1000004 (sh sp120_1000004 ws rs) N X
abbrev aa120_1000004 : List Sh := [.val [(0, 0)] zT2, .val [(0, 0)] zT1, zv, .val [(0, 0)] zT2, zv, .rw 1, .val [] .bool]
abbrev ab120_1000004 : List RSh := [.arr [] (.int .u8)]
noncomputable def L120_1000004 : Option R :=
  onShape aa120_1000004 ab120_1000004 (fun v => f120_1000004 k (fun p5 => N (sh fi120_4 [.val [(0, 0)] zT2 v.1.1, .val [(0, 0)] zT1 v.1.2.1, zi v.1.2.2.1, .val [(0, 0)] zT2 v.1.2.2.2.1, zi v.1.2.2.2.2.1, .rw 1] [zr0 p5])) v.1.1 v.1.2.1 v.1.2.2.1 v.1.2.2.2.1 v.1.2.2.2.2.1 v.1.2.2.2.2.2.2.1 v.2.1) (I120_1000004 k K ws rs N X) ws rs
noncomputable abbrev I120_1000011 : Option R := inner T an120 (modesOf F) 0 k 80 (S120 k) (E120 K) cd120_1000011 (sh sp120_1000011 ws rs) N X
abbrev aa120_1000011 : List Sh := [.val [(0, 0)] zT1, zv, .val [(0, 0)] zT2, zv, .rw 1, .val [] .bool, zv, zv, .rw 2, zv, zv, .val [] .bool]
abbrev ab120_1000011 : List RSh := [.arr [] (.int .u8), .arr [] zP1]
noncomputable def L120_1000011 : Option R :=
  onShape aa120_1000011 ab120_1000011 (fun v => let u0 := v.1.2.2.2.2.2.2.2; f120_1000011 k (fun p4 p7 => N (sh fi120_11 [.val [(0, 0)] zT1 v.1.1, zi v.1.2.1, .val [(0, 0)] zT2 v.1.2.2.1, zi v.1.2.2.2.1, .rw 1, .val [] .bool p4, .rw 2, zi u0.2.2.1, zi u0.2.2.2.1] [zr0 p7, zr4 v.2.2.1])) v.1.1 v.1.2.1 v.1.2.2.1 v.1.2.2.2.1 v.1.2.2.2.2.2.1 v.1.2.2.2.2.2.2.1 v.1.2.2.2.2.2.2.2.1 u0.2.2.1 u0.2.2.2.1 u0.2.2.2.2.1 v.2.1 v.2.2.1) (I120_1000011 k K ws rs N X) ws rs
noncomputable abbrev I120_0 : Option R := inner T an120 (modesOf F) 0 k 80 (S120 k) (E120 K) cd120_0 (sh sp120_0 ws rs) N X
abbrev aa120_0 : List Sh := [.val [(0, 0)] zT1, zv, .val [(0, 0)] zT2, zv, .rw 1, .val [] .bool, .rw 2, zv, zv]
abbrev ab120_0 : List RSh := [.arr [] (.int .u8), .arr [] zP1]
noncomputable def L120_0 : Option R :=
  onShape aa120_0 ab120_0 (fun v => let u0 := v.1.2.2.2.2.2.2.2; f120_0 k (fun p3 p4 => N (sh jn120_0 [.val [(0, 0)] zT1 v.1.1, zi v.1.2.1, zi v.1.2.2.2.1, .rw 1, .val [] .bool p3] [zr0 p4])) v.1.1 v.1.2.1 v.1.2.2.1 v.1.2.2.2.1 v.1.2.2.2.2.2.2.2.1 v.2.2.1 k v.1.2.2.2.2.2.1 u0.2.1 v.2.1) (I120_0 k K ws rs N X) ws rs
noncomputable def L120 : Option R := bif id == 1000004 then L120_1000004 k K ws rs N X else bif id == 1000011 then L120_1000011 k K ws rs N X else bif id == 0 then L120_0 k K ws rs N X else none
theorem l120_1000004 : L120 k K 1000004 ws rs N X = I120_1000004 k K ws rs N X := by
  show L120_1000004 k K ws rs N X = _
  unfold L120_1000004
  rw [f120_1000004_def]
  exact lC (L120 k K) [] (by kernel_rfl) trivial fun x y => by kernel_rfl
theorem l120_1000011 : L120 k K 1000011 ws rs N X = I120_1000011 k K ws rs N X := by
  show L120_1000011 k K ws rs N X = _
  unfold L120_1000011
  rw [f120_1000011_def]
  exact lC (L120 k K) [] (by kernel_rfl) trivial fun x y => by kernel_rfl
theorem i120_0 (c0 : zL5) (c1 : Int) (c2 : List Int) (c3 c5 : Int) (c8 : zL6) (m : Nat) : ∀ (c4 : Bool) (c6 : Int) (c7 : List Int),
    iter (atHead an120 0 bd120_0) m (fun st N' => exec T an120 (modesOf F) 0 k 80 (S120 k) (E120 K) bd120_0 st N' (outX an120 0 0 N X)) (sh sp120_0 [.val [(0, 0)] zT1 c0, zi c1, .val [(0, 0)] zT2 c2, zi c3, .rw 1, .val [] .bool c4, .rw 2, zi c5, zi c6] [zr0 c7, zr4 c8]) = f120_0d k (fun p3 p4 => N (sh jn120_0 [.val [(0, 0)] zT1 c0, zi c1, zi c3, .rw 1, .val [] .bool p3] [zr0 p4])) c0 c1 c2 c3 c5 c8 m c4 c6 c7 := by
  induction m with
  | zero => intros; rfl
  | succ m ih =>
    intro c4 c6 c7
    simp only [iter]
    rw [← execS_eq T an120 (modesOf F) 0 k 80 (S120 k) (L120 k K) bd120_0 (cuts_of _ _ _ _ _ _ _ _ bd120_0 (l := [(1000011, sp120_1000011, cd120_1000011)]) (by kernel_rfl) ⟨l120_1000011 k K, trivial⟩)]
    have h := fx3 ih
    simp only [f120_0d]
    rw [← h]
    show _ = _
    kernel_rfl
theorem l120_0 : L120 k K 0 ws rs N X = I120_0 k K ws rs N X := by
  show L120_0 k K ws rs N X = _
  unfold L120_0
  rw [f120_0_def]
  exact onShape_eq (a := aa120_0) (b := ab120_0) (G := fun ws rs => I120_0 k K ws rs N X) (fun x y => Eq.trans (by kernel_rfl) (Eq.trans (i120_0 k K N X x.1 x.2.1 x.2.2.1 x.2.2.2.1 x.2.2.2.2.2.2.2.1 y.2.1 k x.2.2.2.2.2.1 x.2.2.2.2.2.2.2.2.1 y.1).symm (by kernel_rfl))) ws rs
theorem tu120 : tOk (R := R) 120 aa120 ab120 g120 := by
  intro k x y K
  unfold g120
  rw [f120_def]
  cases k with
  | zero => rfl
  | succ k => exact eS Try.f120 an120 0 80 (L120 k K) [(1000004, sp120_1000004, cd120_1000004), (0, sp120_0, cd120_0)] (by kernel_rfl) (S120_eq k) (by kernel_rfl) ⟨l120_1000004 k K, l120_0 k K, trivial⟩ (by kernel_rfl)
noncomputable def s120 := onS (R := R) aa120 ab120 g120 (fun k => callC T F k 120)
theorem s120_eq : sOk (R := R) s120 120 := onS_eq (fun _ _ _ _ => rfl) tu120
noncomputable abbrev kt95 : zL6 → Option R := (fun z0 => K [.rw 1] [zr4 z0])
abbrev aa95 : List Sh := [.agg [zv, zv, .val [] .str, .val [(0, 0)] zT2, .val [(0, 0)] zT1, zv, zv, zv, zv]]
abbrev ab95 : List RSh := []
noncomputable def g95 (k : Nat) (v : Sh.D.DL aa95 × RSh.DL ab95) (K : KT R) : Option R := let u0 := v.1.1.2.2.2.2.2.2.2; f95 k v.1.1.1 v.1.1.2.1 v.1.1.2.2.1 v.1.1.2.2.2.1 v.1.1.2.2.2.2.1 v.1.1.2.2.2.2.2.1 v.1.1.2.2.2.2.2.2.1 v.1.1.2.2.2.2.2.2.2.1 u0.2.1 (kt95 K)
noncomputable abbrev E95 := ending T Try.f95 an95 0 K
noncomputable def S95 := pickS (R := R) [(87, s87)]
theorem S95_eq : ∀ k, S95 (R := R) k = callC T F k := pickS_eq ⟨s87_eq, trivial⟩
theorem tu95 : tOk (R := R) 95 aa95 ab95 g95 := by
  intro k x y K
  unfold g95
  rw [f95_def]
  cases k with
  | zero => rfl
  | succ k => exact eS Try.f95 an95 0 8 L0 [] (by kernel_rfl) (S95_eq k) (by kernel_rfl) trivial (by kernel_rfl)
noncomputable def s95 := onS (R := R) aa95 ab95 g95 (fun k => callC T F k 95)
theorem s95_eq : sOk (R := R) s95 95 := onS_eq (fun _ _ _ _ => rfl) tu95
noncomputable abbrev kt104 : Int → Int → Option R := (fun z0 z1 => K [.agg [zi z0, zi z1]] [])
abbrev aa104 : List Sh := []
abbrev ab104 : List RSh := []
noncomputable def g104 (k : Nat) (v : Sh.D.DL aa104 × RSh.DL ab104) (K : KT R) : Option R := f104 k (kt104 K)
noncomputable abbrev E104 := ending T Try.f104 an104 0 K
noncomputable def S104 := pickS (R := R) []
theorem S104_eq : ∀ k, S104 (R := R) k = callC T F k := pickS_eq trivial
theorem tu104 : tOk (R := R) 104 aa104 ab104 g104 := by
  intro k x y K
  unfold g104
  rw [f104_def]
  cases k with
  | zero => rfl
  | succ k => exact eS Try.f104 an104 0 2 L0 [] (by kernel_rfl) (S104_eq k) (by kernel_rfl) trivial (by kernel_rfl)
noncomputable def s104 := onS (R := R) aa104 ab104 g104 (fun k => callC T F k 104)
theorem s104_eq : sOk (R := R) s104 104 := onS_eq (fun _ _ _ _ => rfl) tu104
noncomputable abbrev kt131 : zL5 → Option R := (fun z0 => K [.val [(0, 0)] zT1 z0] [])
abbrev aa131 : List Sh := [.val [(0, 0)] zT1, .val [] .bool]
abbrev ab131 : List RSh := []
noncomputable def g131 (k : Nat) (v : Sh.D.DL aa131 × RSh.DL ab131) (K : KT R) : Option R := f131 k v.1.1 v.1.2.1 (kt131 K)
noncomputable abbrev E131 := ending T Try.f131 an131 0 K
noncomputable def S131 := pickS (R := R) [(104, s104), (114, s114)]
theorem S131_eq : ∀ k, S131 (R := R) k = callC T F k := pickS_eq ⟨s104_eq, s114_eq, trivial⟩
theorem tu131 : tOk (R := R) 131 aa131 ab131 g131 := by
  intro k x y K
  unfold g131
  rw [f131_def]
  cases k with
  | zero => rfl
  | succ k => exact eS Try.f131 an131 0 12 L0 [] (by kernel_rfl) (S131_eq k) (by kernel_rfl) trivial (by kernel_rfl)
noncomputable def s131 := onS (R := R) aa131 ab131 g131 (fun k => callC T F k 131)
theorem s131_eq : sOk (R := R) s131 131 := onS_eq (fun _ _ _ _ => rfl) tu131
noncomputable abbrev kt112 : zL5 → Int → Option R := (fun z0 z1 => K [.val [(0, 0)] zT1 z0, zi z1] [])
abbrev aa112 : List Sh := [.agg [zv, zv, .val [] .str, .val [(0, 0)] zT2, .val [(0, 0)] zT1, zv, zv, zv, zv]]
abbrev ab112 : List RSh := []
noncomputable def g112 (k : Nat) (v : Sh.D.DL aa112 × RSh.DL ab112) (K : KT R) : Option R := let u0 := v.1.1.2.2.2.2.2.2.2; f112 k v.1.1.1 v.1.1.2.1 v.1.1.2.2.1 v.1.1.2.2.2.1 v.1.1.2.2.2.2.1 v.1.1.2.2.2.2.2.1 v.1.1.2.2.2.2.2.2.1 v.1.1.2.2.2.2.2.2.2.1 u0.2.1 (kt112 K)
noncomputable abbrev E112 := ending T Try.f112 an112 0 K
noncomputable def S112 := pickS (R := R) [(95, s95), (131, s131)]
theorem S112_eq : ∀ k, S112 (R := R) k = callC T F k := pickS_eq ⟨s95_eq, s131_eq, trivial⟩
theorem tu112 : tOk (R := R) 112 aa112 ab112 g112 := by
  intro k x y K
  unfold g112
  rw [f112_def]
  cases k with
  | zero => rfl
  | succ k => exact eS Try.f112 an112 0 15 L0 [] (by kernel_rfl) (S112_eq k) (by kernel_rfl) trivial (by kernel_rfl)
noncomputable def s112 := onS (R := R) aa112 ab112 g112 (fun k => callC T F k 112)
theorem s112_eq : sOk (R := R) s112 112 := onS_eq (fun _ _ _ _ => rfl) tu112
noncomputable abbrev kt92 : zK2 R := (fun z0 z1 z2 z3 z4 z5 z6 z7 z8 z9 z10 => K [.agg [zi z0, zi z1, .val [] .str z2, .val [(0, 0)] zT2 z3, .val [(0, 0)] zT1 z4, zi z5, zi z6, zi z7, zi z8], .rw 1, zi z9] [zr3 z10])
abbrev aa92 : List Sh := [.agg [zv, zv, zv, zv, zv], .agg [zv, zv, .val [] .str, .val [(0, 0)] zT2, .val [(0, 0)] zT1, zv, zv, zv, zv], .agg [zv, zv, .val [] .str, zv, zv, zv, .val [(0, 0)] zT2, .val [(0, 0)] zT1, .val [] .bool]]
abbrev ab92 : List RSh := []
noncomputable def g92 (k : Nat) (v : Sh.D.DL aa92 × RSh.DL ab92) (K : KT R) : Option R := let u0 := v.1.2.1.2.2.2.2.2.2.2; let u1 := v.1.2.2.1.2.2.2.2.2.2.2; f92 k v.1.1.1 v.1.1.2.1 v.1.1.2.2.1 v.1.1.2.2.2.1 v.1.1.2.2.2.2.1 v.1.2.1.1 v.1.2.1.2.1 v.1.2.1.2.2.1 v.1.2.1.2.2.2.1 v.1.2.1.2.2.2.2.1 v.1.2.1.2.2.2.2.2.1 v.1.2.1.2.2.2.2.2.2.1 v.1.2.1.2.2.2.2.2.2.2.1 u0.2.1 v.1.2.2.1.1 v.1.2.2.1.2.1 v.1.2.2.1.2.2.1 v.1.2.2.1.2.2.2.1 v.1.2.2.1.2.2.2.2.1 v.1.2.2.1.2.2.2.2.2.1 v.1.2.2.1.2.2.2.2.2.2.1 v.1.2.2.1.2.2.2.2.2.2.2.1 u1.2.1 (kt92 K)
noncomputable abbrev E92 := ending T Try.f92 an92 0 K
noncomputable def S92 := pickS (R := R) [(64, s64), (95, s95), (112, s112), (119, s119), (120, s120)]
theorem S92_eq : ∀ k, S92 (R := R) k = callC T F k := pickS_eq ⟨s64_eq, s95_eq, s112_eq, s119_eq, s120_eq, trivial⟩
noncomputable abbrev I92_1000018 : Option R := inner T an92 (modesOf F) 0 k 169 (S92 k) (E92 K) cd92_1000018 (sh sp92_1000018 ws rs) N X
abbrev aa92_1000018 : List Sh := [.ptr 1 0, .ptr 2 0, .ptr 5 0, .ptr 6 0, .val [] .bool]
abbrev ab92_1000018 : List RSh := [zs2, .vars [zv, zv, .val [] .str, .rw 3, .rw 4, zv, zv, zv, zv], .arr [] (.int .u8), .arr [] zP1, zs3, zs4]
noncomputable def L92_1000018 : Option R :=
  onShape aa92_1000018 ab92_1000018 (fun v => let u0 := v.2.2.1.2.2.2.2.2.2.2; let u1 := v.2.2.2.2.2.1.2.2.2.2.2.2.2; let u2 := v.2.2.2.2.2.2.1.2.2.2.2.2.2.2; f92_1000018 k (fun p11 => N (sh fi92_18 [.ptr 1 0, .ptr 2 0, .ptr 5 0, .ptr 6 0] [⟨0, .vars [zi v.2.1.1, zi v.2.1.2.1, zi v.2.1.2.2.1, zi v.2.1.2.2.2.1, zi v.2.1.2.2.2.2.1]⟩, ⟨0, .vars [zi v.2.2.1.1, zi v.2.2.1.2.1, .val [] .str v.2.2.1.2.2.1, .rw 3, .rw 4, zi v.2.2.1.2.2.2.2.2.1, zi v.2.2.1.2.2.2.2.2.2.1, zi v.2.2.1.2.2.2.2.2.2.2.1, zi p11]⟩, zr0 v.2.2.2.1, zr4 v.2.2.2.2.1, zr5 v.2.2.2.2.2.1.1 v.2.2.2.2.2.1.2.1 v.2.2.2.2.2.1.2.2.1 v.2.2.2.2.2.1.2.2.2.1 v.2.2.2.2.2.1.2.2.2.2.1 v.2.2.2.2.2.1.2.2.2.2.2.1 v.2.2.2.2.2.1.2.2.2.2.2.2.1 v.2.2.2.2.2.1.2.2.2.2.2.2.2.1 u1.2.1, zr6 v.2.2.2.2.2.2.1.1 v.2.2.2.2.2.2.1.2.1 v.2.2.2.2.2.2.1.2.2.1 v.2.2.2.2.2.2.1.2.2.2.2.2.1 v.2.2.2.2.2.2.1.2.2.2.2.2.2.1 v.2.2.2.2.2.2.1.2.2.2.2.2.2.2.1 u2.2.1])) v.1.2.2.2.2.1 v.2.1.1 v.2.1.2.1 v.2.1.2.2.1 v.2.1.2.2.2.1 v.2.1.2.2.2.2.1 v.2.2.1.1 v.2.2.1.2.1 v.2.2.1.2.2.1 v.2.2.1.2.2.2.2.2.1 v.2.2.1.2.2.2.2.2.2.1 v.2.2.1.2.2.2.2.2.2.2.1 u0.2.1 v.2.2.2.1 v.2.2.2.2.1 v.2.2.2.2.2.1.1 v.2.2.2.2.2.1.2.1 v.2.2.2.2.2.1.2.2.1 v.2.2.2.2.2.1.2.2.2.1 v.2.2.2.2.2.1.2.2.2.2.1 v.2.2.2.2.2.1.2.2.2.2.2.1 v.2.2.2.2.2.1.2.2.2.2.2.2.1 v.2.2.2.2.2.1.2.2.2.2.2.2.2.1 u1.2.1 v.2.2.2.2.2.2.1.1 v.2.2.2.2.2.2.1.2.1 v.2.2.2.2.2.2.1.2.2.1 v.2.2.2.2.2.2.1.2.2.2.2.2.1 v.2.2.2.2.2.2.1.2.2.2.2.2.2.1 v.2.2.2.2.2.2.1.2.2.2.2.2.2.2.1 u2.2.1) (I92_1000018 k K ws rs N X) ws rs
noncomputable abbrev I92_1000023 : Option R := inner T an92 (modesOf F) 0 k 169 (S92 k) (E92 K) cd92_1000023 (sh sp92_1000023 ws rs) N X
abbrev aa92_1000023 : List Sh := [.ptr 1 0, .ptr 2 0, .ptr 3 0, .ptr 4 0, .val [] .bool]
abbrev ab92_1000023 : List RSh := [zs2, zs5, zs3, zs4]
noncomputable def L92_1000023 : Option R :=
  onShape aa92_1000023 ab92_1000023 (fun v => let u0 := v.2.2.1.2.2.2.2.2.2.2; let u1 := v.2.2.2.1.2.2.2.2.2.2.2; let u2 := v.2.2.2.2.1.2.2.2.2.2.2.2; f92_1000023 k (fun p7 => N (sh fi92_23 [.ptr 1 0, .ptr 2 0, .ptr 3 0, .ptr 4 0] [⟨0, .vars [zi v.2.1.1, zi v.2.1.2.1, zi v.2.1.2.2.1, zi v.2.1.2.2.2.1, zi v.2.1.2.2.2.2.1]⟩, zr7 v.2.2.1.1 v.2.2.1.2.1 p7 v.2.2.1.2.2.2.1 v.2.2.1.2.2.2.2.1 v.2.2.1.2.2.2.2.2.1 v.2.2.1.2.2.2.2.2.2.1 v.2.2.1.2.2.2.2.2.2.2.1 u0.2.1, zr5 v.2.2.2.1.1 v.2.2.2.1.2.1 v.2.2.2.1.2.2.1 v.2.2.2.1.2.2.2.1 v.2.2.2.1.2.2.2.2.1 v.2.2.2.1.2.2.2.2.2.1 v.2.2.2.1.2.2.2.2.2.2.1 v.2.2.2.1.2.2.2.2.2.2.2.1 u1.2.1, zr6 v.2.2.2.2.1.1 v.2.2.2.2.1.2.1 v.2.2.2.2.1.2.2.1 v.2.2.2.2.1.2.2.2.2.2.1 v.2.2.2.2.1.2.2.2.2.2.2.1 v.2.2.2.2.1.2.2.2.2.2.2.2.1 u2.2.1])) v.1.2.2.2.2.1 v.2.1.1 v.2.1.2.1 v.2.1.2.2.1 v.2.1.2.2.2.1 v.2.1.2.2.2.2.1 v.2.2.1.1 v.2.2.1.2.1 v.2.2.1.2.2.1 v.2.2.1.2.2.2.1 v.2.2.1.2.2.2.2.1 v.2.2.1.2.2.2.2.2.1 v.2.2.1.2.2.2.2.2.2.1 v.2.2.1.2.2.2.2.2.2.2.1 u0.2.1 v.2.2.2.1.1 v.2.2.2.1.2.1 v.2.2.2.1.2.2.1 v.2.2.2.1.2.2.2.1 v.2.2.2.1.2.2.2.2.1 v.2.2.2.1.2.2.2.2.2.1 v.2.2.2.1.2.2.2.2.2.2.1 v.2.2.2.1.2.2.2.2.2.2.2.1 u1.2.1 v.2.2.2.2.1.1 v.2.2.2.2.1.2.1 v.2.2.2.2.1.2.2.1 v.2.2.2.2.1.2.2.2.2.2.1 v.2.2.2.2.1.2.2.2.2.2.2.1 v.2.2.2.2.1.2.2.2.2.2.2.2.1 u2.2.1) (I92_1000023 k K ws rs N X) ws rs
noncomputable abbrev I92_1000015 : Option R := inner T an92 (modesOf F) 0 k 169 (S92 k) (E92 K) cd92_1000015 (sh sp92_1000015 ws rs) N X
abbrev aa92_1000015 : List Sh := [.ptr 1 0, .ptr 2 0, .ptr 3 0, .ptr 4 0, .val [] .bool]
abbrev ab92_1000015 : List RSh := [zs2, zs5, zs3, zs4]
noncomputable def L92_1000015 : Option R :=
  onShape aa92_1000015 ab92_1000015 (fun v => let u0 := v.2.2.1.2.2.2.2.2.2.2; let u1 := v.2.2.2.1.2.2.2.2.2.2.2; let u2 := v.2.2.2.2.1.2.2.2.2.2.2.2; f92_1000015 k (kt92 K) (fun p7 p8 p9 p10 p11 p13 => N (sh fi92_15 [.ptr 1 0, .ptr 2 0, .ptr 3 0, .ptr 4 0] [⟨0, .vars [zi v.2.1.1, zi v.2.1.2.1, zi v.2.1.2.2.1, zi v.2.1.2.2.2.1, zi v.2.1.2.2.2.2.1]⟩, zr7 v.2.2.1.1 v.2.2.1.2.1 p7 p8 p9 p10 p11 v.2.2.1.2.2.2.2.2.2.2.1 p13, zr5 v.2.2.2.1.1 v.2.2.2.1.2.1 v.2.2.2.1.2.2.1 v.2.2.2.1.2.2.2.1 v.2.2.2.1.2.2.2.2.1 v.2.2.2.1.2.2.2.2.2.1 v.2.2.2.1.2.2.2.2.2.2.1 v.2.2.2.1.2.2.2.2.2.2.2.1 u1.2.1, zr6 v.2.2.2.2.1.1 v.2.2.2.2.1.2.1 v.2.2.2.2.1.2.2.1 v.2.2.2.2.1.2.2.2.2.2.1 v.2.2.2.2.1.2.2.2.2.2.2.1 v.2.2.2.2.1.2.2.2.2.2.2.2.1 u2.2.1])) v.1.2.2.2.2.1 v.2.1.1 v.2.1.2.1 v.2.1.2.2.1 v.2.1.2.2.2.1 v.2.1.2.2.2.2.1 v.2.2.1.1 v.2.2.1.2.1 v.2.2.1.2.2.1 v.2.2.1.2.2.2.1 v.2.2.1.2.2.2.2.1 v.2.2.1.2.2.2.2.2.1 v.2.2.1.2.2.2.2.2.2.1 v.2.2.1.2.2.2.2.2.2.2.1 u0.2.1 v.2.2.2.1.1 v.2.2.2.1.2.1 v.2.2.2.1.2.2.1 v.2.2.2.1.2.2.2.1 v.2.2.2.1.2.2.2.2.1 v.2.2.2.1.2.2.2.2.2.1 v.2.2.2.1.2.2.2.2.2.2.1 v.2.2.2.1.2.2.2.2.2.2.2.1 u1.2.1 v.2.2.2.2.1.1 v.2.2.2.2.1.2.1 v.2.2.2.2.1.2.2.1 v.2.2.2.2.1.2.2.2.2.2.1 v.2.2.2.2.1.2.2.2.2.2.2.1 v.2.2.2.2.1.2.2.2.2.2.2.2.1 u2.2.1) (I92_1000015 k K ws rs N X) ws rs
noncomputable abbrev I92_1000025 : Option R := inner T an92 (modesOf F) 0 k 169 (S92 k) (E92 K) cd92_1000025 (sh sp92_1000025 ws rs) N X
abbrev aa92_1000025 : List Sh := [.ptr 1 0, .ptr 2 0, .ptr 3 0, .ptr 4 0, .val [] .bool]
abbrev ab92_1000025 : List RSh := [zs2, zs5, zs3, zs4]
noncomputable def L92_1000025 : Option R :=
  onShape aa92_1000025 ab92_1000025 (fun v => let u0 := v.2.2.1.2.2.2.2.2.2.2; let u1 := v.2.2.2.1.2.2.2.2.2.2.2; let u2 := v.2.2.2.2.1.2.2.2.2.2.2.2; f92_1000025 k (fun p5 => N (sh fi92_25 [.ptr 1 0, .ptr 2 0, .ptr 3 0, .ptr 4 0] [⟨0, .vars [zi v.2.1.1, zi v.2.1.2.1, zi v.2.1.2.2.1, zi v.2.1.2.2.2.1, zi v.2.1.2.2.2.2.1]⟩, zr7 p5 v.2.2.1.2.1 v.2.2.1.2.2.1 v.2.2.1.2.2.2.1 v.2.2.1.2.2.2.2.1 v.2.2.1.2.2.2.2.2.1 v.2.2.1.2.2.2.2.2.2.1 v.2.2.1.2.2.2.2.2.2.2.1 u0.2.1, zr5 v.2.2.2.1.1 v.2.2.2.1.2.1 v.2.2.2.1.2.2.1 v.2.2.2.1.2.2.2.1 v.2.2.2.1.2.2.2.2.1 v.2.2.2.1.2.2.2.2.2.1 v.2.2.2.1.2.2.2.2.2.2.1 v.2.2.2.1.2.2.2.2.2.2.2.1 u1.2.1, zr6 v.2.2.2.2.1.1 v.2.2.2.2.1.2.1 v.2.2.2.2.1.2.2.1 v.2.2.2.2.1.2.2.2.2.2.1 v.2.2.2.2.1.2.2.2.2.2.2.1 v.2.2.2.2.1.2.2.2.2.2.2.2.1 u2.2.1])) v.1.2.2.2.2.1 v.2.1.1 v.2.1.2.1 v.2.1.2.2.1 v.2.1.2.2.2.1 v.2.1.2.2.2.2.1 v.2.2.1.1 v.2.2.1.2.1 v.2.2.1.2.2.1 v.2.2.1.2.2.2.1 v.2.2.1.2.2.2.2.1 v.2.2.1.2.2.2.2.2.1 v.2.2.1.2.2.2.2.2.2.1 v.2.2.1.2.2.2.2.2.2.2.1 u0.2.1 v.2.2.2.1.1 v.2.2.2.1.2.1 v.2.2.2.1.2.2.1 v.2.2.2.1.2.2.2.1 v.2.2.2.1.2.2.2.2.1 v.2.2.2.1.2.2.2.2.2.1 v.2.2.2.1.2.2.2.2.2.2.1 v.2.2.2.1.2.2.2.2.2.2.2.1 u1.2.1 v.2.2.2.2.1.1 v.2.2.2.2.1.2.1 v.2.2.2.2.1.2.2.1 v.2.2.2.2.1.2.2.2.2.2.1 v.2.2.2.2.1.2.2.2.2.2.2.1 v.2.2.2.2.1.2.2.2.2.2.2.2.1 u2.2.1) (I92_1000025 k K ws rs N X) ws rs
noncomputable abbrev I92_1000030 : Option R := inner T an92 (modesOf F) 0 k 169 (S92 k) (E92 K) cd92_1000030 (sh sp92_1000030 ws rs) N X
abbrev aa92_1000030 : List Sh := [.ptr 1 0, .ptr 2 0, .val [] .bool, .val [] .bool]
abbrev ab92_1000030 : List RSh := [zs5, zs4]
noncomputable def L92_1000030 : Option R :=
  onShape aa92_1000030 ab92_1000030 (fun v => let u0 := v.2.1.2.2.2.2.2.2.2; let u1 := v.2.2.1.2.2.2.2.2.2.2; f92_1000030 k (fun p1 => N (sh fi92_30 [.ptr 1 0, .ptr 2 0, .val [] .bool v.1.2.2.1] [zr7 p1 v.2.1.2.1 v.2.1.2.2.1 v.2.1.2.2.2.1 v.2.1.2.2.2.2.1 v.2.1.2.2.2.2.2.1 v.2.1.2.2.2.2.2.2.1 v.2.1.2.2.2.2.2.2.2.1 u0.2.1, zr6 v.2.2.1.1 v.2.2.1.2.1 v.2.2.1.2.2.1 v.2.2.1.2.2.2.2.2.1 v.2.2.1.2.2.2.2.2.2.1 v.2.2.1.2.2.2.2.2.2.2.1 u1.2.1])) v.1.2.2.1 v.1.2.2.2.1 v.2.1.1 v.2.1.2.1 v.2.1.2.2.1 v.2.1.2.2.2.1 v.2.1.2.2.2.2.1 v.2.1.2.2.2.2.2.1 v.2.1.2.2.2.2.2.2.1 v.2.1.2.2.2.2.2.2.2.1 u0.2.1 v.2.2.1.1 v.2.2.1.2.1 v.2.2.1.2.2.1 v.2.2.1.2.2.2.2.2.1 v.2.2.1.2.2.2.2.2.2.1 v.2.2.1.2.2.2.2.2.2.2.1 u1.2.1) (I92_1000030 k K ws rs N X) ws rs
noncomputable def L92 : Option R := bif id == 1000018 then L92_1000018 k K ws rs N X else bif id == 1000023 then L92_1000023 k K ws rs N X else bif id == 1000015 then L92_1000015 k K ws rs N X else bif id == 1000025 then L92_1000025 k K ws rs N X else bif id == 1000030 then L92_1000030 k K ws rs N X else none
theorem l92_1000018 : L92 k K 1000018 ws rs N X = I92_1000018 k K ws rs N X := by
  show L92_1000018 k K ws rs N X = _
  unfold L92_1000018
  rw [f92_1000018_def]
  exact lC (L92 k K) [] (by kernel_rfl) trivial fun x y => by kernel_rfl
theorem l92_1000023 : L92 k K 1000023 ws rs N X = I92_1000023 k K ws rs N X := by
  show L92_1000023 k K ws rs N X = _
  unfold L92_1000023
  rw [f92_1000023_def]
  exact lC (L92 k K) [] (by kernel_rfl) trivial fun x y => by kernel_rfl
theorem l92_1000015 : L92 k K 1000015 ws rs N X = I92_1000015 k K ws rs N X := by
  show L92_1000015 k K ws rs N X = _
  unfold L92_1000015
  rw [f92_1000015_def]
  exact lC (L92 k K) [(1000018, sp92_1000018, cd92_1000018), (1000023, sp92_1000023, cd92_1000023)] (by kernel_rfl) ⟨l92_1000018 k K, l92_1000023 k K, trivial⟩ fun x y => by kernel_rfl
theorem l92_1000025 : L92 k K 1000025 ws rs N X = I92_1000025 k K ws rs N X := by
  show L92_1000025 k K ws rs N X = _
  unfold L92_1000025
  rw [f92_1000025_def]
  exact lC (L92 k K) [] (by kernel_rfl) trivial fun x y => by kernel_rfl
theorem l92_1000030 : L92 k K 1000030 ws rs N X = I92_1000030 k K ws rs N X := by
  show L92_1000030 k K ws rs N X = _
  unfold L92_1000030
  rw [f92_1000030_def]
  exact lC (L92 k K) [] (by kernel_rfl) trivial fun x y => by kernel_rfl
theorem tu92 : tOk (R := R) 92 aa92 ab92 g92 := by
  intro k x y K
  unfold g92
  rw [f92_def]
  cases k with
  | zero => rfl
  | succ k => exact eS Try.f92 an92 0 169 (L92 k K) [(1000015, sp92_1000015, cd92_1000015), (1000025, sp92_1000025, cd92_1000025), (1000030, sp92_1000030, cd92_1000030)] (by kernel_rfl) (S92_eq k) (by kernel_rfl) ⟨l92_1000015 k K, l92_1000025 k K, l92_1000030 k K, trivial⟩ (by kernel_rfl)
noncomputable def s92 := onS (R := R) aa92 ab92 g92 (fun k => callC T F k 92)
theorem s92_eq : sOk (R := R) s92 92 := onS_eq (fun _ _ _ _ => rfl) tu92
noncomputable abbrev kt124 : zK3 R := (fun z0 z1 z2 z3 z4 z5 z6 z7 z8 z9 z10 z11 z12 z13 z14 z15 z16 z17 z18 z19 z20 z21 z22 z23 z24 z25 z26 z27 z28 => K [] [zr1 z0 z1 z2 z3 z4 z5 z6 z7 z8 z9 z10 z11 z12 z13 z14 z15 z16 z17 z18 z19 z20 z21 z22 z23 z24 z25 z26, ⟨0, .gone⟩, ⟨0, .gone⟩, zr2 z27, zr2 z28])
abbrev aa124 : List Sh := [.ptr 1 25, zv, .val [(0, 0)] (.slice zP0)]
abbrev ab124 : List RSh := [zs0, .arr [(0, 0)] zP2, .arr [(0, 0)] zP2]
noncomputable def g124 (k : Nat) (v : Sh.D.DL aa124 × RSh.DL ab124) (K : KT R) : Option R := let u0 := v.2.1.2.2.2.2.2.2.2; let u1 := u0.2.2.2.2.2.2.2; let u2 := u1.2.2.2.2.2.2.2; f124 k v.1.2.1 v.1.2.2.1 v.2.1.1 v.2.1.2.1 v.2.1.2.2.1 v.2.1.2.2.2.1 v.2.1.2.2.2.2.1 v.2.1.2.2.2.2.2.1 v.2.1.2.2.2.2.2.2.1 v.2.1.2.2.2.2.2.2.2.1 u0.2.1 u0.2.2.1 u0.2.2.2.1 u0.2.2.2.2.1 u0.2.2.2.2.2.1 u0.2.2.2.2.2.2.1 u0.2.2.2.2.2.2.2.1 u1.2.1 u1.2.2.1 u1.2.2.2.1 u1.2.2.2.2.1 u1.2.2.2.2.2.1 u1.2.2.2.2.2.2.1 u1.2.2.2.2.2.2.2.1 u2.2.1 u2.2.2.1 u2.2.2.2.2.1 u2.2.2.2.2.2.1 u2.2.2.2.2.2.2.2.1 v.2.2.1 v.2.2.2.1 (kt124 K)
noncomputable abbrev E124 := ending T Try.f124 an124 3 K
noncomputable def S124 := pickS (R := R) []
theorem S124_eq : ∀ k, S124 (R := R) k = callC T F k := pickS_eq trivial
noncomputable abbrev I124_1000004 : Option R := inner T an124 (modesOf F) 3 k 57 (S124 k) (E124 K) cd124_1000004 (sh sp124_1000004 ws rs) N X
abbrev aa124_1000004 : List Sh := [.ptr 1 25, zv, .ptr 6 0, .val [(0, 0)] (.slice zP0), zv, zv, .val [] .bool]
abbrev ab124_1000004 : List RSh := [zs1, .gone, .gone, .arr [(0, 0)] zP2, .arr [(0, 0)] zP2, zs3]
noncomputable def L124_1000004 : Option R :=
  onShape aa124_1000004 ab124_1000004 (fun v => let u0 := v.2.1.2.2.2.2.2.2.2; let u1 := u0.2.2.2.2.2.2.2; let u2 := u1.2.2.2.2.2.2.2; let u3 := v.2.2.2.2.2.2.1.2.2.2.2.2.2.2; f124_1000004 k (fun p32 => N (sh fi124_4 [.ptr 1 25, zi v.1.2.1, .val [(0, 0)] (.slice zP0) v.1.2.2.2.1, zi v.1.2.2.2.2.1, zi v.1.2.2.2.2.2.1] [zr1 v.2.1.1 v.2.1.2.1 v.2.1.2.2.1 v.2.1.2.2.2.1 v.2.1.2.2.2.2.1 v.2.1.2.2.2.2.2.1 v.2.1.2.2.2.2.2.2.1 v.2.1.2.2.2.2.2.2.2.1 u0.2.1 u0.2.2.1 u0.2.2.2.1 u0.2.2.2.2.1 u0.2.2.2.2.2.1 u0.2.2.2.2.2.2.1 u0.2.2.2.2.2.2.2.1 u1.2.1 u1.2.2.1 u1.2.2.2.1 u1.2.2.2.2.1 u1.2.2.2.2.2.1 u1.2.2.2.2.2.2.1 u1.2.2.2.2.2.2.2.1 u2.2.1 u2.2.2.1 u2.2.2.2.2.1 u2.2.2.2.2.2.1 u2.2.2.2.2.2.2.2.1, ⟨0, .gone⟩, ⟨0, .gone⟩, zr2 v.2.2.2.2.1, zr2 p32])) v.1.2.1 v.1.2.2.2.1 v.1.2.2.2.2.1 v.1.2.2.2.2.2.1 v.1.2.2.2.2.2.2.1 v.2.1.1 v.2.1.2.1 v.2.1.2.2.1 v.2.1.2.2.2.1 v.2.1.2.2.2.2.1 v.2.1.2.2.2.2.2.1 v.2.1.2.2.2.2.2.2.1 v.2.1.2.2.2.2.2.2.2.1 u0.2.1 u0.2.2.1 u0.2.2.2.1 u0.2.2.2.2.1 u0.2.2.2.2.2.1 u0.2.2.2.2.2.2.1 u0.2.2.2.2.2.2.2.1 u1.2.1 u1.2.2.1 u1.2.2.2.1 u1.2.2.2.2.1 u1.2.2.2.2.2.1 u1.2.2.2.2.2.2.1 u1.2.2.2.2.2.2.2.1 u2.2.1 u2.2.2.1 u2.2.2.2.2.1 u2.2.2.2.2.2.1 u2.2.2.2.2.2.2.2.1 v.2.2.2.2.1 v.2.2.2.2.2.1 v.2.2.2.2.2.2.1.1 v.2.2.2.2.2.2.1.2.1 v.2.2.2.2.2.2.1.2.2.1 v.2.2.2.2.2.2.1.2.2.2.1 v.2.2.2.2.2.2.1.2.2.2.2.1 v.2.2.2.2.2.2.1.2.2.2.2.2.1 v.2.2.2.2.2.2.1.2.2.2.2.2.2.1 v.2.2.2.2.2.2.1.2.2.2.2.2.2.2.1 u3.2.1) (I124_1000004 k K ws rs N X) ws rs
noncomputable abbrev I124_0 : Option R := inner T an124 (modesOf F) 3 k 57 (S124 k) (E124 K) cd124_0 (sh sp124_0 ws rs) N X
abbrev aa124_0 : List Sh := [.ptr 1 25, zv, .val [(0, 0)] (.slice zP0), zv, zv]
abbrev ab124_0 : List RSh := [zs1, .gone, .gone, .arr [(0, 0)] zP2, .arr [(0, 0)] zP2]
noncomputable def L124_0 : Option R :=
  onShape aa124_0 ab124_0 (fun v => let u0 := v.2.1.2.2.2.2.2.2.2; let u1 := u0.2.2.2.2.2.2.2; let u2 := u1.2.2.2.2.2.2.2; f124_0 k (fun p25 p28 => N (sh jn124_0 [] [zr1 v.2.1.1 v.2.1.2.1 v.2.1.2.2.1 v.2.1.2.2.2.1 v.2.1.2.2.2.2.1 v.2.1.2.2.2.2.2.1 v.2.1.2.2.2.2.2.2.1 v.2.1.2.2.2.2.2.2.2.1 u0.2.1 u0.2.2.1 u0.2.2.2.1 u0.2.2.2.2.1 u0.2.2.2.2.2.1 u0.2.2.2.2.2.2.1 u0.2.2.2.2.2.2.2.1 u1.2.1 u1.2.2.1 u1.2.2.2.1 u1.2.2.2.2.1 u1.2.2.2.2.2.1 u1.2.2.2.2.2.2.1 u1.2.2.2.2.2.2.2.1 u2.2.1 u2.2.2.1 u2.2.2.2.2.1 p25 u2.2.2.2.2.2.2.2.1, ⟨0, .gone⟩, ⟨0, .gone⟩, zr2 v.2.2.2.2.1, zr2 p28])) v.1.2.1 v.1.2.2.1 v.1.2.2.2.1 v.2.1.1 v.2.1.2.1 v.2.1.2.2.1 v.2.1.2.2.2.1 v.2.1.2.2.2.2.1 v.2.1.2.2.2.2.2.1 v.2.1.2.2.2.2.2.2.1 v.2.1.2.2.2.2.2.2.2.1 u0.2.1 u0.2.2.1 u0.2.2.2.1 u0.2.2.2.2.1 u0.2.2.2.2.2.1 u0.2.2.2.2.2.2.1 u0.2.2.2.2.2.2.2.1 u1.2.1 u1.2.2.1 u1.2.2.2.1 u1.2.2.2.2.1 u1.2.2.2.2.2.1 u1.2.2.2.2.2.2.1 u1.2.2.2.2.2.2.2.1 u2.2.1 u2.2.2.1 u2.2.2.2.2.1 u2.2.2.2.2.2.2.2.1 v.2.2.2.2.1 k v.1.2.2.2.2.1 u2.2.2.2.2.2.1 v.2.2.2.2.2.1) (I124_0 k K ws rs N X) ws rs
noncomputable def L124 : Option R := bif id == 1000004 then L124_1000004 k K ws rs N X else bif id == 0 then L124_0 k K ws rs N X else none
theorem l124_1000004 : L124 k K 1000004 ws rs N X = I124_1000004 k K ws rs N X := by
  show L124_1000004 k K ws rs N X = _
  unfold L124_1000004
  rw [f124_1000004_def]
  exact lC (L124 k K) [] (by kernel_rfl) trivial fun x y => by kernel_rfl
theorem i124_0 (c0 : Int) (c1 : zL2) (c2 c4 c5 c6 c7 c8 c9 c10 : Int) (c11 : ByteArray) (c12 : List Int) (c13 : Int) (c14 : zL5) (c15 c16 c17 c18 : Int) (c19 : ByteArray) (c20 : List Int) (c21 : zL5) (c22 c23 c24 c25 : Int) (c26 : List Bool) (c27 : Int) (c28 : List Bool) (c30 : Int) (c31 : zL1) (m : Nat) : ∀ (c3 c29 : Int) (c32 : zL1),
    iter (atHead an124 3 bd124_0) m (fun st N' => exec T an124 (modesOf F) 3 k 57 (S124 k) (E124 K) bd124_0 st N' (outX an124 3 0 N X)) (sh sp124_0 [.ptr 1 25, zi c0, .val [(0, 0)] (.slice zP0) c1, zi c2, zi c3] [zr1 c4 c5 c6 c7 c8 c9 c10 c11 c12 c13 c14 c15 c16 c17 c18 c19 c20 c21 c22 c23 c24 c25 c26 c27 c28 c29 c30, ⟨0, .gone⟩, ⟨0, .gone⟩, zr2 c31, zr2 c32]) = f124_0d k (fun p25 p28 => N (sh jn124_0 [] [zr1 c4 c5 c6 c7 c8 c9 c10 c11 c12 c13 c14 c15 c16 c17 c18 c19 c20 c21 c22 c23 c24 c25 c26 c27 c28 p25 c30, ⟨0, .gone⟩, ⟨0, .gone⟩, zr2 c31, zr2 p28])) c0 c1 c2 c4 c5 c6 c7 c8 c9 c10 c11 c12 c13 c14 c15 c16 c17 c18 c19 c20 c21 c22 c23 c24 c25 c26 c27 c28 c30 c31 m c3 c29 c32 := by
  induction m with
  | zero => intros; rfl
  | succ m ih =>
    intro c3 c29 c32
    simp only [iter]
    rw [← execS_eq T an124 (modesOf F) 3 k 57 (S124 k) (L124 k K) bd124_0 (cuts_of _ _ _ _ _ _ _ _ bd124_0 (l := [(1000004, sp124_1000004, cd124_1000004)]) (by kernel_rfl) ⟨l124_1000004 k K, trivial⟩)]
    have h := fx3 ih
    simp only [f124_0d]
    rw [← h]
    show _ = _
    kernel_rfl
theorem l124_0 : L124 k K 0 ws rs N X = I124_0 k K ws rs N X := by
  show L124_0 k K ws rs N X = _
  unfold L124_0
  rw [f124_0_def]
  exact onShape_eq (a := aa124_0) (b := ab124_0) (G := fun ws rs => I124_0 k K ws rs N X) (fun x y => Eq.trans (by kernel_rfl) (Eq.trans (i124_0 k K N X x.2.1 x.2.2.1 x.2.2.2.1 y.1.1 y.1.2.1 y.1.2.2.1 y.1.2.2.2.1 y.1.2.2.2.2.1 y.1.2.2.2.2.2.1 y.1.2.2.2.2.2.2.1 y.1.2.2.2.2.2.2.2.1 y.1.2.2.2.2.2.2.2.2.1 y.1.2.2.2.2.2.2.2.2.2.1 y.1.2.2.2.2.2.2.2.2.2.2.1 y.1.2.2.2.2.2.2.2.2.2.2.2.1 y.1.2.2.2.2.2.2.2.2.2.2.2.2.1 y.1.2.2.2.2.2.2.2.2.2.2.2.2.2.1 y.1.2.2.2.2.2.2.2.2.2.2.2.2.2.2.1 y.1.2.2.2.2.2.2.2.2.2.2.2.2.2.2.2.1 y.1.2.2.2.2.2.2.2.2.2.2.2.2.2.2.2.2.1 y.1.2.2.2.2.2.2.2.2.2.2.2.2.2.2.2.2.2.1 y.1.2.2.2.2.2.2.2.2.2.2.2.2.2.2.2.2.2.2.1 y.1.2.2.2.2.2.2.2.2.2.2.2.2.2.2.2.2.2.2.2.1 y.1.2.2.2.2.2.2.2.2.2.2.2.2.2.2.2.2.2.2.2.2.1 y.1.2.2.2.2.2.2.2.2.2.2.2.2.2.2.2.2.2.2.2.2.2.1 y.1.2.2.2.2.2.2.2.2.2.2.2.2.2.2.2.2.2.2.2.2.2.2.1 y.1.2.2.2.2.2.2.2.2.2.2.2.2.2.2.2.2.2.2.2.2.2.2.2.1 y.1.2.2.2.2.2.2.2.2.2.2.2.2.2.2.2.2.2.2.2.2.2.2.2.2.2.1 y.1.2.2.2.2.2.2.2.2.2.2.2.2.2.2.2.2.2.2.2.2.2.2.2.2.2.2.2.2.1 y.2.2.2.1 k x.2.2.2.2.1 y.1.2.2.2.2.2.2.2.2.2.2.2.2.2.2.2.2.2.2.2.2.2.2.2.2.2.2.1 y.2.2.2.2.1).symm (by kernel_rfl))) ws rs
theorem tu124 : tOk (R := R) 124 aa124 ab124 g124 := by
  intro k x y K
  unfold g124
  rw [f124_def]
  cases k with
  | zero => rfl
  | succ k => exact eS Try.f124 an124 3 57 (L124 k K) [(0, sp124_0, cd124_0)] (by kernel_rfl) (S124_eq k) (by kernel_rfl) ⟨l124_0 k K, trivial⟩ (by kernel_rfl)
noncomputable def s124 := onS (R := R) aa124 ab124 g124 (fun k => callC T F k 124)
theorem s124_eq : sOk (R := R) s124 124 := onS_eq (fun _ _ _ _ => rfl) tu124
noncomputable abbrev kt123v1 : zK1 R := (fun z0 z1 z2 z3 z4 z5 z6 z7 z8 z9 z10 z11 z12 z13 z14 z15 z16 z17 z18 z19 z20 z21 z22 z23 z24 z25 z26 z27 z28 z29 => K [.rw 6] [zr1 z0 z1 z2 z3 z4 z5 z6 z7 z8 z9 z10 z11 z12 z13 z14 z15 z16 z17 z18 z19 z20 z21 z22 z23 z24 z25 z26, ⟨0, .gone⟩, ⟨0, .gone⟩, zr2 z27, zr2 z28, zr3 z29])
abbrev aa123v1 : List Sh := [.ptr 1 25, zv]
abbrev ab123v1 : List RSh := [zs0, .arr [(0, 0)] zP2, .arr [(0, 0)] zP2]
noncomputable def g123v1 (k : Nat) (v : Sh.D.DL aa123v1 × RSh.DL ab123v1) (K : KT R) : Option R := let u0 := v.2.1.2.2.2.2.2.2.2; let u1 := u0.2.2.2.2.2.2.2; let u2 := u1.2.2.2.2.2.2.2; f123v1 k v.1.2.1 v.2.1.1 v.2.1.2.1 v.2.1.2.2.1 v.2.1.2.2.2.1 v.2.1.2.2.2.2.1 v.2.1.2.2.2.2.2.1 v.2.1.2.2.2.2.2.2.1 v.2.1.2.2.2.2.2.2.2.1 u0.2.1 u0.2.2.1 u0.2.2.2.1 u0.2.2.2.2.1 u0.2.2.2.2.2.1 u0.2.2.2.2.2.2.1 u0.2.2.2.2.2.2.2.1 u1.2.1 u1.2.2.1 u1.2.2.2.1 u1.2.2.2.2.1 u1.2.2.2.2.2.1 u1.2.2.2.2.2.2.1 u1.2.2.2.2.2.2.2.1 u2.2.1 u2.2.2.1 u2.2.2.2.2.1 u2.2.2.2.2.2.1 u2.2.2.2.2.2.2.2.1 v.2.2.1 v.2.2.2.1 (kt123v1 K)
noncomputable abbrev E123v1 := ending T Try.f123 an123 3 K
noncomputable def S123v1 := pickS (R := R) []
theorem S123v1_eq : ∀ k, S123v1 (R := R) k = callC T F k := pickS_eq trivial
noncomputable abbrev I123v1_0 : Option R := inner T an123 (modesOf F) 3 k 42 (S123v1 k) (E123v1 K) cd123_0 (sh sp123_0 ws rs) N X
abbrev aa123v1_0 : List Sh := [.ptr 1 25, zv, .rw 6]
abbrev ab123v1_0 : List RSh := [zs1, .gone, .gone, .arr [(0, 0)] zP2, .arr [(0, 0)] zP2, .arr [(0, 0)] zP0]
noncomputable def L123v1_0 : Option R :=
  onShape aa123v1_0 ab123v1_0 (fun v => let u0 := v.2.1.2.2.2.2.2.2.2; let u1 := u0.2.2.2.2.2.2.2; let u2 := u1.2.2.2.2.2.2.2; f123v1_0 k (fun p28 p29 => N (sh jn123_0 [.rw 6] [zr1 v.2.1.1 v.2.1.2.1 v.2.1.2.2.1 v.2.1.2.2.2.1 v.2.1.2.2.2.2.1 v.2.1.2.2.2.2.2.1 v.2.1.2.2.2.2.2.2.1 v.2.1.2.2.2.2.2.2.2.1 u0.2.1 u0.2.2.1 u0.2.2.2.1 u0.2.2.2.2.1 u0.2.2.2.2.2.1 u0.2.2.2.2.2.2.1 u0.2.2.2.2.2.2.2.1 u1.2.1 u1.2.2.1 u1.2.2.2.1 u1.2.2.2.2.1 u1.2.2.2.2.2.1 u1.2.2.2.2.2.2.1 u1.2.2.2.2.2.2.2.1 u2.2.1 u2.2.2.1 u2.2.2.2.2.1 u2.2.2.2.2.2.1 u2.2.2.2.2.2.2.2.1, ⟨0, .gone⟩, ⟨0, .gone⟩, zr2 v.2.2.2.2.1, zr2 p28, zr3 p29])) v.1.2.1 v.2.1.1 v.2.1.2.1 v.2.1.2.2.1 v.2.1.2.2.2.1 v.2.1.2.2.2.2.1 v.2.1.2.2.2.2.2.1 v.2.1.2.2.2.2.2.2.1 v.2.1.2.2.2.2.2.2.2.1 u0.2.1 u0.2.2.1 u0.2.2.2.1 u0.2.2.2.2.1 u0.2.2.2.2.2.1 u0.2.2.2.2.2.2.1 u0.2.2.2.2.2.2.2.1 u1.2.1 u1.2.2.1 u1.2.2.2.1 u1.2.2.2.2.1 u1.2.2.2.2.2.1 u1.2.2.2.2.2.2.1 u1.2.2.2.2.2.2.2.1 u2.2.1 u2.2.2.1 u2.2.2.2.2.1 u2.2.2.2.2.2.1 u2.2.2.2.2.2.2.2.1 v.2.2.2.2.1 k v.2.2.2.2.2.1 v.2.2.2.2.2.2.1) (I123v1_0 k K ws rs N X) ws rs
noncomputable def L123v1 : Option R := bif id == 0 then L123v1_0 k K ws rs N X else none
theorem i123v1_0 (c0 c1 c2 c3 c4 c5 c6 c7 : Int) (c8 : ByteArray) (c9 : List Int) (c10 : Int) (c11 : zL5) (c12 c13 c14 c15 : Int) (c16 : ByteArray) (c17 : List Int) (c18 : zL5) (c19 c20 c21 c22 : Int) (c23 : List Bool) (c24 : Int) (c25 : List Bool) (c26 c27 : Int) (c28 : zL1) (m : Nat) : ∀ (c29 : zL1) (c30 : zL3),
    iter (atHead an123 3 bd123_0) m (fun st N' => exec T an123 (modesOf F) 3 k 42 (S123v1 k) (E123v1 K) bd123_0 st N' (outX an123 3 0 N X)) (sh sp123_0 [.ptr 1 25, zi c0, .rw 6] [zr1 c1 c2 c3 c4 c5 c6 c7 c8 c9 c10 c11 c12 c13 c14 c15 c16 c17 c18 c19 c20 c21 c22 c23 c24 c25 c26 c27, ⟨0, .gone⟩, ⟨0, .gone⟩, zr2 c28, zr2 c29, zr3 c30]) = f123v1_0d k (fun p28 p29 => N (sh jn123_0 [.rw 6] [zr1 c1 c2 c3 c4 c5 c6 c7 c8 c9 c10 c11 c12 c13 c14 c15 c16 c17 c18 c19 c20 c21 c22 c23 c24 c25 c26 c27, ⟨0, .gone⟩, ⟨0, .gone⟩, zr2 c28, zr2 p28, zr3 p29])) c0 c1 c2 c3 c4 c5 c6 c7 c8 c9 c10 c11 c12 c13 c14 c15 c16 c17 c18 c19 c20 c21 c22 c23 c24 c25 c26 c27 c28 m c29 c30 := by
  induction m with
  | zero => intros; rfl
  | succ m ih =>
    intro c29 c30
    simp only [iter]
    rw [← execS_eq T an123 (modesOf F) 3 k 42 (S123v1 k) (L123v1 k K) bd123_0 (cuts_of _ _ _ _ _ _ _ _ bd123_0 (l := []) (by kernel_rfl) trivial)]
    have h := fx2 ih
    simp only [f123v1_0d]
    rw [← h]
    show _ = _
    kernel_rfl
theorem l123v1_0 : L123v1 k K 0 ws rs N X = I123v1_0 k K ws rs N X := by
  show L123v1_0 k K ws rs N X = _
  unfold L123v1_0
  rw [f123v1_0_def]
  exact onShape_eq (a := aa123v1_0) (b := ab123v1_0) (G := fun ws rs => I123v1_0 k K ws rs N X) (fun x y => Eq.trans (by kernel_rfl) (Eq.trans (i123v1_0 k K N X x.2.1 y.1.1 y.1.2.1 y.1.2.2.1 y.1.2.2.2.1 y.1.2.2.2.2.1 y.1.2.2.2.2.2.1 y.1.2.2.2.2.2.2.1 y.1.2.2.2.2.2.2.2.1 y.1.2.2.2.2.2.2.2.2.1 y.1.2.2.2.2.2.2.2.2.2.1 y.1.2.2.2.2.2.2.2.2.2.2.1 y.1.2.2.2.2.2.2.2.2.2.2.2.1 y.1.2.2.2.2.2.2.2.2.2.2.2.2.1 y.1.2.2.2.2.2.2.2.2.2.2.2.2.2.1 y.1.2.2.2.2.2.2.2.2.2.2.2.2.2.2.1 y.1.2.2.2.2.2.2.2.2.2.2.2.2.2.2.2.1 y.1.2.2.2.2.2.2.2.2.2.2.2.2.2.2.2.2.1 y.1.2.2.2.2.2.2.2.2.2.2.2.2.2.2.2.2.2.1 y.1.2.2.2.2.2.2.2.2.2.2.2.2.2.2.2.2.2.2.1 y.1.2.2.2.2.2.2.2.2.2.2.2.2.2.2.2.2.2.2.2.1 y.1.2.2.2.2.2.2.2.2.2.2.2.2.2.2.2.2.2.2.2.2.1 y.1.2.2.2.2.2.2.2.2.2.2.2.2.2.2.2.2.2.2.2.2.2.1 y.1.2.2.2.2.2.2.2.2.2.2.2.2.2.2.2.2.2.2.2.2.2.2.1 y.1.2.2.2.2.2.2.2.2.2.2.2.2.2.2.2.2.2.2.2.2.2.2.2.1 y.1.2.2.2.2.2.2.2.2.2.2.2.2.2.2.2.2.2.2.2.2.2.2.2.2.2.1 y.1.2.2.2.2.2.2.2.2.2.2.2.2.2.2.2.2.2.2.2.2.2.2.2.2.2.2.1 y.1.2.2.2.2.2.2.2.2.2.2.2.2.2.2.2.2.2.2.2.2.2.2.2.2.2.2.2.2.1 y.2.2.2.1 k y.2.2.2.2.1 y.2.2.2.2.2.1).symm (by kernel_rfl))) ws rs
theorem tu123v1 : tOk (R := R) 123 aa123v1 ab123v1 g123v1 := by
  intro k x y K
  unfold g123v1
  rw [f123v1_def]
  cases k with
  | zero => rfl
  | succ k => exact eS Try.f123 an123 3 42 (L123v1 k K) [(0, sp123_0, cd123_0)] (by kernel_rfl) (S123v1_eq k) (by kernel_rfl) ⟨l123v1_0 k K, trivial⟩ (by kernel_rfl)
noncomputable def s123v1 := onS (R := R) aa123v1 ab123v1 g123v1 s123
theorem s123v1_eq : sOk (R := R) s123v1 123 := onS_eq s123_eq tu123v1
noncomputable abbrev kt71 : zL5 → Bool → Option R := (fun z0 z1 => K [.val [(0, 0)] zT1 z0, .val [] .bool z1] [])
abbrev aa71 : List Sh := [.val [(0, 0)] zT1]
abbrev ab71 : List RSh := []
noncomputable def g71 (k : Nat) (v : Sh.D.DL aa71 × RSh.DL ab71) (K : KT R) : Option R := f71 k v.1.1 (kt71 K)
noncomputable abbrev E71 := ending T Try.f71 an71 0 K
noncomputable def S71 := pickS (R := R) [(104, s104)]
theorem S71_eq : ∀ k, S71 (R := R) k = callC T F k := pickS_eq ⟨s104_eq, trivial⟩
theorem tu71 : tOk (R := R) 71 aa71 ab71 g71 := by
  intro k x y K
  unfold g71
  rw [f71_def]
  cases k with
  | zero => rfl
  | succ k => exact eS Try.f71 an71 0 17 L0 [] (by kernel_rfl) (S71_eq k) (by kernel_rfl) trivial (by kernel_rfl)
noncomputable def s71 := onS (R := R) aa71 ab71 g71 (fun k => callC T F k 71)
theorem s71_eq : sOk (R := R) s71 71 := onS_eq (fun _ _ _ _ => rfl) tu71
end Go.Proofs.Ytlcklflbhhnnhaa.PM
