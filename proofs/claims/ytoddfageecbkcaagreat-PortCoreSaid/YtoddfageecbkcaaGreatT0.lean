/-
  SHALLOW TEXTS: of each Go function named below: what its code asks of its continuation, as the engine reckons it (written by a program of ours; each is checked by the kernel against the code).
-/
import Derived.Test.YtoddfageecbkcaaGreatH
import Derived.Test.YtoddfageecbkcaaGreatProg
namespace Go.Proofs.YtoddfageecbkcaaGreat
open Go Go.Eng
set_option maxRecDepth 100000
set_option linter.unusedVariables false

theorem mixed : Tryz.prog.follows .mixedOrders = true := by kernel_rfl

/-- switchyard/soc.New -/
def t4 (m : Amb) (x0 : Int) (x1 : Int) (x2 : Int) (x3 : Int) (H : Hp) (K : Value → Hp → Prop) : Prop :=
  (nw H ([.int .i64 x0, .int .i64 x1, .int .i64 x2]) 23 (fun a0 H1 =>
  (ldI .i64 H1 (a0.add 0) (fun i2 =>
  (ldI .i64 H1 (a0.add 1) (fun i3 =>
  (cl Tryz.prog m 14 ([.int .i64 i2, .int .i64 i3, .int .i64 x3]) H1 (fun w4 H5 =>
  (∃ r6 : Option Addr, (∃ i7 : Int, (must (
  w4 = .tuple #[.pointer r6, .int .i64 i7]) (
  (br (i7 != 0) (
  (K (.tuple #[.pointer none, .int .i64 2]) H5)) (
  (ldI .i64 H5 (a0.add 0) (fun i8 =>
  (ldI .i64 H5 (a0.add 1) (fun i9 =>
  (ldI .i64 H5 (a0.add 2) (fun i10 =>
  (cl Tryz.prog m 15 ([.agg #[.int .i64 i8, .int .i64 i9, .int .i64 i10]]) H5 (fun w11 H12 =>
  (∃ e13 : Bool, (must (
  w11 = .bool e13) (
  (br (!e13) (
  (K (.tuple #[.pointer none, .int .i64 2]) H12)) (
  (ldI .i64 H12 (a0.add 0) (fun i14 =>
  (ldI .i64 H12 (a0.add 1) (fun i15 =>
  (ldI .i64 H12 (a0.add 2) (fun i16 =>
  (ldI .i64 H12 (a0.add 0) (fun i17 =>
  (ldI .i64 H12 (a0.add 0) (fun i18 =>
  (ldI .i64 H12 (a0.add 2) (fun i19 =>
  (ldI .i64 H12 (a0.add 0) (fun i20 =>
  (cl Tryz.prog m 16 ([.int .i64 i17]) H12 (fun w21 H22 =>
  (∃ r23 : Option Addr, (must (
  w21 = .pointer r23) (
  (must (
  (cont H22 (a0.add 0) (.int .i64 i20))) (
  (must (
  (cont H22 (a0.add 2) (.int .i64 i19))) (
  (must (
  (cont H22 (a0.add 0) (.int .i64 i18))) (
  (must (
  (cont H22 (a0.add 0) (.int .i64 i14))) (
  (must (
  (cont H22 (a0.add 1) (.int .i64 i15))) (
  (must (
  (cont H22 (a0.add 2) (.int .i64 i16))) (
  (cl Tryz.prog m 17 ([.int .i64 i18, .int .i64 i19]) H22 (fun w24 H25 =>
  (∃ r26 : Option Addr, (must (
  w24 = .pointer r26) (
  (must (
  (cont H25 (a0.add 0) (.int .i64 i20))) (
  (must (
  (cont H25 (a0.add 0) (.int .i64 i14))) (
  (must (
  (cont H25 (a0.add 1) (.int .i64 i15))) (
  (must (
  (cont H25 (a0.add 2) (.int .i64 i16))) (
  (cl Tryz.prog m 18 ([.int .i64 i20]) H25 (fun w27 H28 =>
  (∃ r29 : Option Addr, (must (
  w27 = .pointer r29) (
  (must (
  (cont H28 (a0.add 0) (.int .i64 i14))) (
  (must (
  (cont H28 (a0.add 1) (.int .i64 i15))) (
  (must (
  (cont H28 (a0.add 2) (.int .i64 i16))) (
  (nw H28 ([.int .i64 i14, .int .i64 i15, .int .i64 i16, .pointer r6, .pointer r23, .pointer r26, .pointer r29]) 60 (fun a30 H31 =>
  (K (.tuple #[.pointer (some a30), .int .i64 0]) H31)))))))))))))))))))))))))))))))))))))))))))))))))))))))))))))))))))))))))))))))))))))
theorem W4 (m : Amb) (x0 : Int) (x1 : Int) (x2 : Int) (x3 : Int) (H : Hp) (K : Value → Hp → Prop) : funcW Tryz.prog m [] Tryz.f4 [.g [.i .i64 x0, .i .i64 x1, .i .i64 x2], .c (.i .i64 x3)] H K = t4 m x0 x1 x2 x3 H K := by kernel_rfl
theorem S4 {m : Amb} {x0 : Int} {x1 : Int} {x2 : Int} {x3 : Int} {H : Hp} {K : Value → Hp → Prop} (h : t4 m x0 x1 x2 x3 H K) : CallsH Tryz.prog m 4 [.agg #[.int .i64 x0, .int .i64 x1, .int .i64 x2], .int .i64 x3] H K :=
  callsH_of_W (args := [.g [.i .i64 x0, .i .i64 x1, .i .i64 x2], .c (.i .i64 x3)]) mixed Tryz.func4 ((W4 m x0 x1 x2 x3 H K).mpr h)

/-- switchyard/switchyardlaw12.Do -/
def t6 (m : Amb) (p0 : Option Addr) (x1 : Int) (x2 : Int) (x3 : Int) (x4 : Int) (H : Hp) (K : Value → Hp → Prop) : Prop :=
  (nw H ([.int .i64 x1, .int .i64 x2, .int .i64 x3, .int .i64 x4]) 34 (fun a0 H1 =>
  (ldI .i64 H1 (a0.add 0) (fun i2 =>
  (br (i2 == 1) (
  (ldI .i64 H1 (a0.add 1) (fun i3 =>
  (ldI .i64 H1 (a0.add 2) (fun i4 =>
  (ldI .i64 H1 (a0.add 3) (fun i5 =>
  (cl Tryz.prog m 10 ([.pointer p0, .int .i64 i3, .int .i64 i4, .int .i64 i5]) H1 (fun w6 H7 =>
  (∃ i8 : Int, (must (
  w6 = .int .i64 i8) (
  (K (.tuple #[.int .i64 0, .int .i64 i8]) H7))))))))))))) (
  (br (i2 == 2) (
  (ldI .i64 H1 (a0.add 1) (fun i9 =>
  (cl Tryz.prog m 11 ([.pointer p0, .int .i64 i9]) H1 (fun w10 H11 =>
  (∃ i12 : Int, (∃ i13 : Int, (must (
  w10 = .tuple #[.int .i64 i12, .int .i64 i13]) (
  (K (.tuple #[.int .i64 i12, .int .i64 i13]) H11)))))))))) (
  (br (i2 == 3) (
  (ldI .i64 H1 (a0.add 1) (fun i14 =>
  (cl Tryz.prog m 22 ([.pointer p0, .int .i64 i14]) H1 (fun w15 H16 =>
  (∃ e17 : Bool, (∃ i18 : Int, (must (
  w15 = .tuple #[.bool e17, .int .i64 i18]) (
  (br e17 (
  (K (.tuple #[.int .i64 1, .int .i64 i18]) H16)) (
  (K (.tuple #[.int .i64 0, .int .i64 i18]) H16)))))))))))) (
  (br (i2 == 4) (
  (ldI .i64 H1 (a0.add 1) (fun i19 =>
  (ldI .i64 H1 (a0.add 2) (fun i20 =>
  (ldI .i64 H1 (a0.add 3) (fun i21 =>
  (cl Tryz.prog m 23 ([.pointer p0, .int .i64 i19, .int .i64 i20, .int .i64 i21]) H1 (fun w22 H23 =>
  (∃ i24 : Int, (∃ i25 : Int, (must (
  w22 = .tuple #[.int .i64 i24, .int .i64 i25]) (
  (K (.tuple #[.int .i64 i24, .int .i64 i25]) H23)))))))))))))) (
  (br (i2 == 5) (
  (ldI .i64 H1 (a0.add 1) (fun i26 =>
  (cl Tryz.prog m 24 ([.pointer p0, .int .i64 i26]) H1 (fun w27 H28 =>
  (∃ i29 : Int, (must (
  w27 = .int .i64 i29) (
  (K (.tuple #[.int .i64 0, .int .i64 i29]) H28))))))))) (
  (br (i2 == 6) (
  (ldI .i64 H1 (a0.add 1) (fun i30 =>
  (cl Tryz.prog m 25 ([.pointer p0, .int .i64 i30]) H1 (fun w31 H32 =>
  (∃ i33 : Int, (must (
  w31 = .int .i64 i33) (
  (K (.tuple #[.int .i64 0, .int .i64 i33]) H32))))))))) (
  (ldI .i64 H1 (a0.add 1) (fun i34 =>
  (ldI .i64 H1 (a0.add 2) (fun i35 =>
  (cl Tryz.prog m 9 ([.pointer p0, .int .i64 i34, .int .i64 i35]) H1 (fun w36 H37 =>
  (∃ i38 : Int, (∃ i39 : Int, (must (
  w36 = .tuple #[.int .i64 i38, .int .i64 i39]) (
  (K (.tuple #[.int .i64 i38, .int .i64 i39]) H37)))))))))))))))))))))))))))
theorem W6 (m : Amb) (p0 : Option Addr) (x1 : Int) (x2 : Int) (x3 : Int) (x4 : Int) (H : Hp) (K : Value → Hp → Prop) : funcW Tryz.prog m [] Tryz.f6 [.c (.p p0), .g [.i .i64 x1, .i .i64 x2, .i .i64 x3, .i .i64 x4]] H K = t6 m p0 x1 x2 x3 x4 H K := by kernel_rfl
theorem S6 {m : Amb} {p0 : Option Addr} {x1 : Int} {x2 : Int} {x3 : Int} {x4 : Int} {H : Hp} {K : Value → Hp → Prop} (h : t6 m p0 x1 x2 x3 x4 H K) : CallsH Tryz.prog m 6 [.pointer p0, .agg #[.int .i64 x1, .int .i64 x2, .int .i64 x3, .int .i64 x4]] H K :=
  callsH_of_W (args := [.c (.p p0), .g [.i .i64 x1, .i .i64 x2, .i .i64 x3, .i .i64 x4]]) mixed Tryz.func6 ((W6 m p0 x1 x2 x3 x4 H K).mpr h)

/-- (switchyard/soc.Soc).Clone -/
def t7 (m : Amb) (p0 : Option Addr) (H : Hp) (K : Value → Hp → Prop) : Prop :=
  (br p0.isNone (
  (K (.pointer none) H)) (
  (nn p0 (fun a0 =>
  (ldI .i64 H ((a0.add 0).add 0) (fun i1 =>
  (ldI .i64 H ((a0.add 0).add 1) (fun i2 =>
  (ldI .i64 H ((a0.add 0).add 2) (fun i3 =>
  (nn p0 (fun a4 =>
  (ldP H (a4.add 3) (fun r5 =>
  (nn p0 (fun a6 =>
  (ldP H (a6.add 4) (fun r7 =>
  (nn p0 (fun a8 =>
  (ldP H (a8.add 5) (fun r9 =>
  (nn p0 (fun a10 =>
  (ldP H (a10.add 6) (fun r11 =>
  (cl Tryz.prog m 26 ([.pointer r5]) H (fun w12 H13 =>
  (∃ r14 : Option Addr, (must (
  w12 = .pointer r14) (
  (must (
  (cont H13 (a10.add 6) (.pointer r11))) (
  (must (
  (cont H13 (a8.add 5) (.pointer r9))) (
  (must (
  (cont H13 (a6.add 4) (.pointer r7))) (
  (must (
  (cont H13 ((a0.add 0).add 0) (.int .i64 i1))) (
  (must (
  (cont H13 ((a0.add 0).add 1) (.int .i64 i2))) (
  (must (
  (cont H13 ((a0.add 0).add 2) (.int .i64 i3))) (
  (cl Tryz.prog m 27 ([.pointer r7]) H13 (fun w15 H16 =>
  (∃ r17 : Option Addr, (must (
  w15 = .pointer r17) (
  (must (
  (cont H16 (a10.add 6) (.pointer r11))) (
  (must (
  (cont H16 (a8.add 5) (.pointer r9))) (
  (must (
  (cont H16 ((a0.add 0).add 0) (.int .i64 i1))) (
  (must (
  (cont H16 ((a0.add 0).add 1) (.int .i64 i2))) (
  (must (
  (cont H16 ((a0.add 0).add 2) (.int .i64 i3))) (
  (cl Tryz.prog m 28 ([.pointer r9]) H16 (fun w18 H19 =>
  (∃ r20 : Option Addr, (must (
  w18 = .pointer r20) (
  (must (
  (cont H19 (a10.add 6) (.pointer r11))) (
  (must (
  (cont H19 ((a0.add 0).add 0) (.int .i64 i1))) (
  (must (
  (cont H19 ((a0.add 0).add 1) (.int .i64 i2))) (
  (must (
  (cont H19 ((a0.add 0).add 2) (.int .i64 i3))) (
  (cl Tryz.prog m 29 ([.pointer r11]) H19 (fun w21 H22 =>
  (∃ r23 : Option Addr, (must (
  w21 = .pointer r23) (
  (must (
  (cont H22 ((a0.add 0).add 0) (.int .i64 i1))) (
  (must (
  (cont H22 ((a0.add 0).add 1) (.int .i64 i2))) (
  (must (
  (cont H22 ((a0.add 0).add 2) (.int .i64 i3))) (
  (nw H22 ([.int .i64 i1, .int .i64 i2, .int .i64 i3, .pointer r14, .pointer r17, .pointer r20, .pointer r23]) 60 (fun a24 H25 =>
  (K (.pointer (some a24)) H25)))))))))))))))))))))))))))))))))))))))))))))))))))))))))))))))))))))))))))))))))))))
theorem W7 (m : Amb) (p0 : Option Addr) (H : Hp) (K : Value → Hp → Prop) : funcW Tryz.prog m [] Tryz.f7 [.c (.p p0)] H K = t7 m p0 H K := by kernel_rfl
theorem S7 {m : Amb} {p0 : Option Addr} {H : Hp} {K : Value → Hp → Prop} (h : t7 m p0 H K) : CallsH Tryz.prog m 7 [.pointer p0] H K :=
  callsH_of_W (args := [.c (.p p0)]) mixed Tryz.func7 ((W7 m p0 H K).mpr h)

/-- switchyard/port.OfCore -/
def t8 (m : Amb) (p0 : Option Addr) (x1 : Int) (H : Hp) (K : Value → Hp → Prop) : Prop :=
  (nw H ([.pointer p0, .int .i64 x1]) 75 (fun a0 H1 =>
  (K (.pointer (some a0)) H1)))
theorem W8 (m : Amb) (p0 : Option Addr) (x1 : Int) (H : Hp) (K : Value → Hp → Prop) : funcW Tryz.prog m [] Tryz.f8 [.c (.p p0), .c (.i .i64 x1)] H K = t8 m p0 x1 H K := by kernel_rfl
theorem S8 {m : Amb} {p0 : Option Addr} {x1 : Int} {H : Hp} {K : Value → Hp → Prop} (h : t8 m p0 x1 H K) : CallsH Tryz.prog m 8 [.pointer p0, .int .i64 x1] H K :=
  callsH_of_W (args := [.c (.p p0), .c (.i .i64 x1)]) mixed Tryz.func8 ((W8 m p0 x1 H K).mpr h)

/-- (switchyard/soc.Soc).Read -/
def t9 (m : Amb) (p0 : Option Addr) (x1 : Int) (x2 : Int) (H : Hp) (K : Value → Hp → Prop) : Prop :=
  (cl Tryz.prog m 30 ([.pointer p0, .int .i64 x1, .int .i64 x2]) H (fun w0 H1 =>
  (∃ i2 : Int, (∃ i3 : Int, (∃ i4 : Int, (∃ i5 : Int, (must (
  w0 = .tuple #[.agg #[.int .i64 i2, .int .i64 i3, .int .i64 i4], .int .i64 i5]) (
  (nw H1 (zc Tryz.prog 77) 77 (fun a6 H7 =>
  (st H7 (a6.add 0) (.int .i64 i2) (fun H8 =>
  (st H8 (a6.add 1) (.int .i64 i3) (fun H9 =>
  (st H9 (a6.add 2) (.int .i64 i4) (fun H10 =>
  (br (i5 != 0) (
  (K (.tuple #[.int .i64 0, .int .i64 i5]) H10)) (
  (ldI .i64 H10 (a6.add 0) (fun i11 =>
  (br (i11 == 1) (
  (nn p0 (fun a12 =>
  (ldP H10 (a12.add 3) (fun r13 =>
  (cl Tryz.prog m 31 ([.pointer r13, .int .i64 x1, .int .i64 x2]) H10 (fun w14 H15 =>
  (∃ i16 : Int, (∃ i17 : Int, (must (
  w14 = .tuple #[.int .i64 i16, .int .i64 i17]) (
  (K (.tuple #[.int .i64 i16, .int .i64 i17]) H15)))))))))))) (
  (br (i11 == 2) (
  (ldI .i64 H10 (a6.add 1) (fun i18 =>
  (br (i18 != x1) (
  (K (.tuple #[.int .i64 0, .int .i64 4]) H10)) (
  (nn p0 (fun a19 =>
  (ldP H10 (a19.add 3) (fun r20 =>
  (cl Tryz.prog m 32 ([.pointer r20, .int .i64 x1]) H10 (fun w21 H22 =>
  (∃ i23 : Int, (∃ i24 : Int, (must (
  w21 = .tuple #[.int .i64 i23, .int .i64 i24]) (
  (ldI .i64 H22 (a6.add 0) (fun i25 =>
  (ldI .i64 H22 (a6.add 1) (fun i26 =>
  (ldI .i64 H22 (a6.add 2) (fun i27 =>
  (cl Tryz.prog m 33 ([.pointer p0, .int .i64 x1, .agg #[.int .i64 i25, .int .i64 i26, .int .i64 i27]]) H22 (fun w28 H29 =>
  (∃ i30 : Int, (must (
  w28 = .int .i64 i30) (
  (K (.tuple #[.int .i64 i30, .int .i64 0]) H29))))))))))))))))))))))))))) (
  (nn p0 (fun a31 =>
  (ldP H10 (a31.add 3) (fun r32 =>
  (cl Tryz.prog m 32 ([.pointer r32, .int .i64 x1]) H10 (fun w33 H34 =>
  (∃ i35 : Int, (∃ i36 : Int, (must (
  w33 = .tuple #[.int .i64 i35, .int .i64 i36]) (
  (ldI .i64 H34 (a6.add 0) (fun i37 =>
  (ldI .i64 H34 (a6.add 1) (fun i38 =>
  (ldI .i64 H34 (a6.add 2) (fun i39 =>
  (cl Tryz.prog m 33 ([.pointer p0, .int .i64 x1, .agg #[.int .i64 i37, .int .i64 i38, .int .i64 i39]]) H34 (fun w40 H41 =>
  (∃ i42 : Int, (must (
  w40 = .int .i64 i42) (
  (K (.tuple #[.int .i64 i42, .int .i64 0]) H41))))))))))))))))))))))))))))))))))))))))))))))
theorem W9 (m : Amb) (p0 : Option Addr) (x1 : Int) (x2 : Int) (H : Hp) (K : Value → Hp → Prop) : funcW Tryz.prog m [] Tryz.f9 [.c (.p p0), .c (.i .i64 x1), .c (.i .i64 x2)] H K = t9 m p0 x1 x2 H K := by kernel_rfl
theorem S9 {m : Amb} {p0 : Option Addr} {x1 : Int} {x2 : Int} {H : Hp} {K : Value → Hp → Prop} (h : t9 m p0 x1 x2 H K) : CallsH Tryz.prog m 9 [.pointer p0, .int .i64 x1, .int .i64 x2] H K :=
  callsH_of_W (args := [.c (.p p0), .c (.i .i64 x1), .c (.i .i64 x2)]) mixed Tryz.func9 ((W9 m p0 x1 x2 H K).mpr h)

/-- (switchyard/soc.Soc).Write -/
def t10 (m : Amb) (p0 : Option Addr) (x1 : Int) (x2 : Int) (x3 : Int) (H : Hp) (K : Value → Hp → Prop) : Prop :=
  (cl Tryz.prog m 30 ([.pointer p0, .int .i64 x1, .int .i64 x2]) H (fun w0 H1 =>
  (∃ i2 : Int, (∃ i3 : Int, (∃ i4 : Int, (∃ i5 : Int, (must (
  w0 = .tuple #[.agg #[.int .i64 i2, .int .i64 i3, .int .i64 i4], .int .i64 i5]) (
  (nw H1 (zc Tryz.prog 77) 77 (fun a6 H7 =>
  (st H7 (a6.add 0) (.int .i64 i2) (fun H8 =>
  (st H8 (a6.add 1) (.int .i64 i3) (fun H9 =>
  (st H9 (a6.add 2) (.int .i64 i4) (fun H10 =>
  (br (i5 != 0) (
  (K (.int .i64 i5) H10)) (
  (ldI .i64 H10 (a6.add 0) (fun i11 =>
  (ldI .i64 H10 (a6.add 1) (fun i12 =>
  (ldI .i64 H10 (a6.add 2) (fun i13 =>
  (cl Tryz.prog m 34 ([.int .i64 x1, .agg #[.int .i64 i11, .int .i64 i12, .int .i64 i13]]) H10 (fun w14 H15 =>
  (∃ e16 : Bool, (must (
  w14 = .bool e16) (
  (br (!e16) (
  (K (.int .i64 4) H15)) (
  (cl Tryz.prog m 35 ([.int .i64 x3]) H15 (fun w17 H18 =>
  (∃ i19 : Int, (must (
  w17 = .int .i64 i19) (
  (br (x3 != i19) (
  (K (.int .i64 2) H18)) (
  (ldI .i64 H18 (a6.add 0) (fun i20 =>
  (br (i20 == 1) (
  (nn p0 (fun a21 =>
  (ldP H18 (a21.add 3) (fun r22 =>
  (cl Tryz.prog m 36 ([.pointer r22, .int .i64 x1, .int .i64 x2, .int .i64 x3]) H18 (fun w23 H24 =>
  (∃ i25 : Int, (must (
  w23 = .int .i64 i25) (
  (K (.int .i64 i25) H24))))))))))) (
  (br (i20 == 3) (
  (nn p0 (fun a26 =>
  (ldP H18 (a26.add 5) (fun r27 =>
  (ldI .i64 H18 (a6.add 1) (fun i28 =>
  (cl Tryz.prog m 37 ([.pointer r27, .int .i64 i28]) H18 (fun w29 H30 =>
  (∃ i31 : Int, (∃ i32 : Int, (must (
  w29 = .tuple #[.int .i64 i31, .int .i64 i32]) (
  (br (i31 != x1) (
  (K (.int .i64 12) H30)) (
  (nn p0 (fun a33 =>
  (ldP H30 (a33.add 3) (fun r34 =>
  (cl Tryz.prog m 32 ([.pointer r34, .int .i64 x1]) H30 (fun w35 H36 =>
  (∃ i37 : Int, (∃ i38 : Int, (must (
  w35 = .tuple #[.int .i64 i37, .int .i64 i38]) (
  (nn p0 (fun a39 =>
  (ldP H36 (a39.add 5) (fun r40 =>
  (ldI .i64 H36 (a6.add 1) (fun i41 =>
  (cl Tryz.prog m 38 ([.pointer r40, .int .i64 x1, .int .i64 i41]) H36 (fun w42 H43 =>
  (∃ i44 : Int, (must (
  w42 = .int .i64 i44) (
  (K (.int .i64 i44) H43))))))))))))))))))))))))))))))))))))) (
  (nn p0 (fun a45 =>
  (ldP H18 (a45.add 3) (fun r46 =>
  (cl Tryz.prog m 32 ([.pointer r46, .int .i64 x1]) H18 (fun w47 H48 =>
  (∃ i49 : Int, (∃ i50 : Int, (must (
  w47 = .tuple #[.int .i64 i49, .int .i64 i50]) (
  (ldI .i64 H48 (a6.add 2) (fun i51 =>
  (br (i51 == 0) (
  (nn p0 (fun a52 =>
  (ldP H48 (a52.add 4) (fun r53 =>
  (cl Tryz.prog m 39 ([.pointer r53, .int .i64 x1, .int .i64 x3]) H48 (fun w54 H55 =>
  (∃ i56 : Int, (must (
  w54 = .int .i64 i56) (
  (K (.int .i64 i56) H55))))))))))) (
  (nn p0 (fun a57 =>
  (ldP H48 (a57.add 4) (fun r58 =>
  (ldI .i64 H48 (a6.add 1) (fun i59 =>
  (cl Tryz.prog m 40 ([.pointer r58, .int .i64 x1, .int .i64 i59, .int .i64 x3]) H48 (fun w60 H61 =>
  (∃ i62 : Int, (must (
  w60 = .int .i64 i62) (
  (K (.int .i64 i62) H61))))))))))))))))))))))))))))))))))))))))))))))))))))))))))))))))))))))
theorem W10 (m : Amb) (p0 : Option Addr) (x1 : Int) (x2 : Int) (x3 : Int) (H : Hp) (K : Value → Hp → Prop) : funcW Tryz.prog m [] Tryz.f10 [.c (.p p0), .c (.i .i64 x1), .c (.i .i64 x2), .c (.i .i64 x3)] H K = t10 m p0 x1 x2 x3 H K := by kernel_rfl
theorem S10 {m : Amb} {p0 : Option Addr} {x1 : Int} {x2 : Int} {x3 : Int} {H : Hp} {K : Value → Hp → Prop} (h : t10 m p0 x1 x2 x3 H K) : CallsH Tryz.prog m 10 [.pointer p0, .int .i64 x1, .int .i64 x2, .int .i64 x3] H K :=
  callsH_of_W (args := [.c (.p p0), .c (.i .i64 x1), .c (.i .i64 x2), .c (.i .i64 x3)]) mixed Tryz.func10 ((W10 m p0 x1 x2 x3 H K).mpr h)

/-- (switchyard/soc.Soc).Fence -/
def t11 (m : Amb) (p0 : Option Addr) (x1 : Int) (H : Hp) (K : Value → Hp → Prop) : Prop :=
  (cl Tryz.prog m 41 ([.pointer p0, .int .i64 x1]) H (fun w0 H1 =>
  (∃ i2 : Int, (must (
  w0 = .int .i64 i2) (
  (br (i2 != 0) (
  (K (.tuple #[.int .i64 0, .int .i64 i2]) H1)) (
  (nn p0 (fun a3 =>
  (ldP H1 (a3.add 3) (fun r4 =>
  (cl Tryz.prog m 32 ([.pointer r4, .int .i64 x1]) H1 (fun w5 H6 =>
  (∃ i7 : Int, (∃ i8 : Int, (must (
  w5 = .tuple #[.int .i64 i7, .int .i64 i8]) (
  (K (.tuple #[.int .i64 i7, .int .i64 i8]) H6))))))))))))))))))
theorem W11 (m : Amb) (p0 : Option Addr) (x1 : Int) (H : Hp) (K : Value → Hp → Prop) : funcW Tryz.prog m [] Tryz.f11 [.c (.p p0), .c (.i .i64 x1)] H K = t11 m p0 x1 H K := by kernel_rfl
theorem S11 {m : Amb} {p0 : Option Addr} {x1 : Int} {H : Hp} {K : Value → Hp → Prop} (h : t11 m p0 x1 H K) : CallsH Tryz.prog m 11 [.pointer p0, .int .i64 x1] H K :=
  callsH_of_W (args := [.c (.p p0), .c (.i .i64 x1)]) mixed Tryz.func11 ((W11 m p0 x1 H K).mpr h)

/-- switchyard/switchyardlaw14.do -/
def t12 (m : Amb) (v0 : Value) (x1 : Int) (x2 : Int) (x3 : Int) (H : Hp) (K : Value → Hp → Prop) : Prop :=
  (nw H ([.int .i64 x1, .int .i64 x2, .int .i64 x3]) 41 (fun a0 H1 =>
  (ldI .i64 H1 (a0.add 0) (fun i2 =>
  (br (i2 == 1) (
  (ldI .i64 H1 (a0.add 1) (fun i3 =>
  (inv Tryz.prog m v0 ("Load") ([.int .i64 i3]) H1 (fun w4 H5 =>
  (∃ i6 : Int, (must (
  w4 = .int .i64 i6) (
  (K (.int .i64 i6) H5))))))))) (
  (br (i2 == 2) (
  (ldI .i64 H1 (a0.add 1) (fun i7 =>
  (ldI .i64 H1 (a0.add 2) (fun i8 =>
  (inv Tryz.prog m v0 ("Store") ([.int .i64 i7, .int .i64 i8]) H1 (fun w9 H10 =>
  (must (
  w9 = .tuple #[]) (
  (K (.int .i64 0) H10)))))))))) (
  (br (i2 == 3) (
  (inv Tryz.prog m v0 ("Fence") ([]) H1 (fun w11 H12 =>
  (must (
  w11 = .tuple #[]) (
  (K (.int .i64 0) H12)))))) (
  (br (i2 == 4) (
  (ldI .i64 H1 (a0.add 1) (fun i13 =>
  (inv Tryz.prog m v0 ("Epoch") ([.int .i64 i13]) H1 (fun w14 H15 =>
  (∃ i16 : Int, (must (
  w14 = .int .i64 i16) (
  (K (.int .i64 i16) H15))))))))) (
  (br (i2 == 5) (
  (ldI .i64 H1 (a0.add 1) (fun i17 =>
  (inv Tryz.prog m v0 ("Kick") ([.int .i64 i17]) H1 (fun w18 H19 =>
  (must (
  w18 = .tuple #[]) (
  (K (.int .i64 0) H19)))))))) (
  (K (.int .i64 0) H1)))))))))))))))
theorem W12 (m : Amb) (v0 : Value) (x1 : Int) (x2 : Int) (x3 : Int) (H : Hp) (K : Value → Hp → Prop) : funcW Tryz.prog m [] Tryz.f12 [.c (.v v0), .g [.i .i64 x1, .i .i64 x2, .i .i64 x3]] H K = t12 m v0 x1 x2 x3 H K := by kernel_rfl
theorem S12 {m : Amb} {v0 : Value} {x1 : Int} {x2 : Int} {x3 : Int} {H : Hp} {K : Value → Hp → Prop} (h : t12 m v0 x1 x2 x3 H K) : CallsH Tryz.prog m 12 [v0, .agg #[.int .i64 x1, .int .i64 x2, .int .i64 x3]] H K :=
  callsH_of_W (args := [.c (.v v0), .g [.i .i64 x1, .i .i64 x2, .i .i64 x3]]) mixed Tryz.func12 ((W12 m v0 x1 x2 x3 H K).mpr h)

/-- switchyard/bus.New -/
def t14 (m : Amb) (x0 : Int) (x1 : Int) (x2 : Int) (H : Hp) (K : Value → Hp → Prop) : Prop :=
  (cl Tryz.prog m 46 ([.int .i64 x1]) H (fun w0 H1 =>
  (∃ r2 : Option Addr, (∃ i3 : Int, (must (
  w0 = .tuple #[.pointer r2, .int .i64 i3]) (
  (br (i3 != 0) (
  (K (.tuple #[.pointer none, .int .i64 2]) H1)) (
  (br (decide (x0 < 1)) (
  (K (.tuple #[.pointer none, .int .i64 2]) H1)) (
  (br (decide (x0 > 8)) (
  (K (.tuple #[.pointer none, .int .i64 2]) H1)) (
  (cl Tryz.prog m 47 ([.int .i64 x2]) H1 (fun w4 H5 =>
  (∃ r6 : Option Addr, (must (
  w4 = .pointer r6) (
  (br r6.isNone (
  (K (.tuple #[.pointer none, .int .i64 2]) H5)) (
  (nw H5 ([.pointer r2, .slice none 0 0]) 97 (fun a7 H8 =>
  (∃ I9 : Int → Hp → Prop, (∃ I10 : Int → Hp → Nat, ((I9 0 H8) ∧
  (∀ i11 : Int, (∀ H12 : Hp, (∀ l13 : Nat, (∀ j14 : Nat → Value, (((I9 i11 H12)) → 
  ((I10 i11 H12 = l13) → 
  (br (decide (i11 < x0)) (
  (ldS H12 (a7.add 1) (fun r15 l16 l17 =>
  (cl Tryz.prog m 47 ([.int .i64 x2]) H12 (fun w18 H19 =>
  (∃ r20 : Option Addr, (must (
  w18 = .pointer r20) (
  (must (
  (cont H19 (a7.add 1) (.slice r15 l16 l17))) (
  (nw H19 ([.pointer r20]) 93 (fun a21 H22 =>
  (must (
  (cont H22 (a7.add 1) (.slice r15 l16 l17))) (
  (rd H22 (some a21) 1 (fun cs23 =>
  (ap Tryz.prog 93 1 8 H22 r15 l16 l17 cs23 1 (fun r24 l25 l26 H27 =>
  (st H27 (a7.add 1) (.slice r24 l25 l26) (fun H28 =>
  ((I9 (wr .i64 (i11 + 1)) H28) ∧
  ((I10 (wr .i64 (i11 + 1)) H28).succ.le l13)))))))))))))))))))))) (
  (K (.tuple #[.pointer (some a7), .int .i64 0]) H12)))))))))))))))))))))))))))))))))
theorem W14 (m : Amb) (x0 : Int) (x1 : Int) (x2 : Int) (H : Hp) (K : Value → Hp → Prop) : funcW Tryz.prog m [⟨true, 7, [(35, (.i .i64))]⟩] Tryz.f14 [.c (.i .i64 x0), .c (.i .i64 x1), .c (.i .i64 x2)] H K = t14 m x0 x1 x2 H K := by kernel_rfl
theorem S14 {m : Amb} {x0 : Int} {x1 : Int} {x2 : Int} {H : Hp} {K : Value → Hp → Prop} (h : t14 m x0 x1 x2 H K) : CallsH Tryz.prog m 14 [.int .i64 x0, .int .i64 x1, .int .i64 x2] H K :=
  callsH_of_W (args := [.c (.i .i64 x0), .c (.i .i64 x1), .c (.i .i64 x2)]) mixed Tryz.func14 ((W14 m x0 x1 x2 H K).mpr h)

/-- switchyard/site.Right -/
def t15 (m : Amb) (x0 : Int) (x1 : Int) (x2 : Int) (H : Hp) (K : Value → Hp → Prop) : Prop :=
  (nw H ([.int .i64 x0, .int .i64 x1, .int .i64 x2]) 23 (fun a0 H1 =>
  (ldI .i64 H1 (a0.add 0) (fun i2 =>
  (cl Tryz.prog m 48 ([.int .i64 (wr .i64 (i2 - 1)), .int .i64 8]) H1 (fun w3 H4 =>
  (∃ e5 : Bool, (must (
  w3 = .bool e5) (
  (br e5 (
  (ldI .i64 H4 (a0.add 1) (fun i6 =>
  (cl Tryz.prog m 48 ([.int .i64 (wr .i64 (i6 - 1)), .int .i64 65536]) H4 (fun w7 H8 =>
  (∃ e9 : Bool, (must (
  w7 = .bool e9) (
  (br e9 (
  (ldI .i64 H8 (a0.add 2) (fun i10 =>
  (cl Tryz.prog m 48 ([.int .i64 (wr .i64 (i10 - 1)), .int .i64 16]) H8 (fun w11 H12 =>
  (∃ e13 : Bool, (must (
  w11 = .bool e13) (
  (K (.bool e13) H12))))))))) (
  (K (.bool false) H8))))))))))) (
  (K (.bool false) H4))))))))))))
theorem W15 (m : Amb) (x0 : Int) (x1 : Int) (x2 : Int) (H : Hp) (K : Value → Hp → Prop) : funcW Tryz.prog m [] Tryz.f15 [.g [.i .i64 x0, .i .i64 x1, .i .i64 x2]] H K = t15 m x0 x1 x2 H K := by kernel_rfl
theorem S15 {m : Amb} {x0 : Int} {x1 : Int} {x2 : Int} {H : Hp} {K : Value → Hp → Prop} (h : t15 m x0 x1 x2 H K) : CallsH Tryz.prog m 15 [.agg #[.int .i64 x0, .int .i64 x1, .int .i64 x2]] H K :=
  callsH_of_W (args := [.g [.i .i64 x0, .i .i64 x1, .i .i64 x2]]) mixed Tryz.func15 ((W15 m x0 x1 x2 H K).mpr h)

/-- switchyard/mbox.New -/
def t16 (m : Amb) (x0 : Int) (H : Hp) (K : Value → Hp → Prop) : Prop :=
  (br (decide (x0 < 1)) (
  (K (.pointer none) H)) (
  (br (decide (x0 > 8)) (
  (K (.pointer none) H)) (
  (nw H ([.slice none 0 0]) 101 (fun a0 H1 =>
  (∃ I2 : Int → Hp → Prop, (∃ I3 : Int → Hp → Nat, ((I2 0 H1) ∧
  (∀ i4 : Int, (∀ H5 : Hp, (∀ l6 : Nat, (∀ j7 : Nat → Value, (((I2 i4 H5)) → 
  ((I3 i4 H5 = l6) → 
  (br (decide (i4 < x0)) (
  (ldS H5 (a0.add 0) (fun r8 l9 l10 =>
  (cl Tryz.prog m 49 ([.int .i64 16]) H5 (fun w11 H12 =>
  (∃ r13 : Option Addr, (must (
  w11 = .pointer r13) (
  (must (
  (cont H12 (a0.add 0) (.slice r8 l9 l10))) (
  (nw H12 ([.int .i64 0, .pointer r13]) 105 (fun a14 H15 =>
  (must (
  (cont H15 (a0.add 0) (.slice r8 l9 l10))) (
  (rd H15 (some a14) 2 (fun cs16 =>
  (ap Tryz.prog 105 2 16 H15 r8 l9 l10 cs16 1 (fun r17 l18 l19 H20 =>
  (st H20 (a0.add 0) (.slice r17 l18 l19) (fun H21 =>
  ((I2 (wr .i64 (i4 + 1)) H21) ∧
  ((I3 (wr .i64 (i4 + 1)) H21).succ.le l6)))))))))))))))))))))) (
  (K (.pointer (some a0)) H5))))))))))))))))))
theorem W16 (m : Amb) (x0 : Int) (H : Hp) (K : Value → Hp → Prop) : funcW Tryz.prog m [⟨true, 6, [(13, (.i .i64))]⟩] Tryz.f16 [.c (.i .i64 x0)] H K = t16 m x0 H K := by kernel_rfl
theorem S16 {m : Amb} {x0 : Int} {H : Hp} {K : Value → Hp → Prop} (h : t16 m x0 H K) : CallsH Tryz.prog m 16 [.int .i64 x0] H K :=
  callsH_of_W (args := [.c (.i .i64 x0)]) mixed Tryz.func16 ((W16 m x0 H K).mpr h)

/-- switchyard/locks.New -/
def t17 (m : Amb) (x0 : Int) (x1 : Int) (H : Hp) (K : Value → Hp → Prop) : Prop :=
  (br (decide (x0 < 1)) (
  (K (.pointer none) H)) (
  (br (decide (x0 > 8)) (
  (K (.pointer none) H)) (
  (br (decide (x1 < 1)) (
  (K (.pointer none) H)) (
  (br (decide (x1 > 16)) (
  (K (.pointer none) H)) (
  (nw H ([.int .i64 x0, .int .i64 x1, .int .i64 0, .int .i64 0, .int .i64 0, .int .i64 0, .int .i64 0, .int .i64 0, .int .i64 0, .int .i64 0, .int .i64 0, .int .i64 0, .int .i64 0, .int .i64 0, .int .i64 0, .int .i64 0, .int .i64 0, .int .i64 0]) 108 (fun a0 H1 =>
  (K (.pointer (some a0)) H1)))))))))))
theorem W17 (m : Amb) (x0 : Int) (x1 : Int) (H : Hp) (K : Value → Hp → Prop) : funcW Tryz.prog m [] Tryz.f17 [.c (.i .i64 x0), .c (.i .i64 x1)] H K = t17 m x0 x1 H K := by kernel_rfl
theorem S17 {m : Amb} {x0 : Int} {x1 : Int} {H : Hp} {K : Value → Hp → Prop} (h : t17 m x0 x1 H K) : CallsH Tryz.prog m 17 [.int .i64 x0, .int .i64 x1] H K :=
  callsH_of_W (args := [.c (.i .i64 x0), .c (.i .i64 x1)]) mixed Tryz.func17 ((W17 m x0 x1 H K).mpr h)

/-- switchyard/gate.New -/
def t18 (m : Amb) (x0 : Int) (H : Hp) (K : Value → Hp → Prop) : Prop :=
  (br (decide (x0 < 1)) (
  (K (.pointer none) H)) (
  (br (decide (x0 > 8)) (
  (K (.pointer none) H)) (
  (nw H ([.int .i64 x0, .int .i64 0, .int .i64 0, .int .i64 0, .int .i64 0, .int .i64 0, .int .i64 0, .int .i64 0, .int .i64 0, .bool false, .bool false, .bool false, .bool false, .bool false, .bool false, .bool false, .bool false]) 112 (fun a0 H1 =>
  (K (.pointer (some a0)) H1)))))))
theorem W18 (m : Amb) (x0 : Int) (H : Hp) (K : Value → Hp → Prop) : funcW Tryz.prog m [] Tryz.f18 [.c (.i .i64 x0)] H K = t18 m x0 H K := by kernel_rfl
theorem S18 {m : Amb} {x0 : Int} {H : Hp} {K : Value → Hp → Prop} (h : t18 m x0 H K) : CallsH Tryz.prog m 18 [.int .i64 x0] H K :=
  callsH_of_W (args := [.c (.i .i64 x0)]) mixed Tryz.func18 ((W18 m x0 H K).mpr h)

/-- (switchyard/soc.Soc).Drain -/
def t22 (m : Amb) (p0 : Option Addr) (x1 : Int) (H : Hp) (K : Value → Hp → Prop) : Prop :=
  (br p0.isNone (
  (K (.tuple #[.bool false, .int .i64 1]) H)) (
  (nn p0 (fun a0 =>
  (ldP H (a0.add 3) (fun r1 =>
  (cl Tryz.prog m 52 ([.pointer r1, .int .i64 x1]) H (fun w2 H3 =>
  (∃ e4 : Bool, (∃ i5 : Int, (must (
  w2 = .tuple #[.bool e4, .int .i64 i5]) (
  (K (.tuple #[.bool e4, .int .i64 i5]) H3)))))))))))))
theorem W22 (m : Amb) (p0 : Option Addr) (x1 : Int) (H : Hp) (K : Value → Hp → Prop) : funcW Tryz.prog m [] Tryz.f22 [.c (.p p0), .c (.i .i64 x1)] H K = t22 m p0 x1 H K := by kernel_rfl
theorem S22 {m : Amb} {p0 : Option Addr} {x1 : Int} {H : Hp} {K : Value → Hp → Prop} (h : t22 m p0 x1 H K) : CallsH Tryz.prog m 22 [.pointer p0, .int .i64 x1] H K :=
  callsH_of_W (args := [.c (.p p0), .c (.i .i64 x1)]) mixed Tryz.func22 ((W22 m p0 x1 H K).mpr h)

/-- (switchyard/soc.Soc).Swap -/
def t23 (m : Amb) (p0 : Option Addr) (x1 : Int) (x2 : Int) (x3 : Int) (H : Hp) (K : Value → Hp → Prop) : Prop :=
  (cl Tryz.prog m 30 ([.pointer p0, .int .i64 x1, .int .i64 x2]) H (fun w0 H1 =>
  (∃ i2 : Int, (∃ i3 : Int, (∃ i4 : Int, (∃ i5 : Int, (must (
  w0 = .tuple #[.agg #[.int .i64 i2, .int .i64 i3, .int .i64 i4], .int .i64 i5]) (
  (nw H1 (zc Tryz.prog 77) 77 (fun a6 H7 =>
  (st H7 (a6.add 0) (.int .i64 i2) (fun H8 =>
  (st H8 (a6.add 1) (.int .i64 i3) (fun H9 =>
  (st H9 (a6.add 2) (.int .i64 i4) (fun H10 =>
  (br (i5 == 0) (
  (ldI .i64 H10 (a6.add 0) (fun i11 =>
  (br (i11 != 1) (
  (br (4 != 0) (
  (K (.tuple #[.int .i64 0, .int .i64 4]) H10)) (
  (nn p0 (fun a12 =>
  (ldP H10 (a12.add 3) (fun r13 =>
  (cl Tryz.prog m 53 ([.pointer r13, .int .i64 x1, .int .i64 x2, .int .i64 x3]) H10 (fun w14 H15 =>
  (∃ i16 : Int, (∃ i17 : Int, (must (
  w14 = .tuple #[.int .i64 i16, .int .i64 i17]) (
  (K (.tuple #[.int .i64 i16, .int .i64 i17]) H15)))))))))))))) (
  (br (i5 != 0) (
  (K (.tuple #[.int .i64 0, .int .i64 i5]) H10)) (
  (nn p0 (fun a18 =>
  (ldP H10 (a18.add 3) (fun r19 =>
  (cl Tryz.prog m 53 ([.pointer r19, .int .i64 x1, .int .i64 x2, .int .i64 x3]) H10 (fun w20 H21 =>
  (∃ i22 : Int, (∃ i23 : Int, (must (
  w20 = .tuple #[.int .i64 i22, .int .i64 i23]) (
  (K (.tuple #[.int .i64 i22, .int .i64 i23]) H21)))))))))))))))))) (
  (br (i5 != 0) (
  (K (.tuple #[.int .i64 0, .int .i64 i5]) H10)) (
  (nn p0 (fun a24 =>
  (ldP H10 (a24.add 3) (fun r25 =>
  (cl Tryz.prog m 53 ([.pointer r25, .int .i64 x1, .int .i64 x2, .int .i64 x3]) H10 (fun w26 H27 =>
  (∃ i28 : Int, (∃ i29 : Int, (must (
  w26 = .tuple #[.int .i64 i28, .int .i64 i29]) (
  (K (.tuple #[.int .i64 i28, .int .i64 i29]) H27)))))))))))))))))))))))))))))))
theorem W23 (m : Amb) (p0 : Option Addr) (x1 : Int) (x2 : Int) (x3 : Int) (H : Hp) (K : Value → Hp → Prop) : funcW Tryz.prog m [] Tryz.f23 [.c (.p p0), .c (.i .i64 x1), .c (.i .i64 x2), .c (.i .i64 x3)] H K = t23 m p0 x1 x2 x3 H K := by kernel_rfl
theorem S23 {m : Amb} {p0 : Option Addr} {x1 : Int} {x2 : Int} {x3 : Int} {H : Hp} {K : Value → Hp → Prop} (h : t23 m p0 x1 x2 x3 H K) : CallsH Tryz.prog m 23 [.pointer p0, .int .i64 x1, .int .i64 x2, .int .i64 x3] H K :=
  callsH_of_W (args := [.c (.p p0), .c (.i .i64 x1), .c (.i .i64 x2), .c (.i .i64 x3)]) mixed Tryz.func23 ((W23 m p0 x1 x2 x3 H K).mpr h)

/-- (switchyard/soc.Soc).Hold -/
def t24 (m : Amb) (p0 : Option Addr) (x1 : Int) (H : Hp) (K : Value → Hp → Prop) : Prop :=
  (br p0.isNone (
  (K (.int .i64 1) H)) (
  (nn p0 (fun a0 =>
  (ldP H (a0.add 6) (fun r1 =>
  (cl Tryz.prog m 54 ([.pointer r1, .int .i64 x1]) H (fun w2 H3 =>
  (∃ i4 : Int, (must (
  w2 = .int .i64 i4) (
  (br (i4 != 0) (
  (K (.int .i64 i4) H3)) (
  (nn p0 (fun a5 =>
  (ldP H3 (a5.add 3) (fun r6 =>
  (cl Tryz.prog m 55 ([.pointer r6, .int .i64 x1]) H3 (fun w7 H8 =>
  (∃ i9 : Int, (∃ i10 : Int, (must (
  w7 = .tuple #[.int .i64 i9, .int .i64 i10]) (
  (nn p0 (fun a11 =>
  (ldP H8 (a11.add 4) (fun r12 =>
  (cl Tryz.prog m 56 ([.pointer r12, .int .i64 x1]) H8 (fun w13 H14 =>
  (∃ i15 : Int, (∃ i16 : Int, (must (
  w13 = .tuple #[.int .i64 i15, .int .i64 i16]) (
  (nn p0 (fun a17 =>
  (ldP H14 (a17.add 5) (fun r18 =>
  (cl Tryz.prog m 57 ([.pointer r18, .int .i64 x1]) H14 (fun w19 H20 =>
  (∃ i21 : Int, (∃ i22 : Int, (must (
  w19 = .tuple #[.int .i64 i21, .int .i64 i22]) (
  (K (.int .i64 0) H20))))))))))))))))))))))))))))))))))))))))))))
theorem W24 (m : Amb) (p0 : Option Addr) (x1 : Int) (H : Hp) (K : Value → Hp → Prop) : funcW Tryz.prog m [] Tryz.f24 [.c (.p p0), .c (.i .i64 x1)] H K = t24 m p0 x1 H K := by kernel_rfl
theorem S24 {m : Amb} {p0 : Option Addr} {x1 : Int} {H : Hp} {K : Value → Hp → Prop} (h : t24 m p0 x1 H K) : CallsH Tryz.prog m 24 [.pointer p0, .int .i64 x1] H K :=
  callsH_of_W (args := [.c (.p p0), .c (.i .i64 x1)]) mixed Tryz.func24 ((W24 m p0 x1 H K).mpr h)

/-- (switchyard/soc.Soc).Start -/
def t25 (m : Amb) (p0 : Option Addr) (x1 : Int) (H : Hp) (K : Value → Hp → Prop) : Prop :=
  (br p0.isNone (
  (K (.int .i64 1) H)) (
  (nn p0 (fun a0 =>
  (ldP H (a0.add 6) (fun r1 =>
  (cl Tryz.prog m 58 ([.pointer r1, .int .i64 x1]) H (fun w2 H3 =>
  (∃ i4 : Int, (must (
  w2 = .int .i64 i4) (
  (K (.int .i64 i4) H3))))))))))))
theorem W25 (m : Amb) (p0 : Option Addr) (x1 : Int) (H : Hp) (K : Value → Hp → Prop) : funcW Tryz.prog m [] Tryz.f25 [.c (.p p0), .c (.i .i64 x1)] H K = t25 m p0 x1 H K := by kernel_rfl
theorem S25 {m : Amb} {p0 : Option Addr} {x1 : Int} {H : Hp} {K : Value → Hp → Prop} (h : t25 m p0 x1 H K) : CallsH Tryz.prog m 25 [.pointer p0, .int .i64 x1] H K :=
  callsH_of_W (args := [.c (.p p0), .c (.i .i64 x1)]) mixed Tryz.func25 ((W25 m p0 x1 H K).mpr h)

/-- (switchyard/bus.Bus).Clone -/
def t26 (m : Amb) (p0 : Option Addr) (H : Hp) (K : Value → Hp → Prop) : Prop :=
  (br p0.isNone (
  (K (.pointer none) H)) (
  (nn p0 (fun a0 =>
  (ldP H (a0.add 0) (fun r1 =>
  (cl Tryz.prog m 59 ([.pointer r1]) H (fun w2 H3 =>
  (∃ r4 : Option Addr, (must (
  w2 = .pointer r4) (
  (nw H3 ([.pointer r4, .slice none 0 0]) 97 (fun a5 H6 =>
  (nn p0 (fun a7 =>
  (ldS H6 (a7.add 1) (fun r8 l9 l10 =>
  (∃ I11 : Int → Hp → Prop, (∃ I12 : Int → Hp → Nat, ((I11 0 H6) ∧
  (∀ i13 : Int, (∀ H14 : Hp, (∀ l15 : Nat, (∀ j16 : Nat → Value, (((I11 i13 H14)) → 
  ((I12 i13 H14 = l15) → 
  (br (decide (i13 < (l9 : Int))) (
  (ixS r8 i13 l9 (fun a17 =>
  (ldP H14 (a17.add (i13.toNat * 1)) (fun r18 =>
  (ldS H14 (a5.add 1) (fun r19 l20 l21 =>
  (cl Tryz.prog m 60 ([.pointer r18]) H14 (fun w22 H23 =>
  (∃ r24 : Option Addr, (must (
  w22 = .pointer r24) (
  (must (
  (cont H23 (a5.add 1) (.slice r19 l20 l21))) (
  (nw H23 ([.pointer r24]) 93 (fun a25 H26 =>
  (must (
  (cont H26 (a5.add 1) (.slice r19 l20 l21))) (
  (rd H26 (some a25) 1 (fun cs27 =>
  (ap Tryz.prog 93 1 8 H26 r19 l20 l21 cs27 1 (fun r28 l29 l30 H31 =>
  (st H31 (a5.add 1) (.slice r28 l29 l30) (fun H32 =>
  ((I11 (wr .i64 (i13 + 1)) H32) ∧
  ((I12 (wr .i64 (i13 + 1)) H32).succ.le l15)))))))))))))))))))))))))) (
  (K (.pointer (some a5)) H14)))))))))))))))))))))))))))))
theorem W26 (m : Amb) (p0 : Option Addr) (H : Hp) (K : Value → Hp → Prop) : funcW Tryz.prog m [⟨true, 6, [(20, (.i .i64))]⟩] Tryz.f26 [.c (.p p0)] H K = t26 m p0 H K := by kernel_rfl
theorem S26 {m : Amb} {p0 : Option Addr} {H : Hp} {K : Value → Hp → Prop} (h : t26 m p0 H K) : CallsH Tryz.prog m 26 [.pointer p0] H K :=
  callsH_of_W (args := [.c (.p p0)]) mixed Tryz.func26 ((W26 m p0 H K).mpr h)

/-- (switchyard/mbox.Box).Clone -/
def t27 (m : Amb) (p0 : Option Addr) (H : Hp) (K : Value → Hp → Prop) : Prop :=
  (br p0.isNone (
  (K (.pointer none) H)) (
  (nw H ([.slice none 0 0]) 101 (fun a0 H1 =>
  (nn p0 (fun a2 =>
  (ldS H1 (a2.add 0) (fun r3 l4 l5 =>
  (∃ I6 : Int → Hp → Prop, (∃ I7 : Int → Hp → Nat, ((I6 0 H1) ∧
  (∀ i8 : Int, (∀ H9 : Hp, (∀ l10 : Nat, (∀ j11 : Nat → Value, (((I6 i8 H9)) → 
  ((I7 i8 H9 = l10) → 
  (br (decide (i8 < (l4 : Int))) (
  (ixS r3 i8 l4 (fun a12 =>
  (ldI .i64 H9 ((a12.add (i8.toNat * 2)).add 0) (fun i13 =>
  (ldP H9 ((a12.add (i8.toNat * 2)).add 1) (fun r14 =>
  (nw H9 (zc Tryz.prog 105) 105 (fun a15 H16 =>
  (st H16 (a15.add 0) (.int .i64 i13) (fun H17 =>
  (st H17 (a15.add 1) (.pointer r14) (fun H18 =>
  (ldS H18 (a0.add 0) (fun r19 l20 l21 =>
  (ldI .i64 H18 (a15.add 0) (fun i22 =>
  (ldP H18 (a15.add 1) (fun r23 =>
  (cl Tryz.prog m 61 ([.pointer r23]) H18 (fun w24 H25 =>
  (∃ r26 : Option Addr, (must (
  w24 = .pointer r26) (
  (must (
  (cont H25 (a15.add 0) (.int .i64 i22))) (
  (must (
  (cont H25 (a0.add 0) (.slice r19 l20 l21))) (
  (nw H25 ([.int .i64 i22, .pointer r26]) 105 (fun a27 H28 =>
  (must (
  (cont H28 (a0.add 0) (.slice r19 l20 l21))) (
  (rd H28 (some a27) 2 (fun cs29 =>
  (ap Tryz.prog 105 2 16 H28 r19 l20 l21 cs29 1 (fun r30 l31 l32 H33 =>
  (st H33 (a0.add 0) (.slice r30 l31 l32) (fun H34 =>
  ((I6 (wr .i64 (i8 + 1)) H34) ∧
  ((I7 (wr .i64 (i8 + 1)) H34).succ.le l10)))))))))))))))))))))))))))))))))))))))) (
  (K (.pointer (some a0)) H9))))))))))))))))))))
theorem W27 (m : Amb) (p0 : Option Addr) (H : Hp) (K : Value → Hp → Prop) : funcW Tryz.prog m [⟨true, 6, [(15, (.i .i64))]⟩] Tryz.f27 [.c (.p p0)] H K = t27 m p0 H K := by kernel_rfl
theorem S27 {m : Amb} {p0 : Option Addr} {H : Hp} {K : Value → Hp → Prop} (h : t27 m p0 H K) : CallsH Tryz.prog m 27 [.pointer p0] H K :=
  callsH_of_W (args := [.c (.p p0)]) mixed Tryz.func27 ((W27 m p0 H K).mpr h)

/-- (switchyard/locks.Bank).Clone -/
def t28 (m : Amb) (p0 : Option Addr) (H : Hp) (K : Value → Hp → Prop) : Prop :=
  (br p0.isNone (
  (K (.pointer none) H)) (
  (nn p0 (fun a0 =>
  (ldI .i64 H (a0.add 0) (fun i1 =>
  (ldI .i64 H (a0.add 1) (fun i2 =>
  (ldI .i64 H (a0.add 2) (fun i3 =>
  (ldI .i64 H (a0.add 3) (fun i4 =>
  (ldI .i64 H (a0.add 4) (fun i5 =>
  (ldI .i64 H (a0.add 5) (fun i6 =>
  (ldI .i64 H (a0.add 6) (fun i7 =>
  (ldI .i64 H (a0.add 7) (fun i8 =>
  (ldI .i64 H (a0.add 8) (fun i9 =>
  (ldI .i64 H (a0.add 9) (fun i10 =>
  (ldI .i64 H (a0.add 10) (fun i11 =>
  (ldI .i64 H (a0.add 11) (fun i12 =>
  (ldI .i64 H (a0.add 12) (fun i13 =>
  (ldI .i64 H (a0.add 13) (fun i14 =>
  (ldI .i64 H (a0.add 14) (fun i15 =>
  (ldI .i64 H (a0.add 15) (fun i16 =>
  (ldI .i64 H (a0.add 16) (fun i17 =>
  (ldI .i64 H (a0.add 17) (fun i18 =>
  (nw H (zc Tryz.prog 108) 108 (fun a19 H20 =>
  (st H20 (a19.add 0) (.int .i64 i1) (fun H21 =>
  (st H21 (a19.add 1) (.int .i64 i2) (fun H22 =>
  (st H22 (a19.add 2) (.int .i64 i3) (fun H23 =>
  (st H23 (a19.add 3) (.int .i64 i4) (fun H24 =>
  (st H24 (a19.add 4) (.int .i64 i5) (fun H25 =>
  (st H25 (a19.add 5) (.int .i64 i6) (fun H26 =>
  (st H26 (a19.add 6) (.int .i64 i7) (fun H27 =>
  (st H27 (a19.add 7) (.int .i64 i8) (fun H28 =>
  (st H28 (a19.add 8) (.int .i64 i9) (fun H29 =>
  (st H29 (a19.add 9) (.int .i64 i10) (fun H30 =>
  (st H30 (a19.add 10) (.int .i64 i11) (fun H31 =>
  (st H31 (a19.add 11) (.int .i64 i12) (fun H32 =>
  (st H32 (a19.add 12) (.int .i64 i13) (fun H33 =>
  (st H33 (a19.add 13) (.int .i64 i14) (fun H34 =>
  (st H34 (a19.add 14) (.int .i64 i15) (fun H35 =>
  (st H35 (a19.add 15) (.int .i64 i16) (fun H36 =>
  (st H36 (a19.add 16) (.int .i64 i17) (fun H37 =>
  (st H37 (a19.add 17) (.int .i64 i18) (fun H38 =>
  (K (.pointer (some a19)) H38)))))))))))))))))))))))))))))))))))))))))))))))))))))))))))))))))))))))))))))))
theorem W28 (m : Amb) (p0 : Option Addr) (H : Hp) (K : Value → Hp → Prop) : funcW Tryz.prog m [] Tryz.f28 [.c (.p p0)] H K = t28 m p0 H K := by kernel_rfl
theorem S28 {m : Amb} {p0 : Option Addr} {H : Hp} {K : Value → Hp → Prop} (h : t28 m p0 H K) : CallsH Tryz.prog m 28 [.pointer p0] H K :=
  callsH_of_W (args := [.c (.p p0)]) mixed Tryz.func28 ((W28 m p0 H K).mpr h)

/-- (switchyard/gate.Gate).Clone -/
def t29 (m : Amb) (p0 : Option Addr) (H : Hp) (K : Value → Hp → Prop) : Prop :=
  (br p0.isNone (
  (K (.pointer none) H)) (
  (nn p0 (fun a0 =>
  (ldI .i64 H (a0.add 0) (fun i1 =>
  (ldI .i64 H (a0.add 1) (fun i2 =>
  (ldI .i64 H (a0.add 2) (fun i3 =>
  (ldI .i64 H (a0.add 3) (fun i4 =>
  (ldI .i64 H (a0.add 4) (fun i5 =>
  (ldI .i64 H (a0.add 5) (fun i6 =>
  (ldI .i64 H (a0.add 6) (fun i7 =>
  (ldI .i64 H (a0.add 7) (fun i8 =>
  (ldI .i64 H (a0.add 8) (fun i9 =>
  (ldB H (a0.add 9) (fun e10 =>
  (ldB H (a0.add 10) (fun e11 =>
  (ldB H (a0.add 11) (fun e12 =>
  (ldB H (a0.add 12) (fun e13 =>
  (ldB H (a0.add 13) (fun e14 =>
  (ldB H (a0.add 14) (fun e15 =>
  (ldB H (a0.add 15) (fun e16 =>
  (ldB H (a0.add 16) (fun e17 =>
  (nw H (zc Tryz.prog 112) 112 (fun a18 H19 =>
  (st H19 (a18.add 0) (.int .i64 i1) (fun H20 =>
  (st H20 (a18.add 1) (.int .i64 i2) (fun H21 =>
  (st H21 (a18.add 2) (.int .i64 i3) (fun H22 =>
  (st H22 (a18.add 3) (.int .i64 i4) (fun H23 =>
  (st H23 (a18.add 4) (.int .i64 i5) (fun H24 =>
  (st H24 (a18.add 5) (.int .i64 i6) (fun H25 =>
  (st H25 (a18.add 6) (.int .i64 i7) (fun H26 =>
  (st H26 (a18.add 7) (.int .i64 i8) (fun H27 =>
  (st H27 (a18.add 8) (.int .i64 i9) (fun H28 =>
  (st H28 (a18.add 9) (.bool e10) (fun H29 =>
  (st H29 (a18.add 10) (.bool e11) (fun H30 =>
  (st H30 (a18.add 11) (.bool e12) (fun H31 =>
  (st H31 (a18.add 12) (.bool e13) (fun H32 =>
  (st H32 (a18.add 13) (.bool e14) (fun H33 =>
  (st H33 (a18.add 14) (.bool e15) (fun H34 =>
  (st H34 (a18.add 15) (.bool e16) (fun H35 =>
  (st H35 (a18.add 16) (.bool e17) (fun H36 =>
  (K (.pointer (some a18)) H36)))))))))))))))))))))))))))))))))))))))))))))))))))))))))))))))))))))))))))
theorem W29 (m : Amb) (p0 : Option Addr) (H : Hp) (K : Value → Hp → Prop) : funcW Tryz.prog m [] Tryz.f29 [.c (.p p0)] H K = t29 m p0 H K := by kernel_rfl
theorem S29 {m : Amb} {p0 : Option Addr} {H : Hp} {K : Value → Hp → Prop} (h : t29 m p0 H K) : CallsH Tryz.prog m 29 [.pointer p0] H K :=
  callsH_of_W (args := [.c (.p p0)]) mixed Tryz.func29 ((W29 m p0 H K).mpr h)

/-- (switchyard/soc.Soc).at -/
def t30 (m : Amb) (p0 : Option Addr) (x1 : Int) (x2 : Int) (H : Hp) (K : Value → Hp → Prop) : Prop :=
  (nw H (zc Tryz.prog 77) 77 (fun a0 H1 =>
  (cl Tryz.prog m 41 ([.pointer p0, .int .i64 x1]) H1 (fun w2 H3 =>
  (∃ i4 : Int, (must (
  w2 = .int .i64 i4) (
  (br (i4 != 0) (
  (st H3 (a0.add 0) (.int .i64 0) (fun H5 =>
  (st H5 (a0.add 1) (.int .i64 0) (fun H6 =>
  (st H6 (a0.add 2) (.int .i64 0) (fun H7 =>
  (ldI .i64 H7 (a0.add 0) (fun i8 =>
  (ldI .i64 H7 (a0.add 1) (fun i9 =>
  (ldI .i64 H7 (a0.add 2) (fun i10 =>
  (K (.tuple #[.agg #[.int .i64 i8, .int .i64 i9, .int .i64 i10], .int .i64 i4]) H7)))))))))))))) (
  (nn p0 (fun a11 =>
  (ldI .i64 H3 ((a11.add 0).add 0) (fun i12 =>
  (ldI .i64 H3 ((a11.add 0).add 1) (fun i13 =>
  (ldI .i64 H3 ((a11.add 0).add 2) (fun i14 =>
  (cl Tryz.prog m 62 ([.agg #[.int .i64 i12, .int .i64 i13, .int .i64 i14], .int .i64 x2]) H3 (fun w15 H16 =>
  (∃ i17 : Int, (∃ i18 : Int, (∃ i19 : Int, (∃ e20 : Bool, (must (
  w15 = .tuple #[.agg #[.int .i64 i17, .int .i64 i18, .int .i64 i19], .bool e20]) (
  (nw H16 (zc Tryz.prog 77) 77 (fun a21 H22 =>
  (st H22 (a21.add 0) (.int .i64 i17) (fun H23 =>
  (st H23 (a21.add 1) (.int .i64 i18) (fun H24 =>
  (st H24 (a21.add 2) (.int .i64 i19) (fun H25 =>
  (br (!e20) (
  (st H25 (a0.add 0) (.int .i64 0) (fun H26 =>
  (st H26 (a0.add 1) (.int .i64 0) (fun H27 =>
  (st H27 (a0.add 2) (.int .i64 0) (fun H28 =>
  (ldI .i64 H28 (a0.add 0) (fun i29 =>
  (ldI .i64 H28 (a0.add 1) (fun i30 =>
  (ldI .i64 H28 (a0.add 2) (fun i31 =>
  (K (.tuple #[.agg #[.int .i64 i29, .int .i64 i30, .int .i64 i31], .int .i64 4]) H28)))))))))))))) (
  (ldI .i64 H25 (a21.add 0) (fun i32 =>
  (ldI .i64 H25 (a21.add 1) (fun i33 =>
  (ldI .i64 H25 (a21.add 2) (fun i34 =>
  (st H25 (a0.add 0) (.int .i64 i32) (fun H35 =>
  (st H35 (a0.add 1) (.int .i64 i33) (fun H36 =>
  (st H36 (a0.add 2) (.int .i64 i34) (fun H37 =>
  (ldI .i64 H37 (a0.add 0) (fun i38 =>
  (ldI .i64 H37 (a0.add 1) (fun i39 =>
  (ldI .i64 H37 (a0.add 2) (fun i40 =>
  (K (.tuple #[.agg #[.int .i64 i38, .int .i64 i39, .int .i64 i40], .int .i64 0]) H37))))))))))))))))))))))))))))))))))))))))))))))))))))))
theorem W30 (m : Amb) (p0 : Option Addr) (x1 : Int) (x2 : Int) (H : Hp) (K : Value → Hp → Prop) : funcW Tryz.prog m [] Tryz.f30 [.c (.p p0), .c (.i .i64 x1), .c (.i .i64 x2)] H K = t30 m p0 x1 x2 H K := by kernel_rfl
theorem S30 {m : Amb} {p0 : Option Addr} {x1 : Int} {x2 : Int} {H : Hp} {K : Value → Hp → Prop} (h : t30 m p0 x1 x2 H K) : CallsH Tryz.prog m 30 [.pointer p0, .int .i64 x1, .int .i64 x2] H K :=
  callsH_of_W (args := [.c (.p p0), .c (.i .i64 x1), .c (.i .i64 x2)]) mixed Tryz.func30 ((W30 m p0 x1 x2 H K).mpr h)

/-- (switchyard/bus.Bus).Load -/
def t31 (m : Amb) (p0 : Option Addr) (x1 : Int) (x2 : Int) (H : Hp) (K : Value → Hp → Prop) : Prop :=
  (nw H ([.pointer p0]) 49 (fun a0 H1 =>
  (nw H1 ([.int .i64 x2]) 3 (fun a2 H3 =>
  (nw H3 (zc Tryz.prog 3) 3 (fun a4 H5 =>
  (ldP H5 a0 (fun r6 =>
  (cl Tryz.prog m 63 ([.pointer r6, .int .i64 x1, .func (.func 64) #[] #[.pointer (some a0), .pointer (some a2), .pointer (some a4)]]) H5 (fun w7 H8 =>
  (∃ i9 : Int, (must (
  w7 = .int .i64 i9) (
  (ldI .i64 H8 a4 (fun i10 =>
  (st H8 a4 (.int .i64 i10) (fun H11 =>
  (ldI .i64 H11 a4 (fun i12 =>
  (K (.tuple #[.int .i64 i12, .int .i64 i9]) H11))))))))))))))))))))
theorem W31 (m : Amb) (p0 : Option Addr) (x1 : Int) (x2 : Int) (H : Hp) (K : Value → Hp → Prop) : funcW Tryz.prog m [] Tryz.f31 [.c (.p p0), .c (.i .i64 x1), .c (.i .i64 x2)] H K = t31 m p0 x1 x2 H K := by kernel_rfl
theorem S31 {m : Amb} {p0 : Option Addr} {x1 : Int} {x2 : Int} {H : Hp} {K : Value → Hp → Prop} (h : t31 m p0 x1 x2 H K) : CallsH Tryz.prog m 31 [.pointer p0, .int .i64 x1, .int .i64 x2] H K :=
  callsH_of_W (args := [.c (.p p0), .c (.i .i64 x1), .c (.i .i64 x2)]) mixed Tryz.func31 ((W31 m p0 x1 x2 H K).mpr h)

/-- (switchyard/bus.Bus).Fence -/
def t32 (m : Amb) (p0 : Option Addr) (x1 : Int) (H : Hp) (K : Value → Hp → Prop) : Prop :=
  (nw H ([.pointer p0]) 49 (fun a0 H1 =>
  (nw H1 (zc Tryz.prog 3) 3 (fun a2 H3 =>
  (ldP H3 a0 (fun r4 =>
  (cl Tryz.prog m 63 ([.pointer r4, .int .i64 x1, .func (.func 67) #[] #[.pointer (some a0), .pointer (some a2)]]) H3 (fun w5 H6 =>
  (∃ i7 : Int, (must (
  w5 = .int .i64 i7) (
  (ldI .i64 H6 a2 (fun i8 =>
  (st H6 a2 (.int .i64 i8) (fun H9 =>
  (ldI .i64 H9 a2 (fun i10 =>
  (K (.tuple #[.int .i64 i10, .int .i64 i7]) H9))))))))))))))))))
theorem W32 (m : Amb) (p0 : Option Addr) (x1 : Int) (H : Hp) (K : Value → Hp → Prop) : funcW Tryz.prog m [] Tryz.f32 [.c (.p p0), .c (.i .i64 x1)] H K = t32 m p0 x1 H K := by kernel_rfl
theorem S32 {m : Amb} {p0 : Option Addr} {x1 : Int} {H : Hp} {K : Value → Hp → Prop} (h : t32 m p0 x1 H K) : CallsH Tryz.prog m 32 [.pointer p0, .int .i64 x1] H K :=
  callsH_of_W (args := [.c (.p p0), .c (.i .i64 x1)]) mixed Tryz.func32 ((W32 m p0 x1 H K).mpr h)

/-- (switchyard/soc.Soc).register -/
def t33 (m : Amb) (p0 : Option Addr) (x1 : Int) (x2 : Int) (x3 : Int) (x4 : Int) (H : Hp) (K : Value → Hp → Prop) : Prop :=
  (nw H ([.int .i64 x2, .int .i64 x3, .int .i64 x4]) 77 (fun a0 H1 =>
  (ldI .i64 H1 (a0.add 0) (fun i2 =>
  (br (i2 == 3) (
  (nn p0 (fun a3 =>
  (ldP H1 (a3.add 5) (fun r4 =>
  (ldI .i64 H1 (a0.add 1) (fun i5 =>
  (cl Tryz.prog m 69 ([.pointer r4, .int .i64 x1, .int .i64 i5]) H1 (fun w6 H7 =>
  (∃ e8 : Bool, (∃ i9 : Int, (must (
  w6 = .tuple #[.bool e8, .int .i64 i9]) (
  (br e8 (
  (K (.int .i64 1) H7)) (
  (K (.int .i64 0) H7)))))))))))))))) (
  (ldI .i64 H1 (a0.add 0) (fun i10 =>
  (br (i10 == 4) (
  (nn p0 (fun a11 =>
  (ldP H1 (a11.add 6) (fun r12 =>
  (ldI .i64 H1 (a0.add 1) (fun i13 =>
  (cl Tryz.prog m 70 ([.pointer r12, .int .i64 i13]) H1 (fun w14 H15 =>
  (∃ i16 : Int, (∃ i17 : Int, (must (
  w14 = .tuple #[.int .i64 i16, .int .i64 i17]) (
  (K (.int .i64 i16) H15)))))))))))))) (
  (ldI .i64 H1 (a0.add 2) (fun i18 =>
  (br (i18 == 0) (
  (nn p0 (fun a19 =>
  (ldP H1 (a19.add 4) (fun r20 =>
  (cl Tryz.prog m 71 ([.pointer r20, .int .i64 x1]) H1 (fun w21 H22 =>
  (∃ i23 : Int, (∃ i24 : Int, (must (
  w21 = .tuple #[.int .i64 i23, .int .i64 i24]) (
  (K (.int .i64 i23) H22)))))))))))) (
  (ldI .i64 H1 (a0.add 2) (fun i25 =>
  (br (i25 == 1) (
  (nn p0 (fun a26 =>
  (ldP H1 (a26.add 4) (fun r27 =>
  (cl Tryz.prog m 72 ([.pointer r27, .int .i64 x1]) H1 (fun w28 H29 =>
  (∃ i30 : Int, (∃ i31 : Int, (∃ i32 : Int, (must (
  w28 = .tuple #[.int .i64 i30, .int .i64 i31, .int .i64 i32]) (
  (K (.int .i64 i31) H29))))))))))))) (
  (nn p0 (fun a33 =>
  (ldP H1 (a33.add 4) (fun r34 =>
  (cl Tryz.prog m 73 ([.pointer r34, .int .i64 x1]) H1 (fun w35 H36 =>
  (∃ i37 : Int, (must (
  w35 = .int .i64 i37) (
  (K (.int .i64 i37) H36))))))))))))))))))))))))))))
theorem W33 (m : Amb) (p0 : Option Addr) (x1 : Int) (x2 : Int) (x3 : Int) (x4 : Int) (H : Hp) (K : Value → Hp → Prop) : funcW Tryz.prog m [] Tryz.f33 [.c (.p p0), .c (.i .i64 x1), .g [.i .i64 x2, .i .i64 x3, .i .i64 x4]] H K = t33 m p0 x1 x2 x3 x4 H K := by kernel_rfl
theorem S33 {m : Amb} {p0 : Option Addr} {x1 : Int} {x2 : Int} {x3 : Int} {x4 : Int} {H : Hp} {K : Value → Hp → Prop} (h : t33 m p0 x1 x2 x3 x4 H K) : CallsH Tryz.prog m 33 [.pointer p0, .int .i64 x1, .agg #[.int .i64 x2, .int .i64 x3, .int .i64 x4]] H K :=
  callsH_of_W (args := [.c (.p p0), .c (.i .i64 x1), .g [.i .i64 x2, .i .i64 x3, .i .i64 x4]]) mixed Tryz.func33 ((W33 m p0 x1 x2 x3 x4 H K).mpr h)

/-- switchyard/soc.may -/
def t34 (m : Amb) (x0 : Int) (x1 : Int) (x2 : Int) (x3 : Int) (H : Hp) (K : Value → Hp → Prop) : Prop :=
  (nw H ([.int .i64 x1, .int .i64 x2, .int .i64 x3]) 77 (fun a0 H1 =>
  (ldI .i64 H1 (a0.add 0) (fun i2 =>
  (br (i2 == 4) (
  (K (.bool false) H1)) (
  (br (i2 == 2) (
  (ldI .i64 H1 (a0.add 2) (fun i3 =>
  (br (i3 == 2) (
  (K (.bool true) H1)) (
  (ldI .i64 H1 (a0.add 2) (fun i4 =>
  (br (i4 == 0) (
  (ldI .i64 H1 (a0.add 1) (fun i5 =>
  (K (.bool (i5 == x0)) H1)))) (
  (K (.bool false) H1)))))))))) (
  (K (.bool true) H1)))))))))
theorem W34 (m : Amb) (x0 : Int) (x1 : Int) (x2 : Int) (x3 : Int) (H : Hp) (K : Value → Hp → Prop) : funcW Tryz.prog m [] Tryz.f34 [.c (.i .i64 x0), .g [.i .i64 x1, .i .i64 x2, .i .i64 x3]] H K = t34 m x0 x1 x2 x3 H K := by kernel_rfl
theorem S34 {m : Amb} {x0 : Int} {x1 : Int} {x2 : Int} {x3 : Int} {H : Hp} {K : Value → Hp → Prop} (h : t34 m x0 x1 x2 x3 H K) : CallsH Tryz.prog m 34 [.int .i64 x0, .agg #[.int .i64 x1, .int .i64 x2, .int .i64 x3]] H K :=
  callsH_of_W (args := [.c (.i .i64 x0), .g [.i .i64 x1, .i .i64 x2, .i .i64 x3]]) mixed Tryz.func34 ((W34 m x0 x1 x2 x3 H K).mpr h)

/-- switchyard/wrap.Word -/
def t35 (m : Amb) (x0 : Int) (H : Hp) (K : Value → Hp → Prop) : Prop :=
  (K (.int .i64 (bitsOf .and .i64 x0 65535)) H)
theorem W35 (m : Amb) (x0 : Int) (H : Hp) (K : Value → Hp → Prop) : funcW Tryz.prog m [] Tryz.f35 [.c (.i .i64 x0)] H K = t35 m x0 H K := by kernel_rfl
theorem S35 {m : Amb} {x0 : Int} {H : Hp} {K : Value → Hp → Prop} (h : t35 m x0 H K) : CallsH Tryz.prog m 35 [.int .i64 x0] H K :=
  callsH_of_W (args := [.c (.i .i64 x0)]) mixed Tryz.func35 ((W35 m x0 H K).mpr h)

/-- (switchyard/bus.Bus).Store -/
def t36 (m : Amb) (p0 : Option Addr) (x1 : Int) (x2 : Int) (x3 : Int) (H : Hp) (K : Value → Hp → Prop) : Prop :=
  (nw H ([.pointer p0]) 49 (fun a0 H1 =>
  (nw H1 ([.int .i64 x2]) 3 (fun a2 H3 =>
  (nw H3 ([.int .i64 x3]) 3 (fun a4 H5 =>
  (ldP H5 a0 (fun r6 =>
  (cl Tryz.prog m 63 ([.pointer r6, .int .i64 x1, .func (.func 74) #[] #[.pointer (some a0), .pointer (some a2), .pointer (some a4)]]) H5 (fun w7 H8 =>
  (∃ i9 : Int, (must (
  w7 = .int .i64 i9) (
  (K (.int .i64 i9) H8))))))))))))))
theorem W36 (m : Amb) (p0 : Option Addr) (x1 : Int) (x2 : Int) (x3 : Int) (H : Hp) (K : Value → Hp → Prop) : funcW Tryz.prog m [] Tryz.f36 [.c (.p p0), .c (.i .i64 x1), .c (.i .i64 x2), .c (.i .i64 x3)] H K = t36 m p0 x1 x2 x3 H K := by kernel_rfl
theorem S36 {m : Amb} {p0 : Option Addr} {x1 : Int} {x2 : Int} {x3 : Int} {H : Hp} {K : Value → Hp → Prop} (h : t36 m p0 x1 x2 x3 H K) : CallsH Tryz.prog m 36 [.pointer p0, .int .i64 x1, .int .i64 x2, .int .i64 x3] H K :=
  callsH_of_W (args := [.c (.p p0), .c (.i .i64 x1), .c (.i .i64 x2), .c (.i .i64 x3)]) mixed Tryz.func36 ((W36 m p0 x1 x2 x3 H K).mpr h)

/-- (switchyard/locks.Bank).Owner -/
def t37 (m : Amb) (p0 : Option Addr) (x1 : Int) (H : Hp) (K : Value → Hp → Prop) : Prop :=
  (cl Tryz.prog m 80 ([.pointer p0, .int .i64 x1]) H (fun w0 H1 =>
  (∃ i2 : Int, (must (
  w0 = .int .i64 i2) (
  (br (i2 != 0) (
  (K (.tuple #[.int .i64 0, .int .i64 i2]) H1)) (
  (nn p0 (fun a3 =>
  (ixA x1 16 (
  (ldI .i64 H1 ((a3.add 2).add (x1.toNat * 1)) (fun i4 =>
  (K (.tuple #[.int .i64 (wr .i64 (i4 - 1)), .int .i64 0]) H1))))))))))))))
theorem W37 (m : Amb) (p0 : Option Addr) (x1 : Int) (H : Hp) (K : Value → Hp → Prop) : funcW Tryz.prog m [] Tryz.f37 [.c (.p p0), .c (.i .i64 x1)] H K = t37 m p0 x1 H K := by kernel_rfl
theorem S37 {m : Amb} {p0 : Option Addr} {x1 : Int} {H : Hp} {K : Value → Hp → Prop} (h : t37 m p0 x1 H K) : CallsH Tryz.prog m 37 [.pointer p0, .int .i64 x1] H K :=
  callsH_of_W (args := [.c (.p p0), .c (.i .i64 x1)]) mixed Tryz.func37 ((W37 m p0 x1 H K).mpr h)

/-- (switchyard/locks.Bank).Free -/
def t38 (m : Amb) (p0 : Option Addr) (x1 : Int) (x2 : Int) (H : Hp) (K : Value → Hp → Prop) : Prop :=
  (cl Tryz.prog m 81 ([.pointer p0, .int .i64 x1, .int .i64 x2]) H (fun w0 H1 =>
  (∃ i2 : Int, (must (
  w0 = .int .i64 i2) (
  (br (i2 != 0) (
  (K (.int .i64 i2) H1)) (
  (nn p0 (fun a3 =>
  (ixA x2 16 (
  (ldI .i64 H1 ((a3.add 2).add (x2.toNat * 1)) (fun i4 =>
  (br (i4 != wr .i64 (x1 + 1)) (
  (K (.int .i64 12) H1)) (
  (nn p0 (fun a5 =>
  (ixA x2 16 (
  (st H1 ((a5.add 2).add (x2.toNat * 1)) (.int .i64 0) (fun H6 =>
  (K (.int .i64 0) H6))))))))))))))))))))))
theorem W38 (m : Amb) (p0 : Option Addr) (x1 : Int) (x2 : Int) (H : Hp) (K : Value → Hp → Prop) : funcW Tryz.prog m [] Tryz.f38 [.c (.p p0), .c (.i .i64 x1), .c (.i .i64 x2)] H K = t38 m p0 x1 x2 H K := by kernel_rfl
theorem S38 {m : Amb} {p0 : Option Addr} {x1 : Int} {x2 : Int} {H : Hp} {K : Value → Hp → Prop} (h : t38 m p0 x1 x2 H K) : CallsH Tryz.prog m 38 [.pointer p0, .int .i64 x1, .int .i64 x2] H K :=
  callsH_of_W (args := [.c (.p p0), .c (.i .i64 x1), .c (.i .i64 x2)]) mixed Tryz.func38 ((W38 m p0 x1 x2 H K).mpr h)

/-- (switchyard/mbox.Box).Ack -/
def t39 (m : Amb) (p0 : Option Addr) (x1 : Int) (x2 : Int) (H : Hp) (K : Value → Hp → Prop) : Prop :=
  (nw H ([.int .i64 x2]) 3 (fun a0 H1 =>
  (cl Tryz.prog m 82 ([.pointer p0, .int .i64 x1, .func (.func 83) #[] #[.pointer (some a0)]]) H1 (fun w2 H3 =>
  (∃ i4 : Int, (must (
  w2 = .int .i64 i4) (
  (K (.int .i64 i4) H3))))))))
theorem W39 (m : Amb) (p0 : Option Addr) (x1 : Int) (x2 : Int) (H : Hp) (K : Value → Hp → Prop) : funcW Tryz.prog m [] Tryz.f39 [.c (.p p0), .c (.i .i64 x1), .c (.i .i64 x2)] H K = t39 m p0 x1 x2 H K := by kernel_rfl
theorem S39 {m : Amb} {p0 : Option Addr} {x1 : Int} {x2 : Int} {H : Hp} {K : Value → Hp → Prop} (h : t39 m p0 x1 x2 H K) : CallsH Tryz.prog m 39 [.pointer p0, .int .i64 x1, .int .i64 x2] H K :=
  callsH_of_W (args := [.c (.p p0), .c (.i .i64 x1), .c (.i .i64 x2)]) mixed Tryz.func39 ((W39 m p0 x1 x2 H K).mpr h)

/-- (switchyard/mbox.Box).Ring -/
def t40 (m : Amb) (p0 : Option Addr) (x1 : Int) (x2 : Int) (x3 : Int) (H : Hp) (K : Value → Hp → Prop) : Prop :=
  (nw H ([.pointer p0]) 53 (fun a0 H1 =>
  (nw H1 ([.int .i64 x1]) 3 (fun a2 H3 =>
  (nw H3 ([.int .i64 x2]) 3 (fun a4 H5 =>
  (nw H5 ([.int .i64 x3]) 3 (fun a6 H7 =>
  (ldP H7 a0 (fun r8 =>
  (ldI .i64 H7 a2 (fun i9 =>
  (cl Tryz.prog m 82 ([.pointer r8, .int .i64 i9, .func (.func 84) #[] #[.pointer (some a0), .pointer (some a4), .pointer (some a6), .pointer (some a2)]]) H7 (fun w10 H11 =>
  (∃ i12 : Int, (must (
  w10 = .int .i64 i12) (
  (K (.int .i64 i12) H11))))))))))))))))))
theorem W40 (m : Amb) (p0 : Option Addr) (x1 : Int) (x2 : Int) (x3 : Int) (H : Hp) (K : Value → Hp → Prop) : funcW Tryz.prog m [] Tryz.f40 [.c (.p p0), .c (.i .i64 x1), .c (.i .i64 x2), .c (.i .i64 x3)] H K = t40 m p0 x1 x2 x3 H K := by kernel_rfl
theorem S40 {m : Amb} {p0 : Option Addr} {x1 : Int} {x2 : Int} {x3 : Int} {H : Hp} {K : Value → Hp → Prop} (h : t40 m p0 x1 x2 x3 H K) : CallsH Tryz.prog m 40 [.pointer p0, .int .i64 x1, .int .i64 x2, .int .i64 x3] H K :=
  callsH_of_W (args := [.c (.p p0), .c (.i .i64 x1), .c (.i .i64 x2), .c (.i .i64 x3)]) mixed Tryz.func40 ((W40 m p0 x1 x2 x3 H K).mpr h)

/-- (switchyard/soc.Soc).wrong -/
def t41 (m : Amb) (p0 : Option Addr) (x1 : Int) (H : Hp) (K : Value → Hp → Prop) : Prop :=
  (br p0.isNone (
  (K (.int .i64 1) H)) (
  (nn p0 (fun a0 =>
  (ldP H (a0.add 6) (fun r1 =>
  (cl Tryz.prog m 70 ([.pointer r1, .int .i64 x1]) H (fun w2 H3 =>
  (∃ i4 : Int, (∃ i5 : Int, (must (
  w2 = .tuple #[.int .i64 i4, .int .i64 i5]) (
  (br (i5 != 0) (
  (K (.int .i64 i5) H3)) (
  (nn p0 (fun a6 =>
  (ldP H3 (a6.add 6) (fun r7 =>
  (cl Tryz.prog m 87 ([.pointer r7, .int .i64 x1]) H3 (fun w8 H9 =>
  (∃ e10 : Bool, (must (
  w8 = .bool e10) (
  (br (!e10) (
  (K (.int .i64 19) H9)) (
  (K (.int .i64 0) H9))))))))))))))))))))))))))
theorem W41 (m : Amb) (p0 : Option Addr) (x1 : Int) (H : Hp) (K : Value → Hp → Prop) : funcW Tryz.prog m [] Tryz.f41 [.c (.p p0), .c (.i .i64 x1)] H K = t41 m p0 x1 H K := by kernel_rfl
theorem S41 {m : Amb} {p0 : Option Addr} {x1 : Int} {H : Hp} {K : Value → Hp → Prop} (h : t41 m p0 x1 H K) : CallsH Tryz.prog m 41 [.pointer p0, .int .i64 x1] H K :=
  callsH_of_W (args := [.c (.p p0), .c (.i .i64 x1)]) mixed Tryz.func41 ((W41 m p0 x1 H K).mpr h)

/-- switchyard/bus.Same -/
def t42 (m : Amb) (p0 : Option Addr) (p1 : Option Addr) (H : Hp) (K : Value → Hp → Prop) : Prop :=
  (br p0.isNone (
  (ptrEq p0 p1 (fun e0 =>
  (K (.bool e0) H)))) (
  (br p1.isNone (
  (ptrEq p0 p1 (fun e1 =>
  (K (.bool e1) H)))) (
  (nn p0 (fun a2 =>
  (ldP H (a2.add 0) (fun r3 =>
  (nn p1 (fun a4 =>
  (ldP H (a4.add 0) (fun r5 =>
  (cl Tryz.prog m 88 ([.pointer r3, .pointer r5]) H (fun w6 H7 =>
  (∃ e8 : Bool, (must (
  w6 = .bool e8) (
  (br e8 (
  (nn p0 (fun a9 =>
  (ldS H7 (a9.add 1) (fun r10 l11 l12 =>
  (nn p1 (fun a13 =>
  (ldS H7 (a13.add 1) (fun r14 l15 l16 =>
  (cl Tryz.prog m 89 ([.slice r10 l11 l12, .slice r14 l15 l16, .func (.func 90) #[] #[]]) H7 (fun w17 H18 =>
  (∃ e19 : Bool, (must (
  w17 = .bool e19) (
  (K (.bool e19) H18))))))))))))))) (
  (K (.bool false) H7))))))))))))))))))))
theorem W42 (m : Amb) (p0 : Option Addr) (p1 : Option Addr) (H : Hp) (K : Value → Hp → Prop) : funcW Tryz.prog m [] Tryz.f42 [.c (.p p0), .c (.p p1)] H K = t42 m p0 p1 H K := by kernel_rfl
theorem S42 {m : Amb} {p0 : Option Addr} {p1 : Option Addr} {H : Hp} {K : Value → Hp → Prop} (h : t42 m p0 p1 H K) : CallsH Tryz.prog m 42 [.pointer p0, .pointer p1] H K :=
  callsH_of_W (args := [.c (.p p0), .c (.p p1)]) mixed Tryz.func42 ((W42 m p0 p1 H K).mpr h)

/-- switchyard/mbox.Same -/
def t43 (m : Amb) (p0 : Option Addr) (p1 : Option Addr) (H : Hp) (K : Value → Hp → Prop) : Prop :=
  (br p0.isNone (
  (ptrEq p0 p1 (fun e0 =>
  (K (.bool e0) H)))) (
  (br p1.isNone (
  (ptrEq p0 p1 (fun e1 =>
  (K (.bool e1) H)))) (
  (nn p0 (fun a2 =>
  (ldS H (a2.add 0) (fun r3 l4 l5 =>
  (nn p1 (fun a6 =>
  (ldS H (a6.add 0) (fun r7 l8 l9 =>
  (cl Tryz.prog m 93 ([.slice r3 l4 l5, .slice r7 l8 l9, .func (.func 94) #[] #[]]) H (fun w10 H11 =>
  (∃ e12 : Bool, (must (
  w10 = .bool e12) (
  (K (.bool e12) H11))))))))))))))))))
theorem W43 (m : Amb) (p0 : Option Addr) (p1 : Option Addr) (H : Hp) (K : Value → Hp → Prop) : funcW Tryz.prog m [] Tryz.f43 [.c (.p p0), .c (.p p1)] H K = t43 m p0 p1 H K := by kernel_rfl
theorem S43 {m : Amb} {p0 : Option Addr} {p1 : Option Addr} {H : Hp} {K : Value → Hp → Prop} (h : t43 m p0 p1 H K) : CallsH Tryz.prog m 43 [.pointer p0, .pointer p1] H K :=
  callsH_of_W (args := [.c (.p p0), .c (.p p1)]) mixed Tryz.func43 ((W43 m p0 p1 H K).mpr h)

/-- switchyard/gate.Same -/
def t45 (m : Amb) (p0 : Option Addr) (p1 : Option Addr) (H : Hp) (K : Value → Hp → Prop) : Prop :=
  (br p0.isNone (
  (ptrEq p0 p1 (fun e0 =>
  (K (.bool e0) H)))) (
  (br p1.isNone (
  (ptrEq p0 p1 (fun e1 =>
  (K (.bool e1) H)))) (
  (nn p0 (fun a2 =>
  (ldI .i64 H (a2.add 0) (fun i3 =>
  (ldI .i64 H (a2.add 1) (fun i4 =>
  (ldI .i64 H (a2.add 2) (fun i5 =>
  (ldI .i64 H (a2.add 3) (fun i6 =>
  (ldI .i64 H (a2.add 4) (fun i7 =>
  (ldI .i64 H (a2.add 5) (fun i8 =>
  (ldI .i64 H (a2.add 6) (fun i9 =>
  (ldI .i64 H (a2.add 7) (fun i10 =>
  (ldI .i64 H (a2.add 8) (fun i11 =>
  (ldB H (a2.add 9) (fun e12 =>
  (ldB H (a2.add 10) (fun e13 =>
  (ldB H (a2.add 11) (fun e14 =>
  (ldB H (a2.add 12) (fun e15 =>
  (ldB H (a2.add 13) (fun e16 =>
  (ldB H (a2.add 14) (fun e17 =>
  (ldB H (a2.add 15) (fun e18 =>
  (ldB H (a2.add 16) (fun e19 =>
  (nn p1 (fun a20 =>
  (ldI .i64 H (a20.add 0) (fun i21 =>
  (ldI .i64 H (a20.add 1) (fun i22 =>
  (ldI .i64 H (a20.add 2) (fun i23 =>
  (ldI .i64 H (a20.add 3) (fun i24 =>
  (ldI .i64 H (a20.add 4) (fun i25 =>
  (ldI .i64 H (a20.add 5) (fun i26 =>
  (ldI .i64 H (a20.add 6) (fun i27 =>
  (ldI .i64 H (a20.add 7) (fun i28 =>
  (ldI .i64 H (a20.add 8) (fun i29 =>
  (ldB H (a20.add 9) (fun e30 =>
  (ldB H (a20.add 10) (fun e31 =>
  (ldB H (a20.add 11) (fun e32 =>
  (ldB H (a20.add 12) (fun e33 =>
  (ldB H (a20.add 13) (fun e34 =>
  (ldB H (a20.add 14) (fun e35 =>
  (ldB H (a20.add 15) (fun e36 =>
  (ldB H (a20.add 16) (fun e37 =>
  (rawP Tryz.prog (Go.execOp (actV [SV.c (Sc.p p0), SV.c (Sc.p p1), SV.t [], SV.t [], SV.c Sc.ff, SV.c (Sc.p p0), SV.c (Sc.b p0.isNone), SV.c Sc.ff, SV.c (Sc.p p1), SV.c (Sc.b p1.isNone), SV.c Sc.ff, SV.t [], SV.t [], SV.t [], SV.c (Sc.p p0), SV.c (Sc.a a2), SV.g [Sc.i .i64 i3, Sc.i .i64 i4, Sc.i .i64 i5, Sc.i .i64 i6, Sc.i .i64 i7, Sc.i .i64 i8, Sc.i .i64 i9, Sc.i .i64 i10, Sc.i .i64 i11, Sc.b e12, Sc.b e13, Sc.b e14, Sc.b e15, Sc.b e16, Sc.b e17, Sc.b e18, Sc.b e19], SV.c (Sc.p p1), SV.c (Sc.a a20), SV.g [Sc.i .i64 i21, Sc.i .i64 i22, Sc.i .i64 i23, Sc.i .i64 i24, Sc.i .i64 i25, Sc.i .i64 i26, Sc.i .i64 i27, Sc.i .i64 i28, Sc.i .i64 i29, Sc.b e30, Sc.b e31, Sc.b e32, Sc.b e33, Sc.b e34, Sc.b e35, Sc.b e36, Sc.b e37], SV.t []]) #[{ dst := some 14, op := Go.Op.move (Go.Operand.tmp 0), type := 57, pos := "gate.go:117", after := #[], guard := none }, { dst := some 15, op := Go.Op.nilCheck (Go.Operand.tmp 14), type := 0, pos := "gate.go:117", after := #[{ on := 0, ground := Go.Ground.data }], guard := none }, { dst := some 16, op := Go.Op.load 112 (Go.Operand.tmp 15), type := 112, pos := "gate.go:117", after := #[{ on := 1, ground := Go.Ground.data }], guard := none }, { dst := some 17, op := Go.Op.move (Go.Operand.tmp 1), type := 57, pos := "gate.go:117", after := #[], guard := none }, { dst := some 18, op := Go.Op.nilCheck (Go.Operand.tmp 17), type := 0, pos := "gate.go:117", after := #[{ on := 3, ground := Go.Ground.data }], guard := none }, { dst := some 19, op := Go.Op.load 112 (Go.Operand.tmp 18), type := 112, pos := "gate.go:117", after := #[{ on := 4, ground := Go.Ground.data }], guard := none }, { dst := some 20, op := Go.Op.binOp .eql 112 (Go.Operand.tmp 16) (Go.Operand.tmp 19) 112, type := 4, pos := "gate.go:117", after := #[{ on := 2, ground := Go.Ground.data }, { on := 5, ground := Go.Ground.data }], guard := none }, { dst := some 4, op := Go.Op.assign (Go.Operand.tmp 20), type := 4, pos := "gate.go:117", after := #[{ on := 6, ground := Go.Ground.data }, { on := 0, ground := Go.Ground.phase }, { on := 1, ground := Go.Ground.phase }, { on := 2, ground := Go.Ground.phase }, { on := 3, ground := Go.Ground.phase }, { on := 4, ground := Go.Ground.phase }, { on := 5, ground := Go.Ground.phase }, { on := 6, ground := Go.Ground.phase }], guard := none }][6]) (fun w38 =>
  (∃ e39 : Bool, (must (
  w38 = .bool e39) (
  (K (.bool e39) H))))))))))))))))))))))))))))))))))))))))))))))))))))))))))))))))))))))))))))))))))
theorem W45 (m : Amb) (p0 : Option Addr) (p1 : Option Addr) (H : Hp) (K : Value → Hp → Prop) : funcW Tryz.prog m [] Tryz.f45 [.c (.p p0), .c (.p p1)] H K = t45 m p0 p1 H K := by kernel_rfl
theorem S45 {m : Amb} {p0 : Option Addr} {p1 : Option Addr} {H : Hp} {K : Value → Hp → Prop} (h : t45 m p0 p1 H K) : CallsH Tryz.prog m 45 [.pointer p0, .pointer p1] H K :=
  callsH_of_W (args := [.c (.p p0), .c (.p p1)]) mixed Tryz.func45 ((W45 m p0 p1 H K).mpr h)

/-- switchyard/sram.New -/
def t46 (m : Amb) (x0 : Int) (H : Hp) (K : Value → Hp → Prop) : Prop :=
  (br (decide (x0 < 1)) (
  (K (.tuple #[.pointer none, .int .i64 2]) H)) (
  (br (decide (x0 > 65536)) (
  (K (.tuple #[.pointer none, .int .i64 2]) H)) (
  (mkS Tryz.prog 3 1 8 H x0 x0 (fun r0 l1 l2 H3 =>
  (nw H3 ([.slice r0 l1 l2]) 147 (fun a4 H5 =>
  (K (.tuple #[.pointer (some a4), .int .i64 0]) H5)))))))))
theorem W46 (m : Amb) (x0 : Int) (H : Hp) (K : Value → Hp → Prop) : funcW Tryz.prog m [] Tryz.f46 [.c (.i .i64 x0)] H K = t46 m x0 H K := by kernel_rfl
theorem S46 {m : Amb} {x0 : Int} {H : Hp} {K : Value → Hp → Prop} (h : t46 m x0 H K) : CallsH Tryz.prog m 46 [.int .i64 x0] H K :=
  callsH_of_W (args := [.c (.i .i64 x0)]) mixed Tryz.func46 ((W46 m x0 H K).mpr h)

/-- switchyard/sbuf.New -/
def t47 (m : Amb) (x0 : Int) (H : Hp) (K : Value → Hp → Prop) : Prop :=
  (br (decide (x0 < 1)) (
  (K (.pointer none) H)) (
  (br (decide (x0 > 16)) (
  (K (.pointer none) H)) (
  (nw H ([.int .i64 x0, .slice none 0 0]) 149 (fun a0 H1 =>
  (K (.pointer (some a0)) H1)))))))
theorem W47 (m : Amb) (x0 : Int) (H : Hp) (K : Value → Hp → Prop) : funcW Tryz.prog m [] Tryz.f47 [.c (.i .i64 x0)] H K = t47 m x0 H K := by kernel_rfl
theorem S47 {m : Amb} {x0 : Int} {H : Hp} {K : Value → Hp → Prop} (h : t47 m x0 H K) : CallsH Tryz.prog m 47 [.int .i64 x0] H K :=
  callsH_of_W (args := [.c (.i .i64 x0)]) mixed Tryz.func47 ((W47 m x0 H K).mpr h)

/-- switchyard/site.below -/
def t48 (m : Amb) (x0 : Int) (x1 : Int) (H : Hp) (K : Value → Hp → Prop) : Prop :=
  (br (decide (x0 ≥ 0)) (
  (K (.bool (decide (x0 < x1))) H)) (
  (K (.bool false) H)))
theorem W48 (m : Amb) (x0 : Int) (x1 : Int) (H : Hp) (K : Value → Hp → Prop) : funcW Tryz.prog m [] Tryz.f48 [.c (.i .i64 x0), .c (.i .i64 x1)] H K = t48 m x0 x1 H K := by kernel_rfl
theorem S48 {m : Amb} {x0 : Int} {x1 : Int} {H : Hp} {K : Value → Hp → Prop} (h : t48 m x0 x1 H K) : CallsH Tryz.prog m 48 [.int .i64 x0, .int .i64 x1] H K :=
  callsH_of_W (args := [.c (.i .i64 x0), .c (.i .i64 x1)]) mixed Tryz.func48 ((W48 m x0 x1 H K).mpr h)

/-- switchyard/lane.New -/
def t49 (m : Amb) (x0 : Int) (H : Hp) (K : Value → Hp → Prop) : Prop :=
  (br (decide (x0 < 1)) (
  (K (.pointer none) H)) (
  (br (decide (x0 > 64)) (
  (K (.pointer none) H)) (
  (mkS Tryz.prog 3 1 8 H x0 x0 (fun r0 l1 l2 H3 =>
  (nw H3 ([.slice r0 l1 l2, .int .i64 0, .int .i64 0]) 151 (fun a4 H5 =>
  (K (.pointer (some a4)) H5)))))))))
theorem W49 (m : Amb) (x0 : Int) (H : Hp) (K : Value → Hp → Prop) : funcW Tryz.prog m [] Tryz.f49 [.c (.i .i64 x0)] H K = t49 m x0 H K := by kernel_rfl
theorem S49 {m : Amb} {x0 : Int} {H : Hp} {K : Value → Hp → Prop} (h : t49 m x0 H K) : CallsH Tryz.prog m 49 [.int .i64 x0] H K :=
  callsH_of_W (args := [.c (.i .i64 x0)]) mixed Tryz.func49 ((W49 m x0 H K).mpr h)

/-- (switchyard/bus.Bus).Drain -/
def t52 (m : Amb) (p0 : Option Addr) (x1 : Int) (H : Hp) (K : Value → Hp → Prop) : Prop :=
  (nw H ([.pointer p0]) 49 (fun a0 H1 =>
  (nw H1 (zc Tryz.prog 4) 4 (fun a2 H3 =>
  (ldP H3 a0 (fun r4 =>
  (cl Tryz.prog m 63 ([.pointer r4, .int .i64 x1, .func (.func 98) #[] #[.pointer (some a0), .pointer (some a2)]]) H3 (fun w5 H6 =>
  (∃ i7 : Int, (must (
  w5 = .int .i64 i7) (
  (ldB H6 a2 (fun e8 =>
  (st H6 a2 (.bool e8) (fun H9 =>
  (ldB H9 a2 (fun e10 =>
  (K (.tuple #[.bool e10, .int .i64 i7]) H9))))))))))))))))))
theorem W52 (m : Amb) (p0 : Option Addr) (x1 : Int) (H : Hp) (K : Value → Hp → Prop) : funcW Tryz.prog m [] Tryz.f52 [.c (.p p0), .c (.i .i64 x1)] H K = t52 m p0 x1 H K := by kernel_rfl
theorem S52 {m : Amb} {p0 : Option Addr} {x1 : Int} {H : Hp} {K : Value → Hp → Prop} (h : t52 m p0 x1 H K) : CallsH Tryz.prog m 52 [.pointer p0, .int .i64 x1] H K :=
  callsH_of_W (args := [.c (.p p0), .c (.i .i64 x1)]) mixed Tryz.func52 ((W52 m p0 x1 H K).mpr h)

/-- (switchyard/bus.Bus).Swap -/
def t53 (m : Amb) (p0 : Option Addr) (x1 : Int) (x2 : Int) (x3 : Int) (H : Hp) (K : Value → Hp → Prop) : Prop :=
  (nw H ([.pointer p0]) 49 (fun a0 H1 =>
  (nw H1 ([.int .i64 x2]) 3 (fun a2 H3 =>
  (nw H3 ([.int .i64 x3]) 3 (fun a4 H5 =>
  (nw H5 (zc Tryz.prog 3) 3 (fun a6 H7 =>
  (ldP H7 a0 (fun r8 =>
  (cl Tryz.prog m 63 ([.pointer r8, .int .i64 x1, .func (.func 99) #[] #[.pointer (some a0), .pointer (some a2), .pointer (some a4), .pointer (some a6)]]) H7 (fun w9 H10 =>
  (∃ i11 : Int, (must (
  w9 = .int .i64 i11) (
  (ldI .i64 H10 a6 (fun i12 =>
  (st H10 a6 (.int .i64 i12) (fun H13 =>
  (ldI .i64 H13 a6 (fun i14 =>
  (K (.tuple #[.int .i64 i14, .int .i64 i11]) H13))))))))))))))))))))))
theorem W53 (m : Amb) (p0 : Option Addr) (x1 : Int) (x2 : Int) (x3 : Int) (H : Hp) (K : Value → Hp → Prop) : funcW Tryz.prog m [] Tryz.f53 [.c (.p p0), .c (.i .i64 x1), .c (.i .i64 x2), .c (.i .i64 x3)] H K = t53 m p0 x1 x2 x3 H K := by kernel_rfl
theorem S53 {m : Amb} {p0 : Option Addr} {x1 : Int} {x2 : Int} {x3 : Int} {H : Hp} {K : Value → Hp → Prop} (h : t53 m p0 x1 x2 x3 H K) : CallsH Tryz.prog m 53 [.pointer p0, .int .i64 x1, .int .i64 x2, .int .i64 x3] H K :=
  callsH_of_W (args := [.c (.p p0), .c (.i .i64 x1), .c (.i .i64 x2), .c (.i .i64 x3)]) mixed Tryz.func53 ((W53 m p0 x1 x2 x3 H K).mpr h)

/-- (switchyard/gate.Gate).Hold -/
def t54 (m : Amb) (p0 : Option Addr) (x1 : Int) (H : Hp) (K : Value → Hp → Prop) : Prop :=
  (cl Tryz.prog m 101 ([.pointer p0, .int .i64 x1]) H (fun w0 H1 =>
  (∃ i2 : Int, (must (
  w0 = .int .i64 i2) (
  (br (i2 != 0) (
  (K (.int .i64 i2) H1)) (
  (nn p0 (fun a3 =>
  (ixA x1 8 (
  (ldB H1 ((a3.add 9).add (x1.toNat * 1)) (fun e4 =>
  (br e4 (
  (K (.int .i64 11) H1)) (
  (nn p0 (fun a5 =>
  (ixA x1 8 (
  (st H1 ((a5.add 9).add (x1.toNat * 1)) (.bool true) (fun H6 =>
  (K (.int .i64 0) H6))))))))))))))))))))))
theorem W54 (m : Amb) (p0 : Option Addr) (x1 : Int) (H : Hp) (K : Value → Hp → Prop) : funcW Tryz.prog m [] Tryz.f54 [.c (.p p0), .c (.i .i64 x1)] H K = t54 m p0 x1 H K := by kernel_rfl
theorem S54 {m : Amb} {p0 : Option Addr} {x1 : Int} {H : Hp} {K : Value → Hp → Prop} (h : t54 m p0 x1 H K) : CallsH Tryz.prog m 54 [.pointer p0, .int .i64 x1] H K :=
  callsH_of_W (args := [.c (.p p0), .c (.i .i64 x1)]) mixed Tryz.func54 ((W54 m p0 x1 H K).mpr h)

/-- (switchyard/bus.Bus).Lose -/
def t55 (m : Amb) (p0 : Option Addr) (x1 : Int) (H : Hp) (K : Value → Hp → Prop) : Prop :=
  (nw H (zc Tryz.prog 3) 3 (fun a0 H1 =>
  (cl Tryz.prog m 63 ([.pointer p0, .int .i64 x1, .func (.func 102) #[] #[.pointer (some a0)]]) H1 (fun w2 H3 =>
  (∃ i4 : Int, (must (
  w2 = .int .i64 i4) (
  (ldI .i64 H3 a0 (fun i5 =>
  (st H3 a0 (.int .i64 i5) (fun H6 =>
  (ldI .i64 H6 a0 (fun i7 =>
  (K (.tuple #[.int .i64 i7, .int .i64 i4]) H6))))))))))))))
theorem W55 (m : Amb) (p0 : Option Addr) (x1 : Int) (H : Hp) (K : Value → Hp → Prop) : funcW Tryz.prog m [] Tryz.f55 [.c (.p p0), .c (.i .i64 x1)] H K = t55 m p0 x1 H K := by kernel_rfl
theorem S55 {m : Amb} {p0 : Option Addr} {x1 : Int} {H : Hp} {K : Value → Hp → Prop} (h : t55 m p0 x1 H K) : CallsH Tryz.prog m 55 [.pointer p0, .int .i64 x1] H K :=
  callsH_of_W (args := [.c (.p p0), .c (.i .i64 x1)]) mixed Tryz.func55 ((W55 m p0 x1 H K).mpr h)

/-- (switchyard/mbox.Box).Reset -/
def t56 (m : Amb) (p0 : Option Addr) (x1 : Int) (H : Hp) (K : Value → Hp → Prop) : Prop :=
  (nw H (zc Tryz.prog 3) 3 (fun a0 H1 =>
  (cl Tryz.prog m 82 ([.pointer p0, .int .i64 x1, .func (.func 104) #[] #[.pointer (some a0)]]) H1 (fun w2 H3 =>
  (∃ i4 : Int, (must (
  w2 = .int .i64 i4) (
  (ldI .i64 H3 a0 (fun i5 =>
  (st H3 a0 (.int .i64 i5) (fun H6 =>
  (ldI .i64 H6 a0 (fun i7 =>
  (K (.tuple #[.int .i64 i7, .int .i64 i4]) H6))))))))))))))
theorem W56 (m : Amb) (p0 : Option Addr) (x1 : Int) (H : Hp) (K : Value → Hp → Prop) : funcW Tryz.prog m [] Tryz.f56 [.c (.p p0), .c (.i .i64 x1)] H K = t56 m p0 x1 H K := by kernel_rfl
theorem S56 {m : Amb} {p0 : Option Addr} {x1 : Int} {H : Hp} {K : Value → Hp → Prop} (h : t56 m p0 x1 H K) : CallsH Tryz.prog m 56 [.pointer p0, .int .i64 x1] H K :=
  callsH_of_W (args := [.c (.p p0), .c (.i .i64 x1)]) mixed Tryz.func56 ((W56 m p0 x1 H K).mpr h)

/-- (switchyard/locks.Bank).Release -/
def t57 (m : Amb) (p0 : Option Addr) (x1 : Int) (H : Hp) (K : Value → Hp → Prop) : Prop :=
  (cl Tryz.prog m 106 ([.pointer p0, .int .i64 x1]) H (fun w0 H1 =>
  (∃ i2 : Int, (must (
  w0 = .int .i64 i2) (
  (br (i2 != 0) (
  (K (.tuple #[.int .i64 0, .int .i64 i2]) H1)) (
  (cl Tryz.prog m 107 ([.pointer p0, .int .i64 x1]) H1 (fun w3 H4 =>
  (∃ r5 : Option Addr, (∃ l6 : Nat, (∃ l7 : Nat, (must (
  w3 = .slice r5 l6 l7) (
  (∃ I8 : Int → Hp → Prop, (∃ I9 : Int → Hp → Nat, ((I8 0 H4) ∧
  (∀ i10 : Int, (∀ H11 : Hp, (∀ l12 : Nat, (∀ j13 : Nat → Value, (((I8 i10 H11)) → 
  ((I9 i10 H11 = l12) → 
  (br (decide (i10 < (l6 : Int))) (
  (ixS r5 i10 l6 (fun a14 =>
  (ldI .i64 H11 (a14.add (i10.toNat * 1)) (fun i15 =>
  (nn p0 (fun a16 =>
  (ixA i15 16 (
  (st H11 ((a16.add 2).add (i15.toNat * 1)) (.int .i64 0) (fun H17 =>
  ((I8 (wr .i64 (i10 + 1)) H17) ∧
  ((I9 (wr .i64 (i10 + 1)) H17).succ.le l12))))))))))))) (
  (K (.tuple #[.int .i64 (l6 : Int), .int .i64 0]) H11))))))))))))))))))))))))))
theorem W57 (m : Amb) (p0 : Option Addr) (x1 : Int) (H : Hp) (K : Value → Hp → Prop) : funcW Tryz.prog m [⟨true, 7, [(21, (.i .i64))]⟩] Tryz.f57 [.c (.p p0), .c (.i .i64 x1)] H K = t57 m p0 x1 H K := by kernel_rfl
theorem S57 {m : Amb} {p0 : Option Addr} {x1 : Int} {H : Hp} {K : Value → Hp → Prop} (h : t57 m p0 x1 H K) : CallsH Tryz.prog m 57 [.pointer p0, .int .i64 x1] H K :=
  callsH_of_W (args := [.c (.p p0), .c (.i .i64 x1)]) mixed Tryz.func57 ((W57 m p0 x1 H K).mpr h)

/-- (switchyard/gate.Gate).Start -/
def t58 (m : Amb) (p0 : Option Addr) (x1 : Int) (H : Hp) (K : Value → Hp → Prop) : Prop :=
  (cl Tryz.prog m 101 ([.pointer p0, .int .i64 x1]) H (fun w0 H1 =>
  (∃ i2 : Int, (must (
  w0 = .int .i64 i2) (
  (br (i2 != 0) (
  (K (.int .i64 i2) H1)) (
  (nn p0 (fun a3 =>
  (ixA x1 8 (
  (ldB H1 ((a3.add 9).add (x1.toNat * 1)) (fun e4 =>
  (br (!e4) (
  (K (.int .i64 13) H1)) (
  (nn p0 (fun a5 =>
  (ixA x1 8 (
  (st H1 ((a5.add 9).add (x1.toNat * 1)) (.bool false) (fun H6 =>
  (nn p0 (fun a7 =>
  (ixA x1 8 (
  (ldI .i64 H6 ((a7.add 1).add (x1.toNat * 1)) (fun i8 =>
  (nn p0 (fun a9 =>
  (cl Tryz.prog m 108 ([.int .i64 i8, .int .i64 1]) H6 (fun w10 H11 =>
  (∃ i12 : Int, (must (
  w10 = .int .i64 i12) (
  (ixA x1 8 (
  (st H11 ((a9.add 1).add (x1.toNat * 1)) (.int .i64 i12) (fun H13 =>
  (K (.int .i64 0) H13)))))))))))))))))))))))))))))))))))))))
theorem W58 (m : Amb) (p0 : Option Addr) (x1 : Int) (H : Hp) (K : Value → Hp → Prop) : funcW Tryz.prog m [] Tryz.f58 [.c (.p p0), .c (.i .i64 x1)] H K = t58 m p0 x1 H K := by kernel_rfl
theorem S58 {m : Amb} {p0 : Option Addr} {x1 : Int} {H : Hp} {K : Value → Hp → Prop} (h : t58 m p0 x1 H K) : CallsH Tryz.prog m 58 [.pointer p0, .int .i64 x1] H K :=
  callsH_of_W (args := [.c (.p p0), .c (.i .i64 x1)]) mixed Tryz.func58 ((W58 m p0 x1 H K).mpr h)

/-- (switchyard/sram.Ram).Clone -/
def t59 (m : Amb) (p0 : Option Addr) (H : Hp) (K : Value → Hp → Prop) : Prop :=
  (br p0.isNone (
  (K (.pointer none) H)) (
  (nn p0 (fun a0 =>
  (ldS H (a0.add 0) (fun r1 l2 l3 =>
  (cl Tryz.prog m 97 ([.slice r1 l2 l3]) H (fun w4 H5 =>
  (∃ r6 : Option Addr, (∃ l7 : Nat, (∃ l8 : Nat, (must (
  w4 = .slice r6 l7 l8) (
  (nw H5 ([.slice r6 l7 l8]) 147 (fun a9 H10 =>
  (K (.pointer (some a9)) H10))))))))))))))))
theorem W59 (m : Amb) (p0 : Option Addr) (H : Hp) (K : Value → Hp → Prop) : funcW Tryz.prog m [] Tryz.f59 [.c (.p p0)] H K = t59 m p0 H K := by kernel_rfl
theorem S59 {m : Amb} {p0 : Option Addr} {H : Hp} {K : Value → Hp → Prop} (h : t59 m p0 H K) : CallsH Tryz.prog m 59 [.pointer p0] H K :=
  callsH_of_W (args := [.c (.p p0)]) mixed Tryz.func59 ((W59 m p0 H K).mpr h)

/-- (switchyard/sbuf.Buffer).Clone -/
def t60 (m : Amb) (p0 : Option Addr) (H : Hp) (K : Value → Hp → Prop) : Prop :=
  (br p0.isNone (
  (K (.pointer none) H)) (
  (nn p0 (fun a0 =>
  (ldI .i64 H (a0.add 0) (fun i1 =>
  (cl Tryz.prog m 92 ([.pointer p0]) H (fun w2 H3 =>
  (∃ r4 : Option Addr, (∃ l5 : Nat, (∃ l6 : Nat, (must (
  w2 = .slice r4 l5 l6) (
  (must (
  (cont H3 (a0.add 0) (.int .i64 i1))) (
  (nw H3 ([.int .i64 i1, .slice r4 l5 l6]) 149 (fun a7 H8 =>
  (K (.pointer (some a7)) H8))))))))))))))))))
theorem W60 (m : Amb) (p0 : Option Addr) (H : Hp) (K : Value → Hp → Prop) : funcW Tryz.prog m [] Tryz.f60 [.c (.p p0)] H K = t60 m p0 H K := by kernel_rfl
theorem S60 {m : Amb} {p0 : Option Addr} {H : Hp} {K : Value → Hp → Prop} (h : t60 m p0 H K) : CallsH Tryz.prog m 60 [.pointer p0] H K :=
  callsH_of_W (args := [.c (.p p0)]) mixed Tryz.func60 ((W60 m p0 H K).mpr h)

/-- (switchyard/lane.Lane).Clone -/
def t61 (m : Amb) (p0 : Option Addr) (H : Hp) (K : Value → Hp → Prop) : Prop :=
  (br p0.isNone (
  (K (.pointer none) H)) (
  (nn p0 (fun a0 =>
  (ldS H (a0.add 0) (fun r1 l2 l3 =>
  (nn p0 (fun a4 =>
  (ldI .i64 H (a4.add 2) (fun i5 =>
  (mkS Tryz.prog 3 1 8 H ((l2 : Int)) ((l2 : Int)) (fun r6 l7 l8 H9 =>
  (must (
  (cont H9 (a4.add 2) (.int .i64 i5))) (
  (nw H9 ([.slice r6 l7 l8, .int .i64 0, .int .i64 i5]) 151 (fun a10 H11 =>
  (ldS H11 (a10.add 0) (fun r12 l13 l14 =>
  (cl Tryz.prog m 96 ([.pointer p0]) H11 (fun w15 H16 =>
  (∃ r17 : Option Addr, (∃ l18 : Nat, (∃ l19 : Nat, (must (
  w15 = .slice r17 l18 l19) (
  (must (
  (cont H16 (a10.add 0) (.slice r12 l13 l14))) (
  (cpy 1 H16 r12 l13 r17 l18 (fun i20 H21 =>
  (K (.pointer (some a10)) H21))))))))))))))))))))))))))))))
theorem W61 (m : Amb) (p0 : Option Addr) (H : Hp) (K : Value → Hp → Prop) : funcW Tryz.prog m [] Tryz.f61 [.c (.p p0)] H K = t61 m p0 H K := by kernel_rfl
theorem S61 {m : Amb} {p0 : Option Addr} {H : Hp} {K : Value → Hp → Prop} (h : t61 m p0 H K) : CallsH Tryz.prog m 61 [.pointer p0] H K :=
  callsH_of_W (args := [.c (.p p0)]) mixed Tryz.func61 ((W61 m p0 H K).mpr h)

/-- switchyard/site.Decode -/
def t62 (m : Amb) (x0 : Int) (x1 : Int) (x2 : Int) (x3 : Int) (H : Hp) (K : Value → Hp → Prop) : Prop :=
  (nw H ([.int .i64 x0, .int .i64 x1, .int .i64 x2]) 23 (fun a0 H1 =>
  (nw H1 (zc Tryz.prog 77) 77 (fun a2 H3 =>
  (cl Tryz.prog m 109 ([.int .i64 x3]) H3 (fun w4 H5 =>
  (∃ i6 : Int, (∃ i7 : Int, (∃ i8 : Int, (must (
  w4 = .agg #[.int .i64 i6, .int .i64 i7, .int .i64 i8]) (
  (nw H5 (zc Tryz.prog 77) 77 (fun a9 H10 =>
  (st H10 (a9.add 0) (.int .i64 i6) (fun H11 =>
  (st H11 (a9.add 1) (.int .i64 i7) (fun H12 =>
  (st H12 (a9.add 2) (.int .i64 i8) (fun H13 =>
  (ldI .i64 H13 (a0.add 0) (fun i14 =>
  (ldI .i64 H13 (a0.add 1) (fun i15 =>
  (ldI .i64 H13 (a0.add 2) (fun i16 =>
  (ldI .i64 H13 (a9.add 0) (fun i17 =>
  (ldI .i64 H13 (a9.add 1) (fun i18 =>
  (ldI .i64 H13 (a9.add 2) (fun i19 =>
  (cl Tryz.prog m 110 ([.agg #[.int .i64 i14, .int .i64 i15, .int .i64 i16], .agg #[.int .i64 i17, .int .i64 i18, .int .i64 i19]]) H13 (fun w20 H21 =>
  (∃ i22 : Int, (∃ e23 : Bool, (must (
  w20 = .tuple #[.int .i64 i22, .bool e23]) (
  (br (!e23) (
  (st H21 (a2.add 0) (.int .i64 0) (fun H24 =>
  (st H24 (a2.add 1) (.int .i64 0) (fun H25 =>
  (st H25 (a2.add 2) (.int .i64 0) (fun H26 =>
  (ldI .i64 H26 (a2.add 0) (fun i27 =>
  (ldI .i64 H26 (a2.add 1) (fun i28 =>
  (ldI .i64 H26 (a2.add 2) (fun i29 =>
  (K (.tuple #[.agg #[.int .i64 i27, .int .i64 i28, .int .i64 i29], .bool false]) H26)))))))))))))) (
  (ldI .i64 H21 (a9.add 0) (fun i30 =>
  (ldI .i64 H21 (a9.add 1) (fun i31 =>
  (ldI .i64 H21 (a9.add 2) (fun i32 =>
  (st H21 (a2.add 0) (.int .i64 i30) (fun H33 =>
  (st H33 (a2.add 1) (.int .i64 i31) (fun H34 =>
  (st H34 (a2.add 2) (.int .i64 i32) (fun H35 =>
  (ldI .i64 H35 (a2.add 0) (fun i36 =>
  (ldI .i64 H35 (a2.add 1) (fun i37 =>
  (ldI .i64 H35 (a2.add 2) (fun i38 =>
  (K (.tuple #[.agg #[.int .i64 i36, .int .i64 i37, .int .i64 i38], .bool true]) H35))))))))))))))))))))))))))))))))))))))))))))))))))))))))))
theorem W62 (m : Amb) (x0 : Int) (x1 : Int) (x2 : Int) (x3 : Int) (H : Hp) (K : Value → Hp → Prop) : funcW Tryz.prog m [] Tryz.f62 [.g [.i .i64 x0, .i .i64 x1, .i .i64 x2], .c (.i .i64 x3)] H K = t62 m x0 x1 x2 x3 H K := by kernel_rfl
theorem S62 {m : Amb} {x0 : Int} {x1 : Int} {x2 : Int} {x3 : Int} {H : Hp} {K : Value → Hp → Prop} (h : t62 m x0 x1 x2 x3 H K) : CallsH Tryz.prog m 62 [.agg #[.int .i64 x0, .int .i64 x1, .int .i64 x2], .int .i64 x3] H K :=
  callsH_of_W (args := [.g [.i .i64 x0, .i .i64 x1, .i .i64 x2], .c (.i .i64 x3)]) mixed Tryz.func62 ((W62 m x0 x1 x2 x3 H K).mpr h)

/-- (switchyard/bus.Bus).ask -/
def t63 (m : Amb) (p0 : Option Addr) (x1 : Int) (v2 : Value) (H : Hp) (K : Value → Hp → Prop) : Prop :=
  (br p0.isNone (
  (K (.int .i64 1) H)) (
  (br (decide (x1 < 0)) (
  (K (.int .i64 3) H)) (
  (nn p0 (fun a0 =>
  (ldS H (a0.add 1) (fun r1 l2 l3 =>
  (br (decide (x1 ≥ (l2 : Int))) (
  (K (.int .i64 3) H)) (
  (nn p0 (fun a4 =>
  (ldS H (a4.add 1) (fun r5 l6 l7 =>
  (ixS r5 x1 l6 (fun a8 =>
  (ldP H (a8.add (x1.toNat * 1)) (fun r9 =>
  (clV Tryz.prog m v2 ([.pointer r9]) H (fun w10 H11 =>
  (∃ i12 : Int, (must (
  w10 = .int .i64 i12) (
  (K (.int .i64 i12) H11))))))))))))))))))))))))
theorem W63 (m : Amb) (p0 : Option Addr) (x1 : Int) (v2 : Value) (H : Hp) (K : Value → Hp → Prop) : funcW Tryz.prog m [] Tryz.f63 [.c (.p p0), .c (.i .i64 x1), .c (.v v2)] H K = t63 m p0 x1 v2 H K := by kernel_rfl
theorem S63 {m : Amb} {p0 : Option Addr} {x1 : Int} {v2 : Value} {H : Hp} {K : Value → Hp → Prop} (h : t63 m p0 x1 v2 H K) : CallsH Tryz.prog m 63 [.pointer p0, .int .i64 x1, v2] H K :=
  callsH_of_W (args := [.c (.p p0), .c (.i .i64 x1), .c (.v v2)]) mixed Tryz.func63 ((W63 m p0 x1 v2 H K).mpr h)

/-- (switchyard/bus.Bus).Load$1 -/
def t64 (m : Amb) (p0 : Option Addr) (z1 : Addr) (z2 : Addr) (z3 : Addr) (H : Hp) (K : Value → Hp → Prop) : Prop :=
  (ldP H z1 (fun r0 =>
  (nn r0 (fun a1 =>
  (ldP H (a1.add 0) (fun r2 =>
  (ldI .i64 H z2 (fun i3 =>
  (cl Tryz.prog m 65 ([.pointer r2, .int .i64 i3]) H (fun w4 H5 =>
  (∃ i6 : Int, (∃ i7 : Int, (must (
  w4 = .tuple #[.int .i64 i6, .int .i64 i7]) (
  (st H5 z3 (.int .i64 i6) (fun H8 =>
  (br (i7 != 0) (
  (K (.int .i64 i7) H8)) (
  (ldI .i64 H8 z2 (fun i9 =>
  (cl Tryz.prog m 66 ([.pointer p0, .int .i64 i9]) H8 (fun w10 H11 =>
  (∃ i12 : Int, (∃ e13 : Bool, (must (
  w10 = .tuple #[.int .i64 i12, .bool e13]) (
  (br e13 (
  (st H11 z3 (.int .i64 i12) (fun H14 =>
  (K (.int .i64 0) H14)))) (
  (K (.int .i64 0) H11)))))))))))))))))))))))))))))
theorem W64 (m : Amb) (p0 : Option Addr) (z1 : Addr) (z2 : Addr) (z3 : Addr) (H : Hp) (K : Value → Hp → Prop) : funcW Tryz.prog m [] Tryz.f64 [.c (.p p0), .c (.a z1), .c (.a z2), .c (.a z3)] H K = t64 m p0 z1 z2 z3 H K := by kernel_rfl
theorem S64 {m : Amb} {p0 : Option Addr} {z1 : Addr} {z2 : Addr} {z3 : Addr} {H : Hp} {K : Value → Hp → Prop} (h : t64 m p0 z1 z2 z3 H K) : CallsH Tryz.prog m 64 [.pointer p0, .pointer (some z1), .pointer (some z2), .pointer (some z3)] H K :=
  callsH_of_W (args := [.c (.p p0), .c (.a z1), .c (.a z2), .c (.a z3)]) mixed Tryz.func64 ((W64 m p0 z1 z2 z3 H K).mpr h)

/-- (switchyard/sram.Ram).Load -/
def t65 (m : Amb) (p0 : Option Addr) (x1 : Int) (H : Hp) (K : Value → Hp → Prop) : Prop :=
  (cl Tryz.prog m 111 ([.pointer p0, .int .i64 x1, .int .i64 1]) H (fun w0 H1 =>
  (∃ i2 : Int, (must (
  w0 = .int .i64 i2) (
  (br (i2 != 0) (
  (K (.tuple #[.int .i64 0, .int .i64 i2]) H1)) (
  (nn p0 (fun a3 =>
  (ldS H1 (a3.add 0) (fun r4 l5 l6 =>
  (ixS r4 x1 l5 (fun a7 =>
  (ldI .i64 H1 (a7.add (x1.toNat * 1)) (fun i8 =>
  (K (.tuple #[.int .i64 i8, .int .i64 0]) H1))))))))))))))))
theorem W65 (m : Amb) (p0 : Option Addr) (x1 : Int) (H : Hp) (K : Value → Hp → Prop) : funcW Tryz.prog m [] Tryz.f65 [.c (.p p0), .c (.i .i64 x1)] H K = t65 m p0 x1 H K := by kernel_rfl
theorem S65 {m : Amb} {p0 : Option Addr} {x1 : Int} {H : Hp} {K : Value → Hp → Prop} (h : t65 m p0 x1 H K) : CallsH Tryz.prog m 65 [.pointer p0, .int .i64 x1] H K :=
  callsH_of_W (args := [.c (.p p0), .c (.i .i64 x1)]) mixed Tryz.func65 ((W65 m p0 x1 H K).mpr h)

/-- (switchyard/sbuf.Buffer).Find -/
def t66 (m : Amb) (p0 : Option Addr) (x1 : Int) (H : Hp) (K : Value → Hp → Prop) : Prop :=
  (br p0.isNone (
  (K (.tuple #[.int .i64 0, .bool false]) H)) (
  (nn p0 (fun a0 =>
  (ldS H (a0.add 1) (fun r1 l2 l3 =>
  (cl Tryz.prog m 112 ([.slice r1 l2 l3, .int .i64 x1]) H (fun w4 H5 =>
  (∃ i6 : Int, (∃ e7 : Bool, (must (
  w4 = .tuple #[.int .i64 i6, .bool e7]) (
  (K (.tuple #[.int .i64 i6, .bool e7]) H5)))))))))))))
theorem W66 (m : Amb) (p0 : Option Addr) (x1 : Int) (H : Hp) (K : Value → Hp → Prop) : funcW Tryz.prog m [] Tryz.f66 [.c (.p p0), .c (.i .i64 x1)] H K = t66 m p0 x1 H K := by kernel_rfl
theorem S66 {m : Amb} {p0 : Option Addr} {x1 : Int} {H : Hp} {K : Value → Hp → Prop} (h : t66 m p0 x1 H K) : CallsH Tryz.prog m 66 [.pointer p0, .int .i64 x1] H K :=
  callsH_of_W (args := [.c (.p p0), .c (.i .i64 x1)]) mixed Tryz.func66 ((W66 m p0 x1 H K).mpr h)

/-- (switchyard/bus.Bus).Fence$1 -/
def t67 (m : Amb) (p0 : Option Addr) (z1 : Addr) (z2 : Addr) (H : Hp) (K : Value → Hp → Prop) : Prop :=
  (ldP H z1 (fun r0 =>
  (cl Tryz.prog m 68 ([.pointer r0, .pointer p0]) H (fun w1 H2 =>
  (∃ i3 : Int, (must (
  w1 = .int .i64 i3) (
  (st H2 z2 (.int .i64 i3) (fun H4 =>
  (K (.int .i64 0) H4))))))))))
theorem W67 (m : Amb) (p0 : Option Addr) (z1 : Addr) (z2 : Addr) (H : Hp) (K : Value → Hp → Prop) : funcW Tryz.prog m [] Tryz.f67 [.c (.p p0), .c (.a z1), .c (.a z2)] H K = t67 m p0 z1 z2 H K := by kernel_rfl
theorem S67 {m : Amb} {p0 : Option Addr} {z1 : Addr} {z2 : Addr} {H : Hp} {K : Value → Hp → Prop} (h : t67 m p0 z1 z2 H K) : CallsH Tryz.prog m 67 [.pointer p0, .pointer (some z1), .pointer (some z2)] H K :=
  callsH_of_W (args := [.c (.p p0), .c (.a z1), .c (.a z2)]) mixed Tryz.func67 ((W67 m p0 z1 z2 H K).mpr h)

/-- (switchyard/bus.Bus).fence -/
def t68 (m : Amb) (p0 : Option Addr) (p1 : Option Addr) (H : Hp) (K : Value → Hp → Prop) : Prop :=
  (∃ I0 : Int → Hp → Prop, (∃ I1 : Int → Hp → Nat, ((I0 0 H) ∧
  (∀ i2 : Int, (∀ H3 : Hp, (∀ l4 : Nat, (∀ j5 : Nat → Value, (((I0 i2 H3)) → 
  ((I1 i2 H3 = l4) → 
  (cl Tryz.prog m 78 ([.pointer p0, .pointer p1]) H3 (fun w6 H7 =>
  (∃ e8 : Bool, (must (
  w6 = .bool e8) (
  (br e8 (
  ((I0 (wr .i64 (i2 + 1)) H7) ∧
  ((I1 (wr .i64 (i2 + 1)) H7).succ.le l4))) (
  (K (.int .i64 i2) H7)))))))))))))))))
theorem W68 (m : Amb) (p0 : Option Addr) (p1 : Option Addr) (H : Hp) (K : Value → Hp → Prop) : funcW Tryz.prog m [⟨true, 3, [(5, (.i .i64))]⟩] Tryz.f68 [.c (.p p0), .c (.p p1)] H K = t68 m p0 p1 H K := by kernel_rfl
theorem S68 {m : Amb} {p0 : Option Addr} {p1 : Option Addr} {H : Hp} {K : Value → Hp → Prop} (h : t68 m p0 p1 H K) : CallsH Tryz.prog m 68 [.pointer p0, .pointer p1] H K :=
  callsH_of_W (args := [.c (.p p0), .c (.p p1)]) mixed Tryz.func68 ((W68 m p0 p1 H K).mpr h)

/-- (switchyard/locks.Bank).Try -/
def t69 (m : Amb) (p0 : Option Addr) (x1 : Int) (x2 : Int) (H : Hp) (K : Value → Hp → Prop) : Prop :=
  (cl Tryz.prog m 81 ([.pointer p0, .int .i64 x1, .int .i64 x2]) H (fun w0 H1 =>
  (∃ i2 : Int, (must (
  w0 = .int .i64 i2) (
  (br (i2 != 0) (
  (K (.tuple #[.bool false, .int .i64 i2]) H1)) (
  (nn p0 (fun a3 =>
  (ixA x2 16 (
  (ldI .i64 H1 ((a3.add 2).add (x2.toNat * 1)) (fun i4 =>
  (br (i4 != 0) (
  (K (.tuple #[.bool false, .int .i64 i2]) H1)) (
  (nn p0 (fun a5 =>
  (ixA x2 16 (
  (st H1 ((a5.add 2).add (x2.toNat * 1)) (.int .i64 (wr .i64 (x1 + 1))) (fun H6 =>
  (K (.tuple #[.bool true, .int .i64 0]) H6))))))))))))))))))))))
theorem W69 (m : Amb) (p0 : Option Addr) (x1 : Int) (x2 : Int) (H : Hp) (K : Value → Hp → Prop) : funcW Tryz.prog m [] Tryz.f69 [.c (.p p0), .c (.i .i64 x1), .c (.i .i64 x2)] H K = t69 m p0 x1 x2 H K := by kernel_rfl
theorem S69 {m : Amb} {p0 : Option Addr} {x1 : Int} {x2 : Int} {H : Hp} {K : Value → Hp → Prop} (h : t69 m p0 x1 x2 H K) : CallsH Tryz.prog m 69 [.pointer p0, .int .i64 x1, .int .i64 x2] H K :=
  callsH_of_W (args := [.c (.p p0), .c (.i .i64 x1), .c (.i .i64 x2)]) mixed Tryz.func69 ((W69 m p0 x1 x2 H K).mpr h)

/-- (switchyard/gate.Gate).Epoch -/
def t70 (m : Amb) (p0 : Option Addr) (x1 : Int) (H : Hp) (K : Value → Hp → Prop) : Prop :=
  (cl Tryz.prog m 101 ([.pointer p0, .int .i64 x1]) H (fun w0 H1 =>
  (∃ i2 : Int, (must (
  w0 = .int .i64 i2) (
  (br (i2 != 0) (
  (K (.tuple #[.int .i64 0, .int .i64 i2]) H1)) (
  (nn p0 (fun a3 =>
  (ixA x1 8 (
  (ldI .i64 H1 ((a3.add 1).add (x1.toNat * 1)) (fun i4 =>
  (K (.tuple #[.int .i64 i4, .int .i64 0]) H1))))))))))))))
theorem W70 (m : Amb) (p0 : Option Addr) (x1 : Int) (H : Hp) (K : Value → Hp → Prop) : funcW Tryz.prog m [] Tryz.f70 [.c (.p p0), .c (.i .i64 x1)] H K = t70 m p0 x1 H K := by kernel_rfl
theorem S70 {m : Amb} {p0 : Option Addr} {x1 : Int} {H : Hp} {K : Value → Hp → Prop} (h : t70 m p0 x1 H K) : CallsH Tryz.prog m 70 [.pointer p0, .int .i64 x1] H K :=
  callsH_of_W (args := [.c (.p p0), .c (.i .i64 x1)]) mixed Tryz.func70 ((W70 m p0 x1 H K).mpr h)

/-- (switchyard/mbox.Box).Pending -/
def t71 (m : Amb) (p0 : Option Addr) (x1 : Int) (H : Hp) (K : Value → Hp → Prop) : Prop :=
  (nw H (zc Tryz.prog 3) 3 (fun a0 H1 =>
  (cl Tryz.prog m 82 ([.pointer p0, .int .i64 x1, .func (.func 113) #[] #[.pointer (some a0)]]) H1 (fun w2 H3 =>
  (∃ i4 : Int, (must (
  w2 = .int .i64 i4) (
  (ldI .i64 H3 a0 (fun i5 =>
  (st H3 a0 (.int .i64 i5) (fun H6 =>
  (ldI .i64 H6 a0 (fun i7 =>
  (K (.tuple #[.int .i64 i7, .int .i64 i4]) H6))))))))))))))
theorem W71 (m : Amb) (p0 : Option Addr) (x1 : Int) (H : Hp) (K : Value → Hp → Prop) : funcW Tryz.prog m [] Tryz.f71 [.c (.p p0), .c (.i .i64 x1)] H K = t71 m p0 x1 H K := by kernel_rfl
theorem S71 {m : Amb} {p0 : Option Addr} {x1 : Int} {H : Hp} {K : Value → Hp → Prop} (h : t71 m p0 x1 H K) : CallsH Tryz.prog m 71 [.pointer p0, .int .i64 x1] H K :=
  callsH_of_W (args := [.c (.p p0), .c (.i .i64 x1)]) mixed Tryz.func71 ((W71 m p0 x1 H K).mpr h)

/-- (switchyard/mbox.Box).Take -/
def t72 (m : Amb) (p0 : Option Addr) (x1 : Int) (H : Hp) (K : Value → Hp → Prop) : Prop :=
  (nw H (zc Tryz.prog 3) 3 (fun a0 H1 =>
  (nw H1 (zc Tryz.prog 3) 3 (fun a2 H3 =>
  (cl Tryz.prog m 82 ([.pointer p0, .int .i64 x1, .func (.func 114) #[] #[.pointer (some a0), .pointer (some a2)]]) H3 (fun w4 H5 =>
  (∃ i6 : Int, (must (
  w4 = .int .i64 i6) (
  (ldI .i64 H5 a0 (fun i7 =>
  (ldI .i64 H5 a2 (fun i8 =>
  (st H5 a0 (.int .i64 i7) (fun H9 =>
  (must (
  (cont H9 a2 (.int .i64 i8))) (
  (st H9 a2 (.int .i64 i8) (fun H10 =>
  (ldI .i64 H10 a0 (fun i11 =>
  (ldI .i64 H10 a2 (fun i12 =>
  (K (.tuple #[.int .i64 i11, .int .i64 i12, .int .i64 i6]) H10))))))))))))))))))))))))
theorem W72 (m : Amb) (p0 : Option Addr) (x1 : Int) (H : Hp) (K : Value → Hp → Prop) : funcW Tryz.prog m [] Tryz.f72 [.c (.p p0), .c (.i .i64 x1)] H K = t72 m p0 x1 H K := by kernel_rfl
theorem S72 {m : Amb} {p0 : Option Addr} {x1 : Int} {H : Hp} {K : Value → Hp → Prop} (h : t72 m p0 x1 H K) : CallsH Tryz.prog m 72 [.pointer p0, .int .i64 x1] H K :=
  callsH_of_W (args := [.c (.p p0), .c (.i .i64 x1)]) mixed Tryz.func72 ((W72 m p0 x1 H K).mpr h)

/-- (switchyard/mbox.Box).Waits -/
def t73 (m : Amb) (p0 : Option Addr) (x1 : Int) (H : Hp) (K : Value → Hp → Prop) : Prop :=
  (nw H (zc Tryz.prog 3) 3 (fun a0 H1 =>
  (cl Tryz.prog m 82 ([.pointer p0, .int .i64 x1, .func (.func 116) #[] #[.pointer (some a0)]]) H1 (fun w2 H3 =>
  (∃ i4 : Int, (must (
  w2 = .int .i64 i4) (
  (ldI .i64 H3 a0 (fun i5 =>
  (st H3 a0 (.int .i64 i5) (fun H6 =>
  (ldI .i64 H6 a0 (fun i7 =>
  (K (.int .i64 i7) H6))))))))))))))
theorem W73 (m : Amb) (p0 : Option Addr) (x1 : Int) (H : Hp) (K : Value → Hp → Prop) : funcW Tryz.prog m [] Tryz.f73 [.c (.p p0), .c (.i .i64 x1)] H K = t73 m p0 x1 H K := by kernel_rfl
theorem S73 {m : Amb} {p0 : Option Addr} {x1 : Int} {H : Hp} {K : Value → Hp → Prop} (h : t73 m p0 x1 H K) : CallsH Tryz.prog m 73 [.pointer p0, .int .i64 x1] H K :=
  callsH_of_W (args := [.c (.p p0), .c (.i .i64 x1)]) mixed Tryz.func73 ((W73 m p0 x1 H K).mpr h)

/-- (switchyard/bus.Bus).Store$1 -/
def t74 (m : Amb) (p0 : Option Addr) (z1 : Addr) (z2 : Addr) (z3 : Addr) (H : Hp) (K : Value → Hp → Prop) : Prop :=
  (ldP H z1 (fun r0 =>
  (ldI .i64 H z2 (fun i1 =>
  (ldI .i64 H z3 (fun i2 =>
  (cl Tryz.prog m 75 ([.pointer r0, .int .i64 i1, .int .i64 i2]) H (fun w3 H4 =>
  (∃ i5 : Int, (must (
  w3 = .int .i64 i5) (
  (br (i5 != 0) (
  (K (.int .i64 i5) H4)) (
  (cl Tryz.prog m 76 ([.pointer p0]) H4 (fun w6 H7 =>
  (∃ i8 : Int, (must (
  w6 = .int .i64 i8) (
  (cl Tryz.prog m 77 ([.pointer p0]) H7 (fun w9 H10 =>
  (∃ i11 : Int, (must (
  w9 = .int .i64 i11) (
  (br (i8 == i11) (
  (ldP H10 z1 (fun r12 =>
  (cl Tryz.prog m 78 ([.pointer r12, .pointer p0]) H10 (fun w13 H14 =>
  (∃ e15 : Bool, (must (
  w13 = .bool e15) (
  (ldI .i64 H14 z2 (fun i16 =>
  (ldI .i64 H14 z3 (fun i17 =>
  (cl Tryz.prog m 79 ([.pointer p0, .int .i64 i16, .int .i64 i17]) H14 (fun w18 H19 =>
  (∃ i20 : Int, (must (
  w18 = .int .i64 i20) (
  (K (.int .i64 i20) H19)))))))))))))))))) (
  (ldI .i64 H10 z2 (fun i21 =>
  (ldI .i64 H10 z3 (fun i22 =>
  (cl Tryz.prog m 79 ([.pointer p0, .int .i64 i21, .int .i64 i22]) H10 (fun w23 H24 =>
  (∃ i25 : Int, (must (
  w23 = .int .i64 i25) (
  (K (.int .i64 i25) H24)))))))))))))))))))))))))))))))))))
theorem W74 (m : Amb) (p0 : Option Addr) (z1 : Addr) (z2 : Addr) (z3 : Addr) (H : Hp) (K : Value → Hp → Prop) : funcW Tryz.prog m [] Tryz.f74 [.c (.p p0), .c (.a z1), .c (.a z2), .c (.a z3)] H K = t74 m p0 z1 z2 z3 H K := by kernel_rfl
theorem S74 {m : Amb} {p0 : Option Addr} {z1 : Addr} {z2 : Addr} {z3 : Addr} {H : Hp} {K : Value → Hp → Prop} (h : t74 m p0 z1 z2 z3 H K) : CallsH Tryz.prog m 74 [.pointer p0, .pointer (some z1), .pointer (some z2), .pointer (some z3)] H K :=
  callsH_of_W (args := [.c (.p p0), .c (.a z1), .c (.a z2), .c (.a z3)]) mixed Tryz.func74 ((W74 m p0 z1 z2 z3 H K).mpr h)

/-- (switchyard/bus.Bus).wrong -/
def t75 (m : Amb) (p0 : Option Addr) (x1 : Int) (x2 : Int) (H : Hp) (K : Value → Hp → Prop) : Prop :=
  (nn p0 (fun a0 =>
  (ldP H (a0.add 0) (fun r1 =>
  (cl Tryz.prog m 65 ([.pointer r1, .int .i64 x1]) H (fun w2 H3 =>
  (∃ i4 : Int, (∃ i5 : Int, (must (
  w2 = .tuple #[.int .i64 i4, .int .i64 i5]) (
  (br (i5 != 0) (
  (K (.int .i64 i5) H3)) (
  (br (decide (x2 < 0)) (
  (K (.int .i64 2) H3)) (
  (br (decide (x2 > 65535)) (
  (K (.int .i64 2) H3)) (
  (K (.int .i64 0) H3)))))))))))))))))
theorem W75 (m : Amb) (p0 : Option Addr) (x1 : Int) (x2 : Int) (H : Hp) (K : Value → Hp → Prop) : funcW Tryz.prog m [] Tryz.f75 [.c (.p p0), .c (.i .i64 x1), .c (.i .i64 x2)] H K = t75 m p0 x1 x2 H K := by kernel_rfl
theorem S75 {m : Amb} {p0 : Option Addr} {x1 : Int} {x2 : Int} {H : Hp} {K : Value → Hp → Prop} (h : t75 m p0 x1 x2 H K) : CallsH Tryz.prog m 75 [.pointer p0, .int .i64 x1, .int .i64 x2] H K :=
  callsH_of_W (args := [.c (.p p0), .c (.i .i64 x1), .c (.i .i64 x2)]) mixed Tryz.func75 ((W75 m p0 x1 x2 H K).mpr h)

/-- (switchyard/sbuf.Buffer).Len -/
def t76 (m : Amb) (p0 : Option Addr) (H : Hp) (K : Value → Hp → Prop) : Prop :=
  (br p0.isNone (
  (K (.int .i64 0) H)) (
  (nn p0 (fun a0 =>
  (ldS H (a0.add 1) (fun r1 l2 l3 =>
  (K (.int .i64 (l2 : Int)) H)))))))
theorem W76 (m : Amb) (p0 : Option Addr) (H : Hp) (K : Value → Hp → Prop) : funcW Tryz.prog m [] Tryz.f76 [.c (.p p0)] H K = t76 m p0 H K := by kernel_rfl
theorem S76 {m : Amb} {p0 : Option Addr} {H : Hp} {K : Value → Hp → Prop} (h : t76 m p0 H K) : CallsH Tryz.prog m 76 [.pointer p0] H K :=
  callsH_of_W (args := [.c (.p p0)]) mixed Tryz.func76 ((W76 m p0 H K).mpr h)

/-- (switchyard/sbuf.Buffer).Cap -/
def t77 (m : Amb) (p0 : Option Addr) (H : Hp) (K : Value → Hp → Prop) : Prop :=
  (br p0.isNone (
  (K (.int .i64 0) H)) (
  (nn p0 (fun a0 =>
  (ldI .i64 H (a0.add 0) (fun i1 =>
  (K (.int .i64 i1) H)))))))
theorem W77 (m : Amb) (p0 : Option Addr) (H : Hp) (K : Value → Hp → Prop) : funcW Tryz.prog m [] Tryz.f77 [.c (.p p0)] H K = t77 m p0 H K := by kernel_rfl
theorem S77 {m : Amb} {p0 : Option Addr} {H : Hp} {K : Value → Hp → Prop} (h : t77 m p0 H K) : CallsH Tryz.prog m 77 [.pointer p0] H K :=
  callsH_of_W (args := [.c (.p p0)]) mixed Tryz.func77 ((W77 m p0 H K).mpr h)

/-- (switchyard/bus.Bus).drain -/
def t78 (m : Amb) (p0 : Option Addr) (p1 : Option Addr) (H : Hp) (K : Value → Hp → Prop) : Prop :=
  (cl Tryz.prog m 118 ([.pointer p1]) H (fun w0 H1 =>
  (∃ i2 : Int, (∃ i3 : Int, (∃ e4 : Bool, (must (
  w0 = .tuple #[.int .i64 i2, .int .i64 i3, .bool e4]) (
  (br e4 (
  (nn p0 (fun a5 =>
  (ldP H1 (a5.add 0) (fun r6 =>
  (cl Tryz.prog m 100 ([.pointer r6, .int .i64 i2, .int .i64 i3]) H1 (fun w7 H8 =>
  (∃ i9 : Int, (must (
  w7 = .int .i64 i9) (
  (K (.bool e4) H8))))))))))) (
  (K (.bool e4) H1))))))))))
theorem W78 (m : Amb) (p0 : Option Addr) (p1 : Option Addr) (H : Hp) (K : Value → Hp → Prop) : funcW Tryz.prog m [] Tryz.f78 [.c (.p p0), .c (.p p1)] H K = t78 m p0 p1 H K := by kernel_rfl
theorem S78 {m : Amb} {p0 : Option Addr} {p1 : Option Addr} {H : Hp} {K : Value → Hp → Prop} (h : t78 m p0 p1 H K) : CallsH Tryz.prog m 78 [.pointer p0, .pointer p1] H K :=
  callsH_of_W (args := [.c (.p p0), .c (.p p1)]) mixed Tryz.func78 ((W78 m p0 p1 H K).mpr h)

/-- (switchyard/sbuf.Buffer).Put -/
def t79 (m : Amb) (p0 : Option Addr) (x1 : Int) (x2 : Int) (H : Hp) (K : Value → Hp → Prop) : Prop :=
  (cl Tryz.prog m 119 ([.int .i64 x1, .int .i64 x2]) H (fun w0 H1 =>
  (∃ w2 : Value, (∃ e3 : Bool, (must (
  w0 = .tuple #[w2, .bool e3]) (
  (br p0.isNone (
  (K (.int .i64 1) H1)) (
  (br (!e3) (
  (K (.int .i64 2) H1)) (
  (nn p0 (fun a4 =>
  (ldS H1 (a4.add 1) (fun r5 l6 l7 =>
  (nn p0 (fun a8 =>
  (ldI .i64 H1 (a8.add 0) (fun i9 =>
  (br (decide ((l6 : Int) ≥ i9)) (
  (K (.int .i64 5) H1)) (
  (nn p0 (fun a10 =>
  (ldS H1 (a10.add 1) (fun r11 l12 l13 =>
  (must (
  w2.oneCell' = true) (
  (nw H1 ([w2]) 160 (fun a14 H15 =>
  (rd H15 (some a14) 1 (fun cs16 =>
  (ap Tryz.prog 160 1 16 H15 r11 l12 l13 cs16 1 (fun r17 l18 l19 H20 =>
  (nn p0 (fun a21 =>
  (st H20 (a21.add 1) (.slice r17 l18 l19) (fun H22 =>
  (K (.int .i64 0) H22)))))))))))))))))))))))))))))))))))))
theorem W79 (m : Amb) (p0 : Option Addr) (x1 : Int) (x2 : Int) (H : Hp) (K : Value → Hp → Prop) : funcW Tryz.prog m [] Tryz.f79 [.c (.p p0), .c (.i .i64 x1), .c (.i .i64 x2)] H K = t79 m p0 x1 x2 H K := by kernel_rfl
theorem S79 {m : Amb} {p0 : Option Addr} {x1 : Int} {x2 : Int} {H : Hp} {K : Value → Hp → Prop} (h : t79 m p0 x1 x2 H K) : CallsH Tryz.prog m 79 [.pointer p0, .int .i64 x1, .int .i64 x2] H K :=
  callsH_of_W (args := [.c (.p p0), .c (.i .i64 x1), .c (.i .i64 x2)]) mixed Tryz.func79 ((W79 m p0 x1 x2 H K).mpr h)

/-- (switchyard/locks.Bank).lock -/
def t80 (m : Amb) (p0 : Option Addr) (x1 : Int) (H : Hp) (K : Value → Hp → Prop) : Prop :=
  (br p0.isNone (
  (K (.int .i64 1) H)) (
  (br (decide (x1 < 0)) (
  (K (.int .i64 2) H)) (
  (nn p0 (fun a0 =>
  (ldI .i64 H (a0.add 1) (fun i1 =>
  (br (decide (x1 ≥ i1)) (
  (K (.int .i64 2) H)) (
  (K (.int .i64 0) H)))))))))))
theorem W80 (m : Amb) (p0 : Option Addr) (x1 : Int) (H : Hp) (K : Value → Hp → Prop) : funcW Tryz.prog m [] Tryz.f80 [.c (.p p0), .c (.i .i64 x1)] H K = t80 m p0 x1 H K := by kernel_rfl
theorem S80 {m : Amb} {p0 : Option Addr} {x1 : Int} {H : Hp} {K : Value → Hp → Prop} (h : t80 m p0 x1 H K) : CallsH Tryz.prog m 80 [.pointer p0, .int .i64 x1] H K :=
  callsH_of_W (args := [.c (.p p0), .c (.i .i64 x1)]) mixed Tryz.func80 ((W80 m p0 x1 H K).mpr h)

/-- (switchyard/locks.Bank).both -/
def t81 (m : Amb) (p0 : Option Addr) (x1 : Int) (x2 : Int) (H : Hp) (K : Value → Hp → Prop) : Prop :=
  (cl Tryz.prog m 106 ([.pointer p0, .int .i64 x1]) H (fun w0 H1 =>
  (∃ i2 : Int, (must (
  w0 = .int .i64 i2) (
  (br (i2 != 0) (
  (K (.int .i64 i2) H1)) (
  (cl Tryz.prog m 80 ([.pointer p0, .int .i64 x2]) H1 (fun w3 H4 =>
  (∃ i5 : Int, (must (
  w3 = .int .i64 i5) (
  (K (.int .i64 i5) H4)))))))))))))
theorem W81 (m : Amb) (p0 : Option Addr) (x1 : Int) (x2 : Int) (H : Hp) (K : Value → Hp → Prop) : funcW Tryz.prog m [] Tryz.f81 [.c (.p p0), .c (.i .i64 x1), .c (.i .i64 x2)] H K = t81 m p0 x1 x2 H K := by kernel_rfl
theorem S81 {m : Amb} {p0 : Option Addr} {x1 : Int} {x2 : Int} {H : Hp} {K : Value → Hp → Prop} (h : t81 m p0 x1 x2 H K) : CallsH Tryz.prog m 81 [.pointer p0, .int .i64 x1, .int .i64 x2] H K :=
  callsH_of_W (args := [.c (.p p0), .c (.i .i64 x1), .c (.i .i64 x2)]) mixed Tryz.func81 ((W81 m p0 x1 x2 H K).mpr h)

/-- (switchyard/mbox.Box).ask -/
def t82 (m : Amb) (p0 : Option Addr) (x1 : Int) (v2 : Value) (H : Hp) (K : Value → Hp → Prop) : Prop :=
  (br p0.isNone (
  (K (.int .i64 1) H)) (
  (br (decide (x1 < 0)) (
  (K (.int .i64 3) H)) (
  (nn p0 (fun a0 =>
  (ldS H (a0.add 0) (fun r1 l2 l3 =>
  (br (decide (x1 ≥ (l2 : Int))) (
  (K (.int .i64 3) H)) (
  (nn p0 (fun a4 =>
  (ldS H (a4.add 0) (fun r5 l6 l7 =>
  (ixS r5 x1 l6 (fun a8 =>
  (clV Tryz.prog m v2 ([.pointer (some (a8.add (x1.toNat * 2)))]) H (fun w9 H10 =>
  (∃ i11 : Int, (must (
  w9 = .int .i64 i11) (
  (K (.int .i64 i11) H10))))))))))))))))))))))
theorem W82 (m : Amb) (p0 : Option Addr) (x1 : Int) (v2 : Value) (H : Hp) (K : Value → Hp → Prop) : funcW Tryz.prog m [] Tryz.f82 [.c (.p p0), .c (.i .i64 x1), .c (.v v2)] H K = t82 m p0 x1 v2 H K := by kernel_rfl
theorem S82 {m : Amb} {p0 : Option Addr} {x1 : Int} {v2 : Value} {H : Hp} {K : Value → Hp → Prop} (h : t82 m p0 x1 v2 H K) : CallsH Tryz.prog m 82 [.pointer p0, .int .i64 x1, v2] H K :=
  callsH_of_W (args := [.c (.p p0), .c (.i .i64 x1), .c (.v v2)]) mixed Tryz.func82 ((W82 m p0 x1 v2 H K).mpr h)

/-- (switchyard/mbox.Box).Ack$1 -/
def t83 (m : Amb) (p0 : Option Addr) (z1 : Addr) (H : Hp) (K : Value → Hp → Prop) : Prop :=
  (nn p0 (fun a0 =>
  (ldI .i64 H (a0.add 0) (fun i1 =>
  (ldI .i64 H z1 (fun i2 =>
  (nn p0 (fun a3 =>
  (st H (a3.add 0) (.int .i64 (bitsOf .andNot .i64 i1 i2)) (fun H4 =>
  (K (.int .i64 0) H4)))))))))))
theorem W83 (m : Amb) (p0 : Option Addr) (z1 : Addr) (H : Hp) (K : Value → Hp → Prop) : funcW Tryz.prog m [] Tryz.f83 [.c (.p p0), .c (.a z1)] H K = t83 m p0 z1 H K := by kernel_rfl
theorem S83 {m : Amb} {p0 : Option Addr} {z1 : Addr} {H : Hp} {K : Value → Hp → Prop} (h : t83 m p0 z1 H K) : CallsH Tryz.prog m 83 [.pointer p0, .pointer (some z1)] H K :=
  callsH_of_W (args := [.c (.p p0), .c (.a z1)]) mixed Tryz.func83 ((W83 m p0 z1 H K).mpr h)

/-- (switchyard/mbox.Box).Ring$1 -/
def t84 (m : Amb) (p0 : Option Addr) (z1 : Addr) (z2 : Addr) (z3 : Addr) (z4 : Addr) (H : Hp) (K : Value → Hp → Prop) : Prop :=
  (ldP H z1 (fun r0 =>
  (ldI .i64 H z2 (fun i1 =>
  (cl Tryz.prog m 82 ([.pointer r0, .int .i64 i1, .func (.func 85) #[] #[.pointer (some z3), .pointer (some z4)]]) H (fun w2 H3 =>
  (∃ i4 : Int, (must (
  w2 = .int .i64 i4) (
  (K (.int .i64 i4) H3))))))))))
theorem W84 (m : Amb) (p0 : Option Addr) (z1 : Addr) (z2 : Addr) (z3 : Addr) (z4 : Addr) (H : Hp) (K : Value → Hp → Prop) : funcW Tryz.prog m [] Tryz.f84 [.c (.p p0), .c (.a z1), .c (.a z2), .c (.a z3), .c (.a z4)] H K = t84 m p0 z1 z2 z3 z4 H K := by kernel_rfl
theorem S84 {m : Amb} {p0 : Option Addr} {z1 : Addr} {z2 : Addr} {z3 : Addr} {z4 : Addr} {H : Hp} {K : Value → Hp → Prop} (h : t84 m p0 z1 z2 z3 z4 H K) : CallsH Tryz.prog m 84 [.pointer p0, .pointer (some z1), .pointer (some z2), .pointer (some z3), .pointer (some z4)] H K :=
  callsH_of_W (args := [.c (.p p0), .c (.a z1), .c (.a z2), .c (.a z3), .c (.a z4)]) mixed Tryz.func84 ((W84 m p0 z1 z2 z3 z4 H K).mpr h)

/-- (switchyard/mbox.Box).Ring$1$1 -/
def t85 (m : Amb) (p0 : Option Addr) (z1 : Addr) (z2 : Addr) (H : Hp) (K : Value → Hp → Prop) : Prop :=
  (ldI .i64 H z1 (fun i0 =>
  (ldI .i64 H z1 (fun i1 =>
  (cl Tryz.prog m 35 ([.int .i64 i1]) H (fun w2 H3 =>
  (∃ i4 : Int, (must (
  w2 = .int .i64 i4) (
  (must (
  (cont H3 z1 (.int .i64 i0))) (
  (br (i0 != i4) (
  (K (.int .i64 2) H3)) (
  (nn p0 (fun a5 =>
  (ldI .i64 H3 (a5.add 0) (fun i6 =>
  (ldI .i64 H3 z2 (fun i7 =>
  (must (
  0 ≤ i7) (
  (nn p0 (fun a8 =>
  (st H3 (a8.add 0) (.int .i64 (bitsOf .or .i64 i6 (shlOf .i64 1 i7))) (fun H9 =>
  (nn p0 (fun a10 =>
  (ldP H9 (a10.add 1) (fun r11 =>
  (ldI .i64 H9 z2 (fun i12 =>
  (ldI .i64 H9 z1 (fun i13 =>
  (cl Tryz.prog m 86 ([.pointer r11, .int .i64 (wr .i64 (wr .i64 (i12 * 65536) + i13))]) H9 (fun w14 H15 =>
  (∃ i16 : Int, (must (
  w14 = .int .i64 i16) (
  (K (.int .i64 i16) H15)))))))))))))))))))))))))))))))))))))))
theorem W85 (m : Amb) (p0 : Option Addr) (z1 : Addr) (z2 : Addr) (H : Hp) (K : Value → Hp → Prop) : funcW Tryz.prog m [] Tryz.f85 [.c (.p p0), .c (.a z1), .c (.a z2)] H K = t85 m p0 z1 z2 H K := by kernel_rfl
theorem S85 {m : Amb} {p0 : Option Addr} {z1 : Addr} {z2 : Addr} {H : Hp} {K : Value → Hp → Prop} (h : t85 m p0 z1 z2 H K) : CallsH Tryz.prog m 85 [.pointer p0, .pointer (some z1), .pointer (some z2)] H K :=
  callsH_of_W (args := [.c (.p p0), .c (.a z1), .c (.a z2)]) mixed Tryz.func85 ((W85 m p0 z1 z2 H K).mpr h)

/-- (switchyard/lane.Lane).Put -/
def t86 (m : Amb) (p0 : Option Addr) (x1 : Int) (H : Hp) (K : Value → Hp → Prop) : Prop :=
  (br p0.isNone (
  (K (.int .i64 1) H)) (
  (nn p0 (fun a0 =>
  (ldI .i64 H (a0.add 2) (fun i1 =>
  (nn p0 (fun a2 =>
  (ldS H (a2.add 0) (fun r3 l4 l5 =>
  (br (i1 == (l4 : Int)) (
  (K (.int .i64 5) H)) (
  (nn p0 (fun a6 =>
  (ldS H (a6.add 0) (fun r7 l8 l9 =>
  (nn p0 (fun a10 =>
  (ldI .i64 H (a10.add 2) (fun i11 =>
  (cl Tryz.prog m 120 ([.pointer p0, .int .i64 i11]) H (fun w12 H13 =>
  (∃ i14 : Int, (must (
  w12 = .int .i64 i14) (
  (must (
  (cont H13 (a6.add 0) (.slice r7 l8 l9))) (
  (ixS r7 i14 l8 (fun a15 =>
  (st H13 (a15.add (i14.toNat * 1)) (.int .i64 x1) (fun H16 =>
  (nn p0 (fun a17 =>
  (ldI .i64 H16 (a17.add 2) (fun i18 =>
  (nn p0 (fun a19 =>
  (st H16 (a19.add 2) (.int .i64 (wr .i64 (i18 + 1))) (fun H20 =>
  (K (.int .i64 0) H20))))))))))))))))))))))))))))))))))))))))
theorem W86 (m : Amb) (p0 : Option Addr) (x1 : Int) (H : Hp) (K : Value → Hp → Prop) : funcW Tryz.prog m [] Tryz.f86 [.c (.p p0), .c (.i .i64 x1)] H K = t86 m p0 x1 H K := by kernel_rfl
theorem S86 {m : Amb} {p0 : Option Addr} {x1 : Int} {H : Hp} {K : Value → Hp → Prop} (h : t86 m p0 x1 H K) : CallsH Tryz.prog m 86 [.pointer p0, .int .i64 x1] H K :=
  callsH_of_W (args := [.c (.p p0), .c (.i .i64 x1)]) mixed Tryz.func86 ((W86 m p0 x1 H K).mpr h)

/-- (switchyard/gate.Gate).Up -/
def t87 (m : Amb) (p0 : Option Addr) (x1 : Int) (H : Hp) (K : Value → Hp → Prop) : Prop :=
  (cl Tryz.prog m 101 ([.pointer p0, .int .i64 x1]) H (fun w0 H1 =>
  (∃ i2 : Int, (must (
  w0 = .int .i64 i2) (
  (br (i2 == 0) (
  (nn p0 (fun a3 =>
  (ixA x1 8 (
  (ldB H1 ((a3.add 9).add (x1.toNat * 1)) (fun e4 =>
  (K (.bool !e4) H1)))))))) (
  (K (.bool false) H1))))))))
theorem W87 (m : Amb) (p0 : Option Addr) (x1 : Int) (H : Hp) (K : Value → Hp → Prop) : funcW Tryz.prog m [] Tryz.f87 [.c (.p p0), .c (.i .i64 x1)] H K = t87 m p0 x1 H K := by kernel_rfl
theorem S87 {m : Amb} {p0 : Option Addr} {x1 : Int} {H : Hp} {K : Value → Hp → Prop} (h : t87 m p0 x1 H K) : CallsH Tryz.prog m 87 [.pointer p0, .int .i64 x1] H K :=
  callsH_of_W (args := [.c (.p p0), .c (.i .i64 x1)]) mixed Tryz.func87 ((W87 m p0 x1 H K).mpr h)

/-- switchyard/sram.Same -/
def t88 (m : Amb) (p0 : Option Addr) (p1 : Option Addr) (H : Hp) (K : Value → Hp → Prop) : Prop :=
  (br p0.isNone (
  (ptrEq p0 p1 (fun e0 =>
  (K (.bool e0) H)))) (
  (br p1.isNone (
  (ptrEq p0 p1 (fun e1 =>
  (K (.bool e1) H)))) (
  (nn p0 (fun a2 =>
  (ldS H (a2.add 0) (fun r3 l4 l5 =>
  (nn p1 (fun a6 =>
  (ldS H (a6.add 0) (fun r7 l8 l9 =>
  (cl Tryz.prog m 95 ([.slice r3 l4 l5, .slice r7 l8 l9]) H (fun w10 H11 =>
  (∃ e12 : Bool, (must (
  w10 = .bool e12) (
  (K (.bool e12) H11))))))))))))))))))
theorem W88 (m : Amb) (p0 : Option Addr) (p1 : Option Addr) (H : Hp) (K : Value → Hp → Prop) : funcW Tryz.prog m [] Tryz.f88 [.c (.p p0), .c (.p p1)] H K = t88 m p0 p1 H K := by kernel_rfl
theorem S88 {m : Amb} {p0 : Option Addr} {p1 : Option Addr} {H : Hp} {K : Value → Hp → Prop} (h : t88 m p0 p1 H K) : CallsH Tryz.prog m 88 [.pointer p0, .pointer p1] H K :=
  callsH_of_W (args := [.c (.p p0), .c (.p p1)]) mixed Tryz.func88 ((W88 m p0 p1 H K).mpr h)

/-- slices.EqualFunc[[]switchyard/sbuf.Buffer,[]switchyard/sbuf.Buffer,switchyard/sbuf.Buffer,switchyard/sbuf.Buffer] -/
def t89 (m : Amb) (q0 : Option Addr) (n0 : Nat) (c0 : Nat) (q1 : Option Addr) (n1 : Nat) (c1 : Nat) (v2 : Value) (H : Hp) (K : Value → Hp → Prop) : Prop :=
  (br ((n0 : Int) != (n1 : Int)) (
  (K (.bool false) H)) (
  (∃ I0 : Int → Hp → Prop, (∃ I1 : Int → Hp → Nat, ((I0 0 H) ∧
  (∀ i2 : Int, (∀ H3 : Hp, (∀ l4 : Nat, (∀ j5 : Nat → Value, (((I0 i2 H3)) → 
  ((I1 i2 H3 = l4) → 
  (br (decide (i2 < (n0 : Int))) (
  (ixS q0 i2 n0 (fun a6 =>
  (ldP H3 (a6.add (i2.toNat * 1)) (fun r7 =>
  (ixS q1 i2 n1 (fun a8 =>
  (ldP H3 (a8.add (i2.toNat * 1)) (fun r9 =>
  (clV Tryz.prog m v2 ([.pointer r7, .pointer r9]) H3 (fun w10 H11 =>
  (∃ e12 : Bool, (must (
  w10 = .bool e12) (
  (br (!e12) (
  (K (.bool false) H11)) (
  ((I0 (wr .i64 (i2 + 1)) H11) ∧
  ((I1 (wr .i64 (i2 + 1)) H11).succ.le l4)))))))))))))))))) (
  (K (.bool true) H3))))))))))))))
theorem W89 (m : Amb) (q0 : Option Addr) (n0 : Nat) (c0 : Nat) (q1 : Option Addr) (n1 : Nat) (c1 : Nat) (v2 : Value) (H : Hp) (K : Value → Hp → Prop) : funcW Tryz.prog m [⟨true, 5, [(17, (.i .i64))]⟩] Tryz.f89 [.c (.sl q0 n0 c0), .c (.sl q1 n1 c1), .c (.v v2)] H K = t89 m q0 n0 c0 q1 n1 c1 v2 H K := by kernel_rfl
theorem S89 {m : Amb} {q0 : Option Addr} {n0 : Nat} {c0 : Nat} {q1 : Option Addr} {n1 : Nat} {c1 : Nat} {v2 : Value} {H : Hp} {K : Value → Hp → Prop} (h : t89 m q0 n0 c0 q1 n1 c1 v2 H K) : CallsH Tryz.prog m 89 [.slice q0 n0 c0, .slice q1 n1 c1, v2] H K :=
  callsH_of_W (args := [.c (.sl q0 n0 c0), .c (.sl q1 n1 c1), .c (.v v2)]) mixed Tryz.func89 ((W89 m q0 n0 c0 q1 n1 c1 v2 H K).mpr h)

/-- switchyard/bus.Same$1 -/
def t90 (m : Amb) (p0 : Option Addr) (p1 : Option Addr) (H : Hp) (K : Value → Hp → Prop) : Prop :=
  (cl Tryz.prog m 77 ([.pointer p0]) H (fun w0 H1 =>
  (∃ i2 : Int, (must (
  w0 = .int .i64 i2) (
  (cl Tryz.prog m 77 ([.pointer p1]) H1 (fun w3 H4 =>
  (∃ i5 : Int, (must (
  w3 = .int .i64 i5) (
  (br (i2 == i5) (
  (cl Tryz.prog m 92 ([.pointer p0]) H4 (fun w6 H7 =>
  (∃ r8 : Option Addr, (∃ l9 : Nat, (∃ l10 : Nat, (must (
  w6 = .slice r8 l9 l10) (
  (cl Tryz.prog m 92 ([.pointer p1]) H7 (fun w11 H12 =>
  (∃ r13 : Option Addr, (∃ l14 : Nat, (∃ l15 : Nat, (must (
  w11 = .slice r13 l14 l15) (
  (cl Tryz.prog m 91 ([.slice r8 l9 l10, .slice r13 l14 l15]) H12 (fun w16 H17 =>
  (∃ e18 : Bool, (must (
  w16 = .bool e18) (
  (K (.bool e18) H17))))))))))))))))))))) (
  (K (.bool false) H4)))))))))))))
theorem W90 (m : Amb) (p0 : Option Addr) (p1 : Option Addr) (H : Hp) (K : Value → Hp → Prop) : funcW Tryz.prog m [] Tryz.f90 [.c (.p p0), .c (.p p1)] H K = t90 m p0 p1 H K := by kernel_rfl
theorem S90 {m : Amb} {p0 : Option Addr} {p1 : Option Addr} {H : Hp} {K : Value → Hp → Prop} (h : t90 m p0 p1 H K) : CallsH Tryz.prog m 90 [.pointer p0, .pointer p1] H K :=
  callsH_of_W (args := [.c (.p p0), .c (.p p1)]) mixed Tryz.func90 ((W90 m p0 p1 H K).mpr h)

/-- switchyard/cell.Same -/
def t91 (m : Amb) (q0 : Option Addr) (n0 : Nat) (c0 : Nat) (q1 : Option Addr) (n1 : Nat) (c1 : Nat) (H : Hp) (K : Value → Hp → Prop) : Prop :=
  (cl Tryz.prog m 121 ([.slice q0 n0 c0, .slice q1 n1 c1]) H (fun w0 H1 =>
  (∃ e2 : Bool, (must (
  w0 = .bool e2) (
  (K (.bool e2) H1))))))
theorem W91 (m : Amb) (q0 : Option Addr) (n0 : Nat) (c0 : Nat) (q1 : Option Addr) (n1 : Nat) (c1 : Nat) (H : Hp) (K : Value → Hp → Prop) : funcW Tryz.prog m [] Tryz.f91 [.c (.sl q0 n0 c0), .c (.sl q1 n1 c1)] H K = t91 m q0 n0 c0 q1 n1 c1 H K := by kernel_rfl
theorem S91 {m : Amb} {q0 : Option Addr} {n0 : Nat} {c0 : Nat} {q1 : Option Addr} {n1 : Nat} {c1 : Nat} {H : Hp} {K : Value → Hp → Prop} (h : t91 m q0 n0 c0 q1 n1 c1 H K) : CallsH Tryz.prog m 91 [.slice q0 n0 c0, .slice q1 n1 c1] H K :=
  callsH_of_W (args := [.c (.sl q0 n0 c0), .c (.sl q1 n1 c1)]) mixed Tryz.func91 ((W91 m q0 n0 c0 q1 n1 c1 H K).mpr h)

/-- (switchyard/sbuf.Buffer).All -/
def t92 (m : Amb) (p0 : Option Addr) (H : Hp) (K : Value → Hp → Prop) : Prop :=
  (br p0.isNone (
  (K (.slice none 0 0) H)) (
  (nn p0 (fun a0 =>
  (ldS H (a0.add 1) (fun r1 l2 l3 =>
  (cl Tryz.prog m 122 ([.slice r1 l2 l3]) H (fun w4 H5 =>
  (∃ r6 : Option Addr, (∃ l7 : Nat, (∃ l8 : Nat, (must (
  w4 = .slice r6 l7 l8) (
  (K (.slice r6 l7 l8) H5))))))))))))))
theorem W92 (m : Amb) (p0 : Option Addr) (H : Hp) (K : Value → Hp → Prop) : funcW Tryz.prog m [] Tryz.f92 [.c (.p p0)] H K = t92 m p0 H K := by kernel_rfl
theorem S92 {m : Amb} {p0 : Option Addr} {H : Hp} {K : Value → Hp → Prop} (h : t92 m p0 H K) : CallsH Tryz.prog m 92 [.pointer p0] H K :=
  callsH_of_W (args := [.c (.p p0)]) mixed Tryz.func92 ((W92 m p0 H K).mpr h)

/-- slices.EqualFunc[[]switchyard/mbox.one,[]switchyard/mbox.one,switchyard/mbox.one,switchyard/mbox.one] -/
def t93 (m : Amb) (q0 : Option Addr) (n0 : Nat) (c0 : Nat) (q1 : Option Addr) (n1 : Nat) (c1 : Nat) (v2 : Value) (H : Hp) (K : Value → Hp → Prop) : Prop :=
  (br ((n0 : Int) != (n1 : Int)) (
  (K (.bool false) H)) (
  (∃ I0 : Int → Hp → Prop, (∃ I1 : Int → Hp → Nat, ((I0 0 H) ∧
  (∀ i2 : Int, (∀ H3 : Hp, (∀ l4 : Nat, (∀ j5 : Nat → Value, (((I0 i2 H3)) → 
  ((I1 i2 H3 = l4) → 
  (br (decide (i2 < (n0 : Int))) (
  (ixS q0 i2 n0 (fun a6 =>
  (ldI .i64 H3 ((a6.add (i2.toNat * 2)).add 0) (fun i7 =>
  (ldP H3 ((a6.add (i2.toNat * 2)).add 1) (fun r8 =>
  (nw H3 (zc Tryz.prog 105) 105 (fun a9 H10 =>
  (st H10 (a9.add 0) (.int .i64 i7) (fun H11 =>
  (st H11 (a9.add 1) (.pointer r8) (fun H12 =>
  (ixS q1 i2 n1 (fun a13 =>
  (ldI .i64 H12 ((a13.add (i2.toNat * 2)).add 0) (fun i14 =>
  (ldP H12 ((a13.add (i2.toNat * 2)).add 1) (fun r15 =>
  (nw H12 (zc Tryz.prog 105) 105 (fun a16 H17 =>
  (st H17 (a16.add 0) (.int .i64 i14) (fun H18 =>
  (st H18 (a16.add 1) (.pointer r15) (fun H19 =>
  (ldI .i64 H19 (a9.add 0) (fun i20 =>
  (ldP H19 (a9.add 1) (fun r21 =>
  (ldI .i64 H19 (a16.add 0) (fun i22 =>
  (ldP H19 (a16.add 1) (fun r23 =>
  (clV Tryz.prog m v2 ([.agg #[.int .i64 i20, .pointer r21], .agg #[.int .i64 i22, .pointer r23]]) H19 (fun w24 H25 =>
  (∃ e26 : Bool, (must (
  w24 = .bool e26) (
  (br (!e26) (
  (K (.bool false) H25)) (
  ((I0 (wr .i64 (i2 + 1)) H25) ∧
  ((I1 (wr .i64 (i2 + 1)) H25).succ.le l4)))))))))))))))))))))))))))))))))))))))))) (
  (K (.bool true) H3))))))))))))))
theorem W93 (m : Amb) (q0 : Option Addr) (n0 : Nat) (c0 : Nat) (q1 : Option Addr) (n1 : Nat) (c1 : Nat) (v2 : Value) (H : Hp) (K : Value → Hp → Prop) : funcW Tryz.prog m [⟨true, 5, [(17, (.i .i64))]⟩] Tryz.f93 [.c (.sl q0 n0 c0), .c (.sl q1 n1 c1), .c (.v v2)] H K = t93 m q0 n0 c0 q1 n1 c1 v2 H K := by kernel_rfl
theorem S93 {m : Amb} {q0 : Option Addr} {n0 : Nat} {c0 : Nat} {q1 : Option Addr} {n1 : Nat} {c1 : Nat} {v2 : Value} {H : Hp} {K : Value → Hp → Prop} (h : t93 m q0 n0 c0 q1 n1 c1 v2 H K) : CallsH Tryz.prog m 93 [.slice q0 n0 c0, .slice q1 n1 c1, v2] H K :=
  callsH_of_W (args := [.c (.sl q0 n0 c0), .c (.sl q1 n1 c1), .c (.v v2)]) mixed Tryz.func93 ((W93 m q0 n0 c0 q1 n1 c1 v2 H K).mpr h)

/-- switchyard/mbox.Same$1 -/
def t94 (m : Amb) (x0 : Int) (p1 : Option Addr) (x2 : Int) (p3 : Option Addr) (H : Hp) (K : Value → Hp → Prop) : Prop :=
  (nw H ([.int .i64 x0, .pointer p1]) 105 (fun a0 H1 =>
  (nw H1 ([.int .i64 x2, .pointer p3]) 105 (fun a2 H3 =>
  (ldI .i64 H3 (a0.add 0) (fun i4 =>
  (ldI .i64 H3 (a2.add 0) (fun i5 =>
  (br (i4 == i5) (
  (ldP H3 (a0.add 1) (fun r6 =>
  (ldP H3 (a2.add 1) (fun r7 =>
  (cl Tryz.prog m 96 ([.pointer r6]) H3 (fun w8 H9 =>
  (∃ r10 : Option Addr, (∃ l11 : Nat, (∃ l12 : Nat, (must (
  w8 = .slice r10 l11 l12) (
  (must (
  (cont H9 (a2.add 1) (.pointer r7))) (
  (cl Tryz.prog m 96 ([.pointer r7]) H9 (fun w13 H14 =>
  (∃ r15 : Option Addr, (∃ l16 : Nat, (∃ l17 : Nat, (must (
  w13 = .slice r15 l16 l17) (
  (cl Tryz.prog m 95 ([.slice r10 l11 l12, .slice r15 l16 l17]) H14 (fun w18 H19 =>
  (∃ e20 : Bool, (must (
  w18 = .bool e20) (
  (K (.bool e20) H19))))))))))))))))))))))))))) (
  (K (.bool false) H3)))))))))))
theorem W94 (m : Amb) (x0 : Int) (p1 : Option Addr) (x2 : Int) (p3 : Option Addr) (H : Hp) (K : Value → Hp → Prop) : funcW Tryz.prog m [] Tryz.f94 [.g [.i .i64 x0, .p p1], .g [.i .i64 x2, .p p3]] H K = t94 m x0 p1 x2 p3 H K := by kernel_rfl
theorem S94 {m : Amb} {x0 : Int} {p1 : Option Addr} {x2 : Int} {p3 : Option Addr} {H : Hp} {K : Value → Hp → Prop} (h : t94 m x0 p1 x2 p3 H K) : CallsH Tryz.prog m 94 [.agg #[.int .i64 x0, .pointer p1], .agg #[.int .i64 x2, .pointer p3]] H K :=
  callsH_of_W (args := [.g [.i .i64 x0, .p p1], .g [.i .i64 x2, .p p3]]) mixed Tryz.func94 ((W94 m x0 p1 x2 p3 H K).mpr h)

/-- slices.Equal[[]int,int] -/
def t95 (m : Amb) (q0 : Option Addr) (n0 : Nat) (c0 : Nat) (q1 : Option Addr) (n1 : Nat) (c1 : Nat) (H : Hp) (K : Value → Hp → Prop) : Prop :=
  (br ((n0 : Int) != (n1 : Int)) (
  (K (.bool false) H)) (
  (∃ I0 : Int → Hp → Prop, (∃ I1 : Int → Hp → Nat, ((I0 0 H) ∧
  (∀ i2 : Int, (∀ H3 : Hp, (∀ l4 : Nat, (∀ j5 : Nat → Value, (((I0 i2 H3)) → 
  ((I1 i2 H3 = l4) → 
  (br (decide (i2 < (n0 : Int))) (
  (ixS q0 i2 n0 (fun a6 =>
  (ldI .i64 H3 (a6.add (i2.toNat * 1)) (fun i7 =>
  (ixS q1 i2 n1 (fun a8 =>
  (ldI .i64 H3 (a8.add (i2.toNat * 1)) (fun i9 =>
  (br (i7 != i9) (
  (K (.bool false) H3)) (
  ((I0 (wr .i64 (i2 + 1)) H3) ∧
  ((I1 (wr .i64 (i2 + 1)) H3).succ.le l4))))))))))))) (
  (K (.bool true) H3))))))))))))))
theorem W95 (m : Amb) (q0 : Option Addr) (n0 : Nat) (c0 : Nat) (q1 : Option Addr) (n1 : Nat) (c1 : Nat) (H : Hp) (K : Value → Hp → Prop) : funcW Tryz.prog m [⟨true, 5, [(13, (.i .i64))]⟩] Tryz.f95 [.c (.sl q0 n0 c0), .c (.sl q1 n1 c1)] H K = t95 m q0 n0 c0 q1 n1 c1 H K := by kernel_rfl
theorem S95 {m : Amb} {q0 : Option Addr} {n0 : Nat} {c0 : Nat} {q1 : Option Addr} {n1 : Nat} {c1 : Nat} {H : Hp} {K : Value → Hp → Prop} (h : t95 m q0 n0 c0 q1 n1 c1 H K) : CallsH Tryz.prog m 95 [.slice q0 n0 c0, .slice q1 n1 c1] H K :=
  callsH_of_W (args := [.c (.sl q0 n0 c0), .c (.sl q1 n1 c1)]) mixed Tryz.func95 ((W95 m q0 n0 c0 q1 n1 c1 H K).mpr h)

/-- (switchyard/lane.Lane).All -/
def t96 (m : Amb) (p0 : Option Addr) (H : Hp) (K : Value → Hp → Prop) : Prop :=
  (cl Tryz.prog m 117 ([.pointer p0]) H (fun w0 H1 =>
  (∃ i2 : Int, (must (
  w0 = .int .i64 i2) (
  (∃ I3 : Option Addr → Nat → Nat → Int → Hp → Prop, (∃ I4 : Option Addr → Nat → Nat → Int → Hp → Nat, ((I3 none 0 0 0 H1) ∧
  (∀ r5 : Option Addr, (∀ l6 : Nat, (∀ l7 : Nat, (∀ i8 : Int, (∀ H9 : Hp, (∀ l10 : Nat, (∀ j11 : Nat → Value, (((I3 r5 l6 l7 i8 H9)) → 
  ((I4 r5 l6 l7 i8 H9 = l10) → 
  (br (decide (i8 < i2)) (
  (nn p0 (fun a12 =>
  (ldS H9 (a12.add 0) (fun r13 l14 l15 =>
  (cl Tryz.prog m 120 ([.pointer p0, .int .i64 i8]) H9 (fun w16 H17 =>
  (∃ i18 : Int, (must (
  w16 = .int .i64 i18) (
  (must (
  (cont H17 (a12.add 0) (.slice r13 l14 l15))) (
  (ixS r13 i18 l14 (fun a19 =>
  (ldI .i64 H17 (a19.add (i18.toNat * 1)) (fun i20 =>
  (nw H17 ([.int .i64 i20]) 3 (fun a21 H22 =>
  (rd H22 (some a21) 1 (fun cs23 =>
  (ap Tryz.prog 3 1 8 H22 r5 l6 l7 cs23 1 (fun r24 l25 l26 H27 =>
  ((I3 r24 l25 l26 (wr .i64 (i8 + 1)) H27) ∧
  ((I4 r24 l25 l26 (wr .i64 (i8 + 1)) H27).succ.le l10)))))))))))))))))))))))) (
  (K (.slice r5 l6 l7) H9))))))))))))))))))))
theorem W96 (m : Amb) (p0 : Option Addr) (H : Hp) (K : Value → Hp → Prop) : funcW Tryz.prog m [⟨true, 4, [(3, .sl), (7, (.i .i64))]⟩] Tryz.f96 [.c (.p p0)] H K = t96 m p0 H K := by kernel_rfl
theorem S96 {m : Amb} {p0 : Option Addr} {H : Hp} {K : Value → Hp → Prop} (h : t96 m p0 H K) : CallsH Tryz.prog m 96 [.pointer p0] H K :=
  callsH_of_W (args := [.c (.p p0)]) mixed Tryz.func96 ((W96 m p0 H K).mpr h)

/-- slices.Clone[[]int,int] -/
def t97 (m : Amb) (q0 : Option Addr) (n0 : Nat) (c0 : Nat) (H : Hp) (K : Value → Hp → Prop) : Prop :=
  (br q0.isNone (
  (K (.slice none 0 0) H)) (
  (nw H ([]) 3 (fun a0 H1 =>
  (rd H1 q0 (n0 * 1) (fun cs2 =>
  (ap Tryz.prog 3 1 8 H1 (some a0) 0 0 cs2 n0 (fun r3 l4 l5 H6 =>
  (K (.slice r3 l4 l5) H6)))))))))
theorem W97 (m : Amb) (q0 : Option Addr) (n0 : Nat) (c0 : Nat) (H : Hp) (K : Value → Hp → Prop) : funcW Tryz.prog m [] Tryz.f97 [.c (.sl q0 n0 c0)] H K = t97 m q0 n0 c0 H K := by kernel_rfl
theorem S97 {m : Amb} {q0 : Option Addr} {n0 : Nat} {c0 : Nat} {H : Hp} {K : Value → Hp → Prop} (h : t97 m q0 n0 c0 H K) : CallsH Tryz.prog m 97 [.slice q0 n0 c0] H K :=
  callsH_of_W (args := [.c (.sl q0 n0 c0)]) mixed Tryz.func97 ((W97 m q0 n0 c0 H K).mpr h)

/-- (switchyard/bus.Bus).Drain$1 -/
def t98 (m : Amb) (p0 : Option Addr) (z1 : Addr) (z2 : Addr) (H : Hp) (K : Value → Hp → Prop) : Prop :=
  (ldP H z1 (fun r0 =>
  (cl Tryz.prog m 78 ([.pointer r0, .pointer p0]) H (fun w1 H2 =>
  (∃ e3 : Bool, (must (
  w1 = .bool e3) (
  (st H2 z2 (.bool e3) (fun H4 =>
  (K (.int .i64 0) H4))))))))))
theorem W98 (m : Amb) (p0 : Option Addr) (z1 : Addr) (z2 : Addr) (H : Hp) (K : Value → Hp → Prop) : funcW Tryz.prog m [] Tryz.f98 [.c (.p p0), .c (.a z1), .c (.a z2)] H K = t98 m p0 z1 z2 H K := by kernel_rfl
theorem S98 {m : Amb} {p0 : Option Addr} {z1 : Addr} {z2 : Addr} {H : Hp} {K : Value → Hp → Prop} (h : t98 m p0 z1 z2 H K) : CallsH Tryz.prog m 98 [.pointer p0, .pointer (some z1), .pointer (some z2)] H K :=
  callsH_of_W (args := [.c (.p p0), .c (.a z1), .c (.a z2)]) mixed Tryz.func98 ((W98 m p0 z1 z2 H K).mpr h)

/-- (switchyard/bus.Bus).Swap$1 -/
def t99 (m : Amb) (p0 : Option Addr) (z1 : Addr) (z2 : Addr) (z3 : Addr) (z4 : Addr) (H : Hp) (K : Value → Hp → Prop) : Prop :=
  (ldP H z1 (fun r0 =>
  (ldI .i64 H z2 (fun i1 =>
  (ldI .i64 H z3 (fun i2 =>
  (cl Tryz.prog m 75 ([.pointer r0, .int .i64 i1, .int .i64 i2]) H (fun w3 H4 =>
  (∃ i5 : Int, (must (
  w3 = .int .i64 i5) (
  (br (i5 != 0) (
  (K (.int .i64 i5) H4)) (
  (ldP H4 z1 (fun r6 =>
  (cl Tryz.prog m 68 ([.pointer r6, .pointer p0]) H4 (fun w7 H8 =>
  (∃ i9 : Int, (must (
  w7 = .int .i64 i9) (
  (ldP H8 z1 (fun r10 =>
  (nn r10 (fun a11 =>
  (ldP H8 (a11.add 0) (fun r12 =>
  (ldI .i64 H8 z2 (fun i13 =>
  (cl Tryz.prog m 65 ([.pointer r12, .int .i64 i13]) H8 (fun w14 H15 =>
  (∃ i16 : Int, (∃ i17 : Int, (must (
  w14 = .tuple #[.int .i64 i16, .int .i64 i17]) (
  (st H15 z4 (.int .i64 i16) (fun H18 =>
  (ldP H18 z1 (fun r19 =>
  (nn r19 (fun a20 =>
  (ldP H18 (a20.add 0) (fun r21 =>
  (ldI .i64 H18 z2 (fun i22 =>
  (ldI .i64 H18 z3 (fun i23 =>
  (cl Tryz.prog m 100 ([.pointer r21, .int .i64 i22, .int .i64 i23]) H18 (fun w24 H25 =>
  (∃ i26 : Int, (must (
  w24 = .int .i64 i26) (
  (K (.int .i64 i26) H25))))))))))))))))))))))))))))))))))))))))))))))))))))
theorem W99 (m : Amb) (p0 : Option Addr) (z1 : Addr) (z2 : Addr) (z3 : Addr) (z4 : Addr) (H : Hp) (K : Value → Hp → Prop) : funcW Tryz.prog m [] Tryz.f99 [.c (.p p0), .c (.a z1), .c (.a z2), .c (.a z3), .c (.a z4)] H K = t99 m p0 z1 z2 z3 z4 H K := by kernel_rfl
theorem S99 {m : Amb} {p0 : Option Addr} {z1 : Addr} {z2 : Addr} {z3 : Addr} {z4 : Addr} {H : Hp} {K : Value → Hp → Prop} (h : t99 m p0 z1 z2 z3 z4 H K) : CallsH Tryz.prog m 99 [.pointer p0, .pointer (some z1), .pointer (some z2), .pointer (some z3), .pointer (some z4)] H K :=
  callsH_of_W (args := [.c (.p p0), .c (.a z1), .c (.a z2), .c (.a z3), .c (.a z4)]) mixed Tryz.func99 ((W99 m p0 z1 z2 z3 z4 H K).mpr h)

/-- (switchyard/sram.Ram).Store -/
def t100 (m : Amb) (p0 : Option Addr) (x1 : Int) (x2 : Int) (H : Hp) (K : Value → Hp → Prop) : Prop :=
  (cl Tryz.prog m 123 ([.pointer p0, .int .i64 x1, .int .i64 1, .int .i64 x2]) H (fun w0 H1 =>
  (∃ i2 : Int, (must (
  w0 = .int .i64 i2) (
  (K (.int .i64 i2) H1))))))
theorem W100 (m : Amb) (p0 : Option Addr) (x1 : Int) (x2 : Int) (H : Hp) (K : Value → Hp → Prop) : funcW Tryz.prog m [] Tryz.f100 [.c (.p p0), .c (.i .i64 x1), .c (.i .i64 x2)] H K = t100 m p0 x1 x2 H K := by kernel_rfl
theorem S100 {m : Amb} {p0 : Option Addr} {x1 : Int} {x2 : Int} {H : Hp} {K : Value → Hp → Prop} (h : t100 m p0 x1 x2 H K) : CallsH Tryz.prog m 100 [.pointer p0, .int .i64 x1, .int .i64 x2] H K :=
  callsH_of_W (args := [.c (.p p0), .c (.i .i64 x1), .c (.i .i64 x2)]) mixed Tryz.func100 ((W100 m p0 x1 x2 H K).mpr h)

/-- (switchyard/gate.Gate).wrong -/
def t101 (m : Amb) (p0 : Option Addr) (x1 : Int) (H : Hp) (K : Value → Hp → Prop) : Prop :=
  (br p0.isNone (
  (K (.int .i64 1) H)) (
  (br (decide (x1 < 0)) (
  (K (.int .i64 3) H)) (
  (nn p0 (fun a0 =>
  (ldI .i64 H (a0.add 0) (fun i1 =>
  (br (decide (x1 ≥ i1)) (
  (K (.int .i64 3) H)) (
  (K (.int .i64 0) H)))))))))))
theorem W101 (m : Amb) (p0 : Option Addr) (x1 : Int) (H : Hp) (K : Value → Hp → Prop) : funcW Tryz.prog m [] Tryz.f101 [.c (.p p0), .c (.i .i64 x1)] H K = t101 m p0 x1 H K := by kernel_rfl
theorem S101 {m : Amb} {p0 : Option Addr} {x1 : Int} {H : Hp} {K : Value → Hp → Prop} (h : t101 m p0 x1 H K) : CallsH Tryz.prog m 101 [.pointer p0, .int .i64 x1] H K :=
  callsH_of_W (args := [.c (.p p0), .c (.i .i64 x1)]) mixed Tryz.func101 ((W101 m p0 x1 H K).mpr h)

/-- (switchyard/bus.Bus).Lose$1 -/
def t102 (m : Amb) (p0 : Option Addr) (z1 : Addr) (H : Hp) (K : Value → Hp → Prop) : Prop :=
  (cl Tryz.prog m 103 ([.pointer p0]) H (fun w0 H1 =>
  (∃ i2 : Int, (must (
  w0 = .int .i64 i2) (
  (st H1 z1 (.int .i64 i2) (fun H3 =>
  (K (.int .i64 0) H3))))))))
theorem W102 (m : Amb) (p0 : Option Addr) (z1 : Addr) (H : Hp) (K : Value → Hp → Prop) : funcW Tryz.prog m [] Tryz.f102 [.c (.p p0), .c (.a z1)] H K = t102 m p0 z1 H K := by kernel_rfl
theorem S102 {m : Amb} {p0 : Option Addr} {z1 : Addr} {H : Hp} {K : Value → Hp → Prop} (h : t102 m p0 z1 H K) : CallsH Tryz.prog m 102 [.pointer p0, .pointer (some z1)] H K :=
  callsH_of_W (args := [.c (.p p0), .c (.a z1)]) mixed Tryz.func102 ((W102 m p0 z1 H K).mpr h)

/-- (switchyard/sbuf.Buffer).Clear -/
def t103 (m : Amb) (p0 : Option Addr) (H : Hp) (K : Value → Hp → Prop) : Prop :=
  (cl Tryz.prog m 76 ([.pointer p0]) H (fun w0 H1 =>
  (∃ i2 : Int, (must (
  w0 = .int .i64 i2) (
  (br (decide (i2 > 0)) (
  (nn p0 (fun a3 =>
  (st H1 (a3.add 1) (.slice none 0 0) (fun H4 =>
  (K (.int .i64 i2) H4)))))) (
  (K (.int .i64 i2) H1))))))))
theorem W103 (m : Amb) (p0 : Option Addr) (H : Hp) (K : Value → Hp → Prop) : funcW Tryz.prog m [] Tryz.f103 [.c (.p p0)] H K = t103 m p0 H K := by kernel_rfl
theorem S103 {m : Amb} {p0 : Option Addr} {H : Hp} {K : Value → Hp → Prop} (h : t103 m p0 H K) : CallsH Tryz.prog m 103 [.pointer p0] H K :=
  callsH_of_W (args := [.c (.p p0)]) mixed Tryz.func103 ((W103 m p0 H K).mpr h)

/-- (switchyard/mbox.Box).Reset$1 -/
def t104 (m : Amb) (p0 : Option Addr) (z1 : Addr) (H : Hp) (K : Value → Hp → Prop) : Prop :=
  (nn p0 (fun a0 =>
  (st H (a0.add 0) (.int .i64 0) (fun H1 =>
  (nn p0 (fun a2 =>
  (ldP H1 (a2.add 1) (fun r3 =>
  (cl Tryz.prog m 105 ([.pointer r3]) H1 (fun w4 H5 =>
  (∃ i6 : Int, (must (
  w4 = .int .i64 i6) (
  (st H5 z1 (.int .i64 i6) (fun H7 =>
  (K (.int .i64 0) H7))))))))))))))))
theorem W104 (m : Amb) (p0 : Option Addr) (z1 : Addr) (H : Hp) (K : Value → Hp → Prop) : funcW Tryz.prog m [] Tryz.f104 [.c (.p p0), .c (.a z1)] H K = t104 m p0 z1 H K := by kernel_rfl
theorem S104 {m : Amb} {p0 : Option Addr} {z1 : Addr} {H : Hp} {K : Value → Hp → Prop} (h : t104 m p0 z1 H K) : CallsH Tryz.prog m 104 [.pointer p0, .pointer (some z1)] H K :=
  callsH_of_W (args := [.c (.p p0), .c (.a z1)]) mixed Tryz.func104 ((W104 m p0 z1 H K).mpr h)

/-- (switchyard/lane.Lane).Clear -/
def t105 (m : Amb) (p0 : Option Addr) (H : Hp) (K : Value → Hp → Prop) : Prop :=
  (cl Tryz.prog m 117 ([.pointer p0]) H (fun w0 H1 =>
  (∃ i2 : Int, (must (
  w0 = .int .i64 i2) (
  (br (decide (i2 > 0)) (
  (nn p0 (fun a3 =>
  (st H1 (a3.add 2) (.int .i64 0) (fun H4 =>
  (K (.int .i64 i2) H4)))))) (
  (K (.int .i64 i2) H1))))))))
theorem W105 (m : Amb) (p0 : Option Addr) (H : Hp) (K : Value → Hp → Prop) : funcW Tryz.prog m [] Tryz.f105 [.c (.p p0)] H K = t105 m p0 H K := by kernel_rfl
theorem S105 {m : Amb} {p0 : Option Addr} {H : Hp} {K : Value → Hp → Prop} (h : t105 m p0 H K) : CallsH Tryz.prog m 105 [.pointer p0] H K :=
  callsH_of_W (args := [.c (.p p0)]) mixed Tryz.func105 ((W105 m p0 H K).mpr h)

/-- (switchyard/locks.Bank).core -/
def t106 (m : Amb) (p0 : Option Addr) (x1 : Int) (H : Hp) (K : Value → Hp → Prop) : Prop :=
  (br p0.isNone (
  (K (.int .i64 1) H)) (
  (br (decide (x1 < 0)) (
  (K (.int .i64 3) H)) (
  (nn p0 (fun a0 =>
  (ldI .i64 H (a0.add 0) (fun i1 =>
  (br (decide (x1 ≥ i1)) (
  (K (.int .i64 3) H)) (
  (K (.int .i64 0) H)))))))))))
theorem W106 (m : Amb) (p0 : Option Addr) (x1 : Int) (H : Hp) (K : Value → Hp → Prop) : funcW Tryz.prog m [] Tryz.f106 [.c (.p p0), .c (.i .i64 x1)] H K = t106 m p0 x1 H K := by kernel_rfl
theorem S106 {m : Amb} {p0 : Option Addr} {x1 : Int} {H : Hp} {K : Value → Hp → Prop} (h : t106 m p0 x1 H K) : CallsH Tryz.prog m 106 [.pointer p0, .int .i64 x1] H K :=
  callsH_of_W (args := [.c (.p p0), .c (.i .i64 x1)]) mixed Tryz.func106 ((W106 m p0 x1 H K).mpr h)

/-- (switchyard/locks.Bank).Held -/
def t107 (m : Amb) (p0 : Option Addr) (x1 : Int) (H : Hp) (K : Value → Hp → Prop) : Prop :=
  (cl Tryz.prog m 106 ([.pointer p0, .int .i64 x1]) H (fun w0 H1 =>
  (∃ i2 : Int, (must (
  w0 = .int .i64 i2) (
  (br (i2 != 0) (
  (K (.slice none 0 0) H1)) (
  (nn p0 (fun a3 =>
  (ldI .i64 H1 ((a3.add 2).add 0) (fun i4 =>
  (ldI .i64 H1 ((a3.add 2).add 1) (fun i5 =>
  (ldI .i64 H1 ((a3.add 2).add 2) (fun i6 =>
  (ldI .i64 H1 ((a3.add 2).add 3) (fun i7 =>
  (ldI .i64 H1 ((a3.add 2).add 4) (fun i8 =>
  (ldI .i64 H1 ((a3.add 2).add 5) (fun i9 =>
  (ldI .i64 H1 ((a3.add 2).add 6) (fun i10 =>
  (ldI .i64 H1 ((a3.add 2).add 7) (fun i11 =>
  (ldI .i64 H1 ((a3.add 2).add 8) (fun i12 =>
  (ldI .i64 H1 ((a3.add 2).add 9) (fun i13 =>
  (ldI .i64 H1 ((a3.add 2).add 10) (fun i14 =>
  (ldI .i64 H1 ((a3.add 2).add 11) (fun i15 =>
  (ldI .i64 H1 ((a3.add 2).add 12) (fun i16 =>
  (ldI .i64 H1 ((a3.add 2).add 13) (fun i17 =>
  (ldI .i64 H1 ((a3.add 2).add 14) (fun i18 =>
  (ldI .i64 H1 ((a3.add 2).add 15) (fun i19 =>
  (∃ I20 : Option Addr → Nat → Nat → Int → Hp → Prop, (∃ I21 : Option Addr → Nat → Nat → Int → Hp → Nat, ((I20 none 0 0 0 H1) ∧
  (∀ r22 : Option Addr, (∀ l23 : Nat, (∀ l24 : Nat, (∀ i25 : Int, (∀ H26 : Hp, (∀ l27 : Nat, (∀ j28 : Nat → Value, (((I20 r22 l23 l24 i25 H26)) → 
  ((I21 r22 l23 l24 i25 H26 = l27) → 
  (br (decide (i25 < 16)) (
  (rawP Tryz.prog (Go.execOp (actV [SV.c (Sc.p p0), SV.c (Sc.i .i64 x1), SV.t [], SV.t [], SV.c (Sc.sl none 0 0), SV.c (Sc.sl r22 l23 l24), SV.c (Sc.v (j28 6)), SV.c (Sc.v (j28 7)), SV.c (Sc.p p0), SV.c (Sc.i .i64 x1), SV.c (Sc.i .i64 i2), SV.c Sc.ff, SV.c (Sc.p p0), SV.c (Sc.a a3), SV.c (Sc.a (a3.add 2)), SV.g [Sc.i .i64 i4, Sc.i .i64 i5, Sc.i .i64 i6, Sc.i .i64 i7, Sc.i .i64 i8, Sc.i .i64 i9, Sc.i .i64 i10, Sc.i .i64 i11, Sc.i .i64 i12, Sc.i .i64 i13, Sc.i .i64 i14, Sc.i .i64 i15, Sc.i .i64 i16, Sc.i .i64 i17, Sc.i .i64 i18, Sc.i .i64 i19], SV.c (Sc.i .i64 i25), SV.c Sc.tt, SV.c (Sc.i .i64 i25), SV.c (Sc.v (j28 19)), SV.c (Sc.v (j28 20)), SV.c (Sc.v (j28 21)), SV.c (Sc.v (j28 22)), SV.c (Sc.v (j28 23)), SV.c (Sc.v (j28 24)), SV.c (Sc.v (j28 25)), SV.c (Sc.v (j28 26)), SV.c (Sc.v (j28 27)), SV.c (Sc.v (j28 28)), SV.t []]) #[{ dst := some 18, op := Go.Op.move (Go.Operand.tmp 16), type := 3, pos := "locks.go:94", after := #[], guard := none }, { dst := some 19, op := Go.Op.index 106 (Go.Operand.tmp 15) (Go.Operand.tmp 16), type := 3, pos := "locks.go:94", after := #[], guard := none }, { dst := some 6, op := Go.Op.assign (Go.Operand.tmp 18), type := 3, pos := "locks.go:94", after := #[{ on := 0, ground := Go.Ground.data }, { on := 0, ground := Go.Ground.phase }, { on := 1, ground := Go.Ground.phase }], guard := none }, { dst := some 7, op := Go.Op.assign (Go.Operand.tmp 19), type := 3, pos := "locks.go:94", after := #[{ on := 1, ground := Go.Ground.data }, { on := 2, ground := Go.Ground.chain }, { on := 0, ground := Go.Ground.phase }, { on := 1, ground := Go.Ground.phase }, { on := 2, ground := Go.Ground.phase }], guard := none }][1]) (fun w29 =>
  (∃ i30 : Int, (must (
  w29 = .int .i64 i30) (
  (br (i30 == wr .i64 (x1 + 1)) (
  (nw H26 ([.int .i64 i25]) 3 (fun a31 H32 =>
  (rd H32 (some a31) 1 (fun cs33 =>
  (ap Tryz.prog 3 1 8 H32 r22 l23 l24 cs33 1 (fun r34 l35 l36 H37 =>
  ((I20 r34 l35 l36 (wr .i64 (i25 + 1)) H37) ∧
  ((I21 r34 l35 l36 (wr .i64 (i25 + 1)) H37).succ.le l27))))))))) (
  ((I20 r22 l23 l24 (wr .i64 (i25 + 1)) H26) ∧
  ((I21 r22 l23 l24 (wr .i64 (i25 + 1)) H26).succ.le l27)))))))))) (
  (K (.slice r22 l23 l24) H26))))))))))))))))))))))))))))))))))))))))))))))))))))))))
theorem W107 (m : Amb) (p0 : Option Addr) (x1 : Int) (H : Hp) (K : Value → Hp → Prop) : funcW Tryz.prog m [⟨true, 6, [(5, .sl), (16, (.i .i64))]⟩] Tryz.f107 [.c (.p p0), .c (.i .i64 x1)] H K = t107 m p0 x1 H K := by kernel_rfl
theorem S107 {m : Amb} {p0 : Option Addr} {x1 : Int} {H : Hp} {K : Value → Hp → Prop} (h : t107 m p0 x1 H K) : CallsH Tryz.prog m 107 [.pointer p0, .int .i64 x1] H K :=
  callsH_of_W (args := [.c (.p p0), .c (.i .i64 x1)]) mixed Tryz.func107 ((W107 m p0 x1 H K).mpr h)

/-- switchyard/wrap.Add -/
def t108 (m : Amb) (x0 : Int) (x1 : Int) (H : Hp) (K : Value → Hp → Prop) : Prop :=
  (cl Tryz.prog m 35 ([.int .i64 x0]) H (fun w0 H1 =>
  (∃ i2 : Int, (must (
  w0 = .int .i64 i2) (
  (cl Tryz.prog m 35 ([.int .i64 x1]) H1 (fun w3 H4 =>
  (∃ i5 : Int, (must (
  w3 = .int .i64 i5) (
  (cl Tryz.prog m 35 ([.int .i64 (wr .i64 (i2 + i5))]) H4 (fun w6 H7 =>
  (∃ i8 : Int, (must (
  w6 = .int .i64 i8) (
  (K (.int .i64 i8) H7))))))))))))))))
theorem W108 (m : Amb) (x0 : Int) (x1 : Int) (H : Hp) (K : Value → Hp → Prop) : funcW Tryz.prog m [] Tryz.f108 [.c (.i .i64 x0), .c (.i .i64 x1)] H K = t108 m x0 x1 H K := by kernel_rfl
theorem S108 {m : Amb} {x0 : Int} {x1 : Int} {H : Hp} {K : Value → Hp → Prop} (h : t108 m x0 x1 H K) : CallsH Tryz.prog m 108 [.int .i64 x0, .int .i64 x1] H K :=
  callsH_of_W (args := [.c (.i .i64 x0), .c (.i .i64 x1)]) mixed Tryz.func108 ((W108 m x0 x1 H K).mpr h)

/-- switchyard/site.guess -/
def t109 (m : Amb) (x0 : Int) (H : Hp) (K : Value → Hp → Prop) : Prop :=
  (nw H (zc Tryz.prog 77) 77 (fun a0 H1 =>
  (br (decide (x0 < 65536)) (
  (st H1 (a0.add 0) (.int .i64 1) (fun H2 =>
  (st H2 (a0.add 1) (.int .i64 0) (fun H3 =>
  (st H3 (a0.add 2) (.int .i64 x0) (fun H4 =>
  (ldI .i64 H4 (a0.add 0) (fun i5 =>
  (ldI .i64 H4 (a0.add 1) (fun i6 =>
  (ldI .i64 H4 (a0.add 2) (fun i7 =>
  (K (.agg #[.int .i64 i5, .int .i64 i6, .int .i64 i7]) H4)))))))))))))) (
  (br (decide (x0 < 65792)) (
  (must (
  (16 : Int) ≠ 0) (
  (must (
  (16 : Int) ≠ 0) (
  (st H1 (a0.add 0) (.int .i64 2) (fun H8 =>
  (st H8 (a0.add 1) (.int .i64 (wr .i64 ((wr .i64 (x0 - 65536)).tdiv 16))) (fun H9 =>
  (st H9 (a0.add 2) (.int .i64 (x0.tmod 16)) (fun H10 =>
  (ldI .i64 H10 (a0.add 0) (fun i11 =>
  (ldI .i64 H10 (a0.add 1) (fun i12 =>
  (ldI .i64 H10 (a0.add 2) (fun i13 =>
  (K (.agg #[.int .i64 i11, .int .i64 i12, .int .i64 i13]) H10)))))))))))))))))) (
  (br (decide (x0 < 66048)) (
  (st H1 (a0.add 0) (.int .i64 3) (fun H14 =>
  (st H14 (a0.add 1) (.int .i64 (wr .i64 (x0 - 65792))) (fun H15 =>
  (st H15 (a0.add 2) (.int .i64 0) (fun H16 =>
  (ldI .i64 H16 (a0.add 0) (fun i17 =>
  (ldI .i64 H16 (a0.add 1) (fun i18 =>
  (ldI .i64 H16 (a0.add 2) (fun i19 =>
  (K (.agg #[.int .i64 i17, .int .i64 i18, .int .i64 i19]) H16)))))))))))))) (
  (st H1 (a0.add 0) (.int .i64 4) (fun H20 =>
  (st H20 (a0.add 1) (.int .i64 (wr .i64 (x0 - 66048))) (fun H21 =>
  (st H21 (a0.add 2) (.int .i64 0) (fun H22 =>
  (ldI .i64 H22 (a0.add 0) (fun i23 =>
  (ldI .i64 H22 (a0.add 1) (fun i24 =>
  (ldI .i64 H22 (a0.add 2) (fun i25 =>
  (K (.agg #[.int .i64 i23, .int .i64 i24, .int .i64 i25]) H22)))))))))))))))))))))
theorem W109 (m : Amb) (x0 : Int) (H : Hp) (K : Value → Hp → Prop) : funcW Tryz.prog m [] Tryz.f109 [.c (.i .i64 x0)] H K = t109 m x0 H K := by kernel_rfl
theorem S109 {m : Amb} {x0 : Int} {H : Hp} {K : Value → Hp → Prop} (h : t109 m x0 H K) : CallsH Tryz.prog m 109 [.int .i64 x0] H K :=
  callsH_of_W (args := [.c (.i .i64 x0)]) mixed Tryz.func109 ((W109 m x0 H K).mpr h)

/-- switchyard/site.Encode -/
def t110 (m : Amb) (x0 : Int) (x1 : Int) (x2 : Int) (x3 : Int) (x4 : Int) (x5 : Int) (H : Hp) (K : Value → Hp → Prop) : Prop :=
  (nw H ([.int .i64 x0, .int .i64 x1, .int .i64 x2]) 23 (fun a0 H1 =>
  (nw H1 ([.int .i64 x3, .int .i64 x4, .int .i64 x5]) 77 (fun a2 H3 =>
  (ldI .i64 H3 (a2.add 0) (fun i4 =>
  (br (i4 == 1) (
  (ldI .i64 H3 (a2.add 1) (fun i5 =>
  (br (i5 == 0) (
  (ldI .i64 H3 (a2.add 2) (fun i6 =>
  (ldI .i64 H3 (a0.add 1) (fun i7 =>
  (ldI .i64 H3 (a2.add 2) (fun i8 =>
  (cl Tryz.prog m 48 ([.int .i64 i6, .int .i64 i7]) H3 (fun w9 H10 =>
  (∃ e11 : Bool, (must (
  w9 = .bool e11) (
  (must (
  (cont H10 (a2.add 2) (.int .i64 i8))) (
  (br (!e11) (
  (K (.tuple #[.int .i64 0, .bool false]) H10)) (
  (ldI .i64 H10 (a0.add 0) (fun i12 =>
  (ldI .i64 H10 (a0.add 1) (fun i13 =>
  (ldI .i64 H10 (a0.add 2) (fun i14 =>
  (cl Tryz.prog m 15 ([.agg #[.int .i64 i12, .int .i64 i13, .int .i64 i14]]) H10 (fun w15 H16 =>
  (∃ e17 : Bool, (must (
  w15 = .bool e17) (
  (br (!e17) (
  (K (.tuple #[.int .i64 0, .bool false]) H16)) (
  (K (.tuple #[.int .i64 i8, .bool true]) H16)))))))))))))))))))))))))))))) (
  (ldI .i64 H3 (a2.add 2) (fun i18 =>
  (K (.tuple #[.int .i64 0, .bool false]) H3)))))))) (
  (br (i4 == 2) (
  (ldI .i64 H3 (a2.add 1) (fun i19 =>
  (ldI .i64 H3 (a0.add 0) (fun i20 =>
  (ldI .i64 H3 (a2.add 1) (fun i21 =>
  (ldI .i64 H3 (a2.add 2) (fun i22 =>
  (cl Tryz.prog m 48 ([.int .i64 i19, .int .i64 i20]) H3 (fun w23 H24 =>
  (∃ e25 : Bool, (must (
  w23 = .bool e25) (
  (must (
  (cont H24 (a2.add 2) (.int .i64 i22))) (
  (must (
  (cont H24 (a2.add 1) (.int .i64 i21))) (
  (br e25 (
  (ldI .i64 H24 (a2.add 2) (fun i26 =>
  (cl Tryz.prog m 48 ([.int .i64 i26, .int .i64 3]) H24 (fun w27 H28 =>
  (∃ e29 : Bool, (must (
  w27 = .bool e29) (
  (must (
  (cont H28 (a2.add 2) (.int .i64 i22))) (
  (must (
  (cont H28 (a2.add 1) (.int .i64 i21))) (
  (br (!e29) (
  (K (.tuple #[.int .i64 0, .bool false]) H28)) (
  (ldI .i64 H28 (a0.add 0) (fun i30 =>
  (ldI .i64 H28 (a0.add 1) (fun i31 =>
  (ldI .i64 H28 (a0.add 2) (fun i32 =>
  (cl Tryz.prog m 15 ([.agg #[.int .i64 i30, .int .i64 i31, .int .i64 i32]]) H28 (fun w33 H34 =>
  (∃ e35 : Bool, (must (
  w33 = .bool e35) (
  (br (!e35) (
  (K (.tuple #[.int .i64 0, .bool false]) H34)) (
  (K (.tuple #[.int .i64 (wr .i64 (wr .i64 (65536 + wr .i64 (16 * i21)) + i22)), .bool true]) H34)))))))))))))))))))))))))))) (
  (K (.tuple #[.int .i64 0, .bool false]) H24))))))))))))))))))))) (
  (br (i4 == 3) (
  (ldI .i64 H3 (a2.add 1) (fun i36 =>
  (ldI .i64 H3 (a0.add 2) (fun i37 =>
  (ldI .i64 H3 (a2.add 1) (fun i38 =>
  (cl Tryz.prog m 48 ([.int .i64 i36, .int .i64 i37]) H3 (fun w39 H40 =>
  (∃ e41 : Bool, (must (
  w39 = .bool e41) (
  (must (
  (cont H40 (a2.add 1) (.int .i64 i38))) (
  (br e41 (
  (ldI .i64 H40 (a2.add 2) (fun i42 =>
  (br (!i42 == 0) (
  (K (.tuple #[.int .i64 0, .bool false]) H40)) (
  (ldI .i64 H40 (a0.add 0) (fun i43 =>
  (ldI .i64 H40 (a0.add 1) (fun i44 =>
  (ldI .i64 H40 (a0.add 2) (fun i45 =>
  (cl Tryz.prog m 15 ([.agg #[.int .i64 i43, .int .i64 i44, .int .i64 i45]]) H40 (fun w46 H47 =>
  (∃ e48 : Bool, (must (
  w46 = .bool e48) (
  (br (!e48) (
  (K (.tuple #[.int .i64 0, .bool false]) H47)) (
  (K (.tuple #[.int .i64 (wr .i64 (65792 + i38)), .bool true]) H47))))))))))))))))))) (
  (K (.tuple #[.int .i64 0, .bool false]) H40))))))))))))))))) (
  (br (i4 == 4) (
  (ldI .i64 H3 (a2.add 1) (fun i49 =>
  (ldI .i64 H3 (a0.add 0) (fun i50 =>
  (ldI .i64 H3 (a2.add 1) (fun i51 =>
  (cl Tryz.prog m 48 ([.int .i64 i49, .int .i64 i50]) H3 (fun w52 H53 =>
  (∃ e54 : Bool, (must (
  w52 = .bool e54) (
  (must (
  (cont H53 (a2.add 1) (.int .i64 i51))) (
  (br e54 (
  (ldI .i64 H53 (a2.add 2) (fun i55 =>
  (br (!i55 == 0) (
  (K (.tuple #[.int .i64 0, .bool false]) H53)) (
  (ldI .i64 H53 (a0.add 0) (fun i56 =>
  (ldI .i64 H53 (a0.add 1) (fun i57 =>
  (ldI .i64 H53 (a0.add 2) (fun i58 =>
  (cl Tryz.prog m 15 ([.agg #[.int .i64 i56, .int .i64 i57, .int .i64 i58]]) H53 (fun w59 H60 =>
  (∃ e61 : Bool, (must (
  w59 = .bool e61) (
  (br (!e61) (
  (K (.tuple #[.int .i64 0, .bool false]) H60)) (
  (K (.tuple #[.int .i64 (wr .i64 (66048 + i51)), .bool true]) H60))))))))))))))))))) (
  (K (.tuple #[.int .i64 0, .bool false]) H53))))))))))))))))) (
  (K (.tuple #[.int .i64 0, .bool false]) H3)))))))))))))))
theorem W110 (m : Amb) (x0 : Int) (x1 : Int) (x2 : Int) (x3 : Int) (x4 : Int) (x5 : Int) (H : Hp) (K : Value → Hp → Prop) : funcW Tryz.prog m [] Tryz.f110 [.g [.i .i64 x0, .i .i64 x1, .i .i64 x2], .g [.i .i64 x3, .i .i64 x4, .i .i64 x5]] H K = t110 m x0 x1 x2 x3 x4 x5 H K := by kernel_rfl
theorem S110 {m : Amb} {x0 : Int} {x1 : Int} {x2 : Int} {x3 : Int} {x4 : Int} {x5 : Int} {H : Hp} {K : Value → Hp → Prop} (h : t110 m x0 x1 x2 x3 x4 x5 H K) : CallsH Tryz.prog m 110 [.agg #[.int .i64 x0, .int .i64 x1, .int .i64 x2], .agg #[.int .i64 x3, .int .i64 x4, .int .i64 x5]] H K :=
  callsH_of_W (args := [.g [.i .i64 x0, .i .i64 x1, .i .i64 x2], .g [.i .i64 x3, .i .i64 x4, .i .i64 x5]]) mixed Tryz.func110 ((W110 m x0 x1 x2 x3 x4 x5 H K).mpr h)

/-- (switchyard/sram.Ram).wrong -/
def t111 (m : Amb) (p0 : Option Addr) (x1 : Int) (x2 : Int) (H : Hp) (K : Value → Hp → Prop) : Prop :=
  (br p0.isNone (
  (K (.int .i64 1) H)) (
  (br (decide (x2 < 0)) (
  (K (.int .i64 2) H)) (
  (br (decide (x1 < 0)) (
  (K (.int .i64 4) H)) (
  (nn p0 (fun a0 =>
  (ldS H (a0.add 0) (fun r1 l2 l3 =>
  (br (decide (x1 > (l2 : Int))) (
  (K (.int .i64 4) H)) (
  (nn p0 (fun a4 =>
  (ldS H (a4.add 0) (fun r5 l6 l7 =>
  (br (decide (x2 > wr .i64 ((l6 : Int) - x1))) (
  (K (.int .i64 4) H)) (
  (K (.int .i64 0) H)))))))))))))))))))
theorem W111 (m : Amb) (p0 : Option Addr) (x1 : Int) (x2 : Int) (H : Hp) (K : Value → Hp → Prop) : funcW Tryz.prog m [] Tryz.f111 [.c (.p p0), .c (.i .i64 x1), .c (.i .i64 x2)] H K = t111 m p0 x1 x2 H K := by kernel_rfl
theorem S111 {m : Amb} {p0 : Option Addr} {x1 : Int} {x2 : Int} {H : Hp} {K : Value → Hp → Prop} (h : t111 m p0 x1 x2 H K) : CallsH Tryz.prog m 111 [.pointer p0, .int .i64 x1, .int .i64 x2] H K :=
  callsH_of_W (args := [.c (.p p0), .c (.i .i64 x1), .c (.i .i64 x2)]) mixed Tryz.func111 ((W111 m p0 x1 x2 H K).mpr h)

/-- (switchyard/mbox.Box).Pending$1 -/
def t113 (m : Amb) (p0 : Option Addr) (z1 : Addr) (H : Hp) (K : Value → Hp → Prop) : Prop :=
  (nn p0 (fun a0 =>
  (ldI .i64 H (a0.add 0) (fun i1 =>
  (st H z1 (.int .i64 i1) (fun H2 =>
  (K (.int .i64 0) H2)))))))
theorem W113 (m : Amb) (p0 : Option Addr) (z1 : Addr) (H : Hp) (K : Value → Hp → Prop) : funcW Tryz.prog m [] Tryz.f113 [.c (.p p0), .c (.a z1)] H K = t113 m p0 z1 H K := by kernel_rfl
theorem S113 {m : Amb} {p0 : Option Addr} {z1 : Addr} {H : Hp} {K : Value → Hp → Prop} (h : t113 m p0 z1 H K) : CallsH Tryz.prog m 113 [.pointer p0, .pointer (some z1)] H K :=
  callsH_of_W (args := [.c (.p p0), .c (.a z1)]) mixed Tryz.func113 ((W113 m p0 z1 H K).mpr h)

/-- (switchyard/mbox.Box).Take$1 -/
def t114 (m : Amb) (p0 : Option Addr) (z1 : Addr) (z2 : Addr) (H : Hp) (K : Value → Hp → Prop) : Prop :=
  (nn p0 (fun a0 =>
  (ldP H (a0.add 1) (fun r1 =>
  (cl Tryz.prog m 115 ([.pointer r1]) H (fun w2 H3 =>
  (∃ i4 : Int, (∃ i5 : Int, (must (
  w2 = .tuple #[.int .i64 i4, .int .i64 i5]) (
  (must (
  (65536 : Int) ≠ 0) (
  (must (
  (65536 : Int) ≠ 0) (
  (st H3 z1 (.int .i64 (wr .i64 (i4.tdiv 65536))) (fun H6 =>
  (st H6 z2 (.int .i64 (i4.tmod 65536)) (fun H7 =>
  (K (.int .i64 i5) H7)))))))))))))))))))
theorem W114 (m : Amb) (p0 : Option Addr) (z1 : Addr) (z2 : Addr) (H : Hp) (K : Value → Hp → Prop) : funcW Tryz.prog m [] Tryz.f114 [.c (.p p0), .c (.a z1), .c (.a z2)] H K = t114 m p0 z1 z2 H K := by kernel_rfl
theorem S114 {m : Amb} {p0 : Option Addr} {z1 : Addr} {z2 : Addr} {H : Hp} {K : Value → Hp → Prop} (h : t114 m p0 z1 z2 H K) : CallsH Tryz.prog m 114 [.pointer p0, .pointer (some z1), .pointer (some z2)] H K :=
  callsH_of_W (args := [.c (.p p0), .c (.a z1), .c (.a z2)]) mixed Tryz.func114 ((W114 m p0 z1 z2 H K).mpr h)

/-- (switchyard/lane.Lane).Take -/
def t115 (m : Amb) (p0 : Option Addr) (H : Hp) (K : Value → Hp → Prop) : Prop :=
  (br p0.isNone (
  (K (.tuple #[.int .i64 0, .int .i64 1]) H)) (
  (nn p0 (fun a0 =>
  (ldI .i64 H (a0.add 2) (fun i1 =>
  (br (i1 == 0) (
  (K (.tuple #[.int .i64 0, .int .i64 6]) H)) (
  (nn p0 (fun a2 =>
  (ldS H (a2.add 0) (fun r3 l4 l5 =>
  (nn p0 (fun a6 =>
  (ldI .i64 H (a6.add 1) (fun i7 =>
  (ixS r3 i7 l4 (fun a8 =>
  (ldI .i64 H (a8.add (i7.toNat * 1)) (fun i9 =>
  (cl Tryz.prog m 120 ([.pointer p0, .int .i64 1]) H (fun w10 H11 =>
  (∃ i12 : Int, (must (
  w10 = .int .i64 i12) (
  (nn p0 (fun a13 =>
  (st H11 (a13.add 1) (.int .i64 i12) (fun H14 =>
  (nn p0 (fun a15 =>
  (ldI .i64 H14 (a15.add 2) (fun i16 =>
  (nn p0 (fun a17 =>
  (st H14 (a17.add 2) (.int .i64 (wr .i64 (i16 - 1))) (fun H18 =>
  (K (.tuple #[.int .i64 i9, .int .i64 0]) H18))))))))))))))))))))))))))))))))))))))
theorem W115 (m : Amb) (p0 : Option Addr) (H : Hp) (K : Value → Hp → Prop) : funcW Tryz.prog m [] Tryz.f115 [.c (.p p0)] H K = t115 m p0 H K := by kernel_rfl
theorem S115 {m : Amb} {p0 : Option Addr} {H : Hp} {K : Value → Hp → Prop} (h : t115 m p0 H K) : CallsH Tryz.prog m 115 [.pointer p0] H K :=
  callsH_of_W (args := [.c (.p p0)]) mixed Tryz.func115 ((W115 m p0 H K).mpr h)

/-- (switchyard/mbox.Box).Waits$1 -/
def t116 (m : Amb) (p0 : Option Addr) (z1 : Addr) (H : Hp) (K : Value → Hp → Prop) : Prop :=
  (nn p0 (fun a0 =>
  (ldP H (a0.add 1) (fun r1 =>
  (cl Tryz.prog m 117 ([.pointer r1]) H (fun w2 H3 =>
  (∃ i4 : Int, (must (
  w2 = .int .i64 i4) (
  (st H3 z1 (.int .i64 i4) (fun H5 =>
  (K (.int .i64 0) H5))))))))))))
theorem W116 (m : Amb) (p0 : Option Addr) (z1 : Addr) (H : Hp) (K : Value → Hp → Prop) : funcW Tryz.prog m [] Tryz.f116 [.c (.p p0), .c (.a z1)] H K = t116 m p0 z1 H K := by kernel_rfl
theorem S116 {m : Amb} {p0 : Option Addr} {z1 : Addr} {H : Hp} {K : Value → Hp → Prop} (h : t116 m p0 z1 H K) : CallsH Tryz.prog m 116 [.pointer p0, .pointer (some z1)] H K :=
  callsH_of_W (args := [.c (.p p0), .c (.a z1)]) mixed Tryz.func116 ((W116 m p0 z1 H K).mpr h)

/-- (switchyard/lane.Lane).Len -/
def t117 (m : Amb) (p0 : Option Addr) (H : Hp) (K : Value → Hp → Prop) : Prop :=
  (br p0.isNone (
  (K (.int .i64 0) H)) (
  (nn p0 (fun a0 =>
  (ldI .i64 H (a0.add 2) (fun i1 =>
  (K (.int .i64 i1) H)))))))
theorem W117 (m : Amb) (p0 : Option Addr) (H : Hp) (K : Value → Hp → Prop) : funcW Tryz.prog m [] Tryz.f117 [.c (.p p0)] H K = t117 m p0 H K := by kernel_rfl
theorem S117 {m : Amb} {p0 : Option Addr} {H : Hp} {K : Value → Hp → Prop} (h : t117 m p0 H K) : CallsH Tryz.prog m 117 [.pointer p0] H K :=
  callsH_of_W (args := [.c (.p p0)]) mixed Tryz.func117 ((W117 m p0 H K).mpr h)

/-- (switchyard/sbuf.Buffer).Drain -/
def t118 (m : Amb) (p0 : Option Addr) (H : Hp) (K : Value → Hp → Prop) : Prop :=
  (cl Tryz.prog m 76 ([.pointer p0]) H (fun w0 H1 =>
  (∃ i2 : Int, (must (
  w0 = .int .i64 i2) (
  (br (i2 == 0) (
  (K (.tuple #[.int .i64 0, .int .i64 0, .bool false]) H1)) (
  (nn p0 (fun a3 =>
  (ldS H1 (a3.add 1) (fun r4 l5 l6 =>
  (ixS r4 0 l5 (fun a7 =>
  (ldV H1 (a7.add 0) (fun w8 =>
  (nn p0 (fun a9 =>
  (ldS H1 (a9.add 1) (fun r10 l11 l12 =>
  (nn p0 (fun a13 =>
  (ldS H1 (a13.add 1) (fun r14 l15 l16 =>
  (nn p0 (fun a17 =>
  (ldS H1 (a17.add 1) (fun r18 l19 l20 =>
  (sli r10 l11 l12 1 (some 1) (some (l15 : Int)) (some (l19 : Int)) (fun r21 l22 l23 =>
  (nn p0 (fun a24 =>
  (st H1 (a24.add 1) (.slice r21 l22 l23) (fun H25 =>
  (cl Tryz.prog m 125 ([w8]) H25 (fun w26 H27 =>
  (∃ i28 : Int, (∃ i29 : Int, (∃ e30 : Bool, (must (
  w26 = .tuple #[.int .i64 i28, .int .i64 i29, .bool e30]) (
  (K (.tuple #[.int .i64 i28, .int .i64 i29, .bool e30]) H27)))))))))))))))))))))))))))))))))))))))))
theorem W118 (m : Amb) (p0 : Option Addr) (H : Hp) (K : Value → Hp → Prop) : funcW Tryz.prog m [] Tryz.f118 [.c (.p p0)] H K = t118 m p0 H K := by kernel_rfl
theorem S118 {m : Amb} {p0 : Option Addr} {H : Hp} {K : Value → Hp → Prop} (h : t118 m p0 H K) : CallsH Tryz.prog m 118 [.pointer p0] H K :=
  callsH_of_W (args := [.c (.p p0)]) mixed Tryz.func118 ((W118 m p0 H K).mpr h)

/-- switchyard/cell.Of -/
def t119 (m : Amb) (x0 : Int) (x1 : Int) (H : Hp) (K : Value → Hp → Prop) : Prop :=
  (cl Tryz.prog m 126 ([.int .i64 x0]) H (fun w0 H1 =>
  (∃ e2 : Bool, (must (
  w0 = .bool e2) (
  (br (!e2) (
  (K (.tuple #[.complex Go.FloatKind.f64 0 0, .bool false]) H1)) (
  (cl Tryz.prog m 126 ([.int .i64 x1]) H1 (fun w3 H4 =>
  (∃ e5 : Bool, (must (
  w3 = .bool e5) (
  (br (!e5) (
  (K (.tuple #[.complex Go.FloatKind.f64 0 0, .bool false]) H4)) (
  (rawV Tryz.prog m H4 (Go.execOp (actV [SV.c (Sc.i .i64 x0), SV.c (Sc.i .i64 x1), SV.t [], SV.t [], SV.c (Sc.v (.complex Go.FloatKind.f64 0 0)), SV.c Sc.ff, SV.c (Sc.i .i64 x0), SV.c (Sc.b e2), SV.c (Sc.b !e2), SV.c Sc.ff, SV.c (Sc.i .i64 x1), SV.c (Sc.b e5), SV.c (Sc.b !e5), SV.c Sc.ff, SV.c (Sc.i .i64 x0), SV.t [], SV.t [], SV.t [], SV.t []]) #[{ dst := some 14, op := Go.Op.move (Go.Operand.tmp 0), type := 3, pos := "cell.go:21", after := #[], guard := none }, { dst := some 15, op := Go.Op.convert 3 168 (Go.Operand.tmp 14), type := 168, pos := "cell.go:21", after := #[{ on := 0, ground := Go.Ground.data }], guard := none }, { dst := some 16, op := Go.Op.move (Go.Operand.tmp 1), type := 3, pos := "cell.go:21", after := #[], guard := none }, { dst := some 17, op := Go.Op.convert 3 168 (Go.Operand.tmp 16), type := 168, pos := "cell.go:21", after := #[{ on := 2, ground := Go.Ground.data }], guard := none }, { dst := some 18, op := Go.Op.call { callee := Go.Callee.builtin Go.Builtin.complex, args := #[Go.Operand.tmp 15, Go.Operand.tmp 17], argTypes := #[168, 168] }, type := 160, pos := "cell.go:21", after := #[{ on := 1, ground := Go.Ground.data }, { on := 3, ground := Go.Ground.data }], guard := none }, { dst := some 4, op := Go.Op.assign (Go.Operand.tmp 18), type := 160, pos := "cell.go:21", after := #[{ on := 4, ground := Go.Ground.data }, { on := 0, ground := Go.Ground.phase }, { on := 1, ground := Go.Ground.phase }, { on := 2, ground := Go.Ground.phase }, { on := 3, ground := Go.Ground.phase }, { on := 4, ground := Go.Ground.phase }], guard := none }, { dst := some 5, op := Go.Op.assign (Go.Operand.const (.bool true)), type := 4, pos := "cell.go:21", after := #[{ on := 5, ground := Go.Ground.chain }, { on := 0, ground := Go.Ground.phase }, { on := 1, ground := Go.Ground.phase }, { on := 2, ground := Go.Ground.phase }, { on := 3, ground := Go.Ground.phase }, { on := 4, ground := Go.Ground.phase }, { on := 5, ground := Go.Ground.phase }], guard := none }][1]) (fun w6 H7 =>
  (∃ w8 : Value, (must (
  w6 = w8) (
  (rawV Tryz.prog m H7 (Go.execOp (actV [SV.c (Sc.i .i64 x0), SV.c (Sc.i .i64 x1), SV.t [], SV.t [], SV.c (Sc.v (.complex Go.FloatKind.f64 0 0)), SV.c Sc.ff, SV.c (Sc.i .i64 x0), SV.c (Sc.b e2), SV.c (Sc.b !e2), SV.c Sc.ff, SV.c (Sc.i .i64 x1), SV.c (Sc.b e5), SV.c (Sc.b !e5), SV.c Sc.ff, SV.c (Sc.i .i64 x0), SV.c (Sc.v w8), SV.c (Sc.i .i64 x1), SV.t [], SV.t []]) #[{ dst := some 14, op := Go.Op.move (Go.Operand.tmp 0), type := 3, pos := "cell.go:21", after := #[], guard := none }, { dst := some 15, op := Go.Op.convert 3 168 (Go.Operand.tmp 14), type := 168, pos := "cell.go:21", after := #[{ on := 0, ground := Go.Ground.data }], guard := none }, { dst := some 16, op := Go.Op.move (Go.Operand.tmp 1), type := 3, pos := "cell.go:21", after := #[], guard := none }, { dst := some 17, op := Go.Op.convert 3 168 (Go.Operand.tmp 16), type := 168, pos := "cell.go:21", after := #[{ on := 2, ground := Go.Ground.data }], guard := none }, { dst := some 18, op := Go.Op.call { callee := Go.Callee.builtin Go.Builtin.complex, args := #[Go.Operand.tmp 15, Go.Operand.tmp 17], argTypes := #[168, 168] }, type := 160, pos := "cell.go:21", after := #[{ on := 1, ground := Go.Ground.data }, { on := 3, ground := Go.Ground.data }], guard := none }, { dst := some 4, op := Go.Op.assign (Go.Operand.tmp 18), type := 160, pos := "cell.go:21", after := #[{ on := 4, ground := Go.Ground.data }, { on := 0, ground := Go.Ground.phase }, { on := 1, ground := Go.Ground.phase }, { on := 2, ground := Go.Ground.phase }, { on := 3, ground := Go.Ground.phase }, { on := 4, ground := Go.Ground.phase }], guard := none }, { dst := some 5, op := Go.Op.assign (Go.Operand.const (.bool true)), type := 4, pos := "cell.go:21", after := #[{ on := 5, ground := Go.Ground.chain }, { on := 0, ground := Go.Ground.phase }, { on := 1, ground := Go.Ground.phase }, { on := 2, ground := Go.Ground.phase }, { on := 3, ground := Go.Ground.phase }, { on := 4, ground := Go.Ground.phase }, { on := 5, ground := Go.Ground.phase }], guard := none }][3]) (fun w9 H10 =>
  (∃ w11 : Value, (must (
  w9 = w11) (
  (rawP Tryz.prog (Go.execOp (actV [SV.c (Sc.i .i64 x0), SV.c (Sc.i .i64 x1), SV.t [], SV.t [], SV.c (Sc.v (.complex Go.FloatKind.f64 0 0)), SV.c Sc.ff, SV.c (Sc.i .i64 x0), SV.c (Sc.b e2), SV.c (Sc.b !e2), SV.c Sc.ff, SV.c (Sc.i .i64 x1), SV.c (Sc.b e5), SV.c (Sc.b !e5), SV.c Sc.ff, SV.c (Sc.i .i64 x0), SV.c (Sc.v w8), SV.c (Sc.i .i64 x1), SV.c (Sc.v w11), SV.t []]) #[{ dst := some 14, op := Go.Op.move (Go.Operand.tmp 0), type := 3, pos := "cell.go:21", after := #[], guard := none }, { dst := some 15, op := Go.Op.convert 3 168 (Go.Operand.tmp 14), type := 168, pos := "cell.go:21", after := #[{ on := 0, ground := Go.Ground.data }], guard := none }, { dst := some 16, op := Go.Op.move (Go.Operand.tmp 1), type := 3, pos := "cell.go:21", after := #[], guard := none }, { dst := some 17, op := Go.Op.convert 3 168 (Go.Operand.tmp 16), type := 168, pos := "cell.go:21", after := #[{ on := 2, ground := Go.Ground.data }], guard := none }, { dst := some 18, op := Go.Op.call { callee := Go.Callee.builtin Go.Builtin.complex, args := #[Go.Operand.tmp 15, Go.Operand.tmp 17], argTypes := #[168, 168] }, type := 160, pos := "cell.go:21", after := #[{ on := 1, ground := Go.Ground.data }, { on := 3, ground := Go.Ground.data }], guard := none }, { dst := some 4, op := Go.Op.assign (Go.Operand.tmp 18), type := 160, pos := "cell.go:21", after := #[{ on := 4, ground := Go.Ground.data }, { on := 0, ground := Go.Ground.phase }, { on := 1, ground := Go.Ground.phase }, { on := 2, ground := Go.Ground.phase }, { on := 3, ground := Go.Ground.phase }, { on := 4, ground := Go.Ground.phase }], guard := none }, { dst := some 5, op := Go.Op.assign (Go.Operand.const (.bool true)), type := 4, pos := "cell.go:21", after := #[{ on := 5, ground := Go.Ground.chain }, { on := 0, ground := Go.Ground.phase }, { on := 1, ground := Go.Ground.phase }, { on := 2, ground := Go.Ground.phase }, { on := 3, ground := Go.Ground.phase }, { on := 4, ground := Go.Ground.phase }, { on := 5, ground := Go.Ground.phase }], guard := none }][4]) (fun w12 =>
  (∃ w13 : Value, (must (
  w12 = w13) (
  (K (.tuple #[w13, .bool true]) H10))))))))))))))))))))))))))))))
theorem W119 (m : Amb) (x0 : Int) (x1 : Int) (H : Hp) (K : Value → Hp → Prop) : funcW Tryz.prog m [] Tryz.f119 [.c (.i .i64 x0), .c (.i .i64 x1)] H K = t119 m x0 x1 H K := by kernel_rfl
theorem S119 {m : Amb} {x0 : Int} {x1 : Int} {H : Hp} {K : Value → Hp → Prop} (h : t119 m x0 x1 H K) : CallsH Tryz.prog m 119 [.int .i64 x0, .int .i64 x1] H K :=
  callsH_of_W (args := [.c (.i .i64 x0), .c (.i .i64 x1)]) mixed Tryz.func119 ((W119 m x0 x1 H K).mpr h)

/-- (switchyard/lane.Lane).at -/
def t120 (m : Amb) (p0 : Option Addr) (x1 : Int) (H : Hp) (K : Value → Hp → Prop) : Prop :=
  (nn p0 (fun a0 =>
  (ldI .i64 H (a0.add 1) (fun i1 =>
  (nn p0 (fun a2 =>
  (ldS H (a2.add 0) (fun r3 l4 l5 =>
  (must (
  (l4 : Int) ≠ 0) (
  (K (.int .i64 ((wr .i64 (i1 + x1)).tmod (l4 : Int))) H)))))))))))
theorem W120 (m : Amb) (p0 : Option Addr) (x1 : Int) (H : Hp) (K : Value → Hp → Prop) : funcW Tryz.prog m [] Tryz.f120 [.c (.p p0), .c (.i .i64 x1)] H K = t120 m p0 x1 H K := by kernel_rfl
theorem S120 {m : Amb} {p0 : Option Addr} {x1 : Int} {H : Hp} {K : Value → Hp → Prop} (h : t120 m p0 x1 H K) : CallsH Tryz.prog m 120 [.pointer p0, .int .i64 x1] H K :=
  callsH_of_W (args := [.c (.p p0), .c (.i .i64 x1)]) mixed Tryz.func120 ((W120 m p0 x1 H K).mpr h)

/-- slices.Equal[[]complex128,complex128] -/
def t121 (m : Amb) (q0 : Option Addr) (n0 : Nat) (c0 : Nat) (q1 : Option Addr) (n1 : Nat) (c1 : Nat) (H : Hp) (K : Value → Hp → Prop) : Prop :=
  (br ((n0 : Int) != (n1 : Int)) (
  (K (.bool false) H)) (
  (∃ I0 : Int → Hp → Prop, (∃ I1 : Int → Hp → Nat, ((I0 0 H) ∧
  (∀ i2 : Int, (∀ H3 : Hp, (∀ l4 : Nat, (∀ j5 : Nat → Value, (((I0 i2 H3)) → 
  ((I1 i2 H3 = l4) → 
  (br (decide (i2 < (n0 : Int))) (
  (ixS q0 i2 n0 (fun a6 =>
  (ldV H3 (a6.add (i2.toNat * 1)) (fun w7 =>
  (ixS q1 i2 n1 (fun a8 =>
  (ldV H3 (a8.add (i2.toNat * 1)) (fun w9 =>
  (rawP Tryz.prog (Go.execOp (actV [SV.c (Sc.sl q0 n0 c0), SV.c (Sc.sl q1 n1 c1), SV.t [], SV.t [], SV.c (Sc.v (j5 4)), SV.c (Sc.i .i64 i2), SV.c (Sc.sl q0 n0 c0), SV.c (Sc.i .i64 (n0 : Int)), SV.c (Sc.sl q1 n1 c1), SV.c (Sc.i .i64 (n1 : Int)), SV.c Sc.ff, SV.c (Sc.sl q0 n0 c0), SV.c (Sc.i .i64 (n0 : Int)), SV.c (Sc.i .i64 i2), SV.c Sc.tt, SV.c (Sc.i .i64 i2), SV.c (Sc.sl q0 n0 c0), SV.c (Sc.i .i64 i2), SV.c (Sc.a (a6.add (i2.toNat * 1))), SV.c (Sc.v w7), SV.c (Sc.sl q1 n1 c1), SV.c (Sc.i .i64 i2), SV.c (Sc.a (a8.add (i2.toNat * 1))), SV.c (Sc.v w9), SV.c (Sc.v (j5 24)), SV.c (Sc.v (j5 25))]) #[{ dst := some 16, op := Go.Op.move (Go.Operand.tmp 0), type := 139, pos := "slices.go:25", after := #[], guard := none }, { dst := some 17, op := Go.Op.move (Go.Operand.tmp 5), type := 3, pos := "slices.go:25", after := #[], guard := none }, { dst := some 18, op := Go.Op.indexAddr 139 (Go.Operand.tmp 16) (Go.Operand.tmp 17), type := 0, pos := "slices.go:25", after := #[{ on := 0, ground := Go.Ground.data }, { on := 1, ground := Go.Ground.data }], guard := none }, { dst := some 19, op := Go.Op.load 160 (Go.Operand.tmp 18), type := 160, pos := "slices.go:25", after := #[{ on := 2, ground := Go.Ground.data }], guard := none }, { dst := some 20, op := Go.Op.move (Go.Operand.tmp 1), type := 139, pos := "slices.go:25", after := #[], guard := none }, { dst := some 21, op := Go.Op.move (Go.Operand.tmp 5), type := 3, pos := "slices.go:25", after := #[], guard := none }, { dst := some 22, op := Go.Op.indexAddr 139 (Go.Operand.tmp 20) (Go.Operand.tmp 21), type := 0, pos := "slices.go:25", after := #[{ on := 4, ground := Go.Ground.data }, { on := 5, ground := Go.Ground.data }], guard := none }, { dst := some 23, op := Go.Op.load 160 (Go.Operand.tmp 22), type := 160, pos := "slices.go:25", after := #[{ on := 6, ground := Go.Ground.data }], guard := none }, { dst := some 24, op := Go.Op.binOp .neq 160 (Go.Operand.tmp 19) (Go.Operand.tmp 23) 160, type := 4, pos := "slices.go:25", after := #[{ on := 3, ground := Go.Ground.data }, { on := 7, ground := Go.Ground.data }], guard := none }][8]) (fun w10 =>
  (∃ e11 : Bool, (must (
  w10 = .bool e11) (
  (br e11 (
  (K (.bool false) H3)) (
  ((I0 (wr .i64 (i2 + 1)) H3) ∧
  ((I1 (wr .i64 (i2 + 1)) H3).succ.le l4)))))))))))))))))) (
  (K (.bool true) H3))))))))))))))
theorem W121 (m : Amb) (q0 : Option Addr) (n0 : Nat) (c0 : Nat) (q1 : Option Addr) (n1 : Nat) (c1 : Nat) (H : Hp) (K : Value → Hp → Prop) : funcW Tryz.prog m [⟨true, 5, [(13, (.i .i64))]⟩] Tryz.f121 [.c (.sl q0 n0 c0), .c (.sl q1 n1 c1)] H K = t121 m q0 n0 c0 q1 n1 c1 H K := by kernel_rfl
theorem S121 {m : Amb} {q0 : Option Addr} {n0 : Nat} {c0 : Nat} {q1 : Option Addr} {n1 : Nat} {c1 : Nat} {H : Hp} {K : Value → Hp → Prop} (h : t121 m q0 n0 c0 q1 n1 c1 H K) : CallsH Tryz.prog m 121 [.slice q0 n0 c0, .slice q1 n1 c1] H K :=
  callsH_of_W (args := [.c (.sl q0 n0 c0), .c (.sl q1 n1 c1)]) mixed Tryz.func121 ((W121 m q0 n0 c0 q1 n1 c1 H K).mpr h)

/-- slices.Clone[[]complex128,complex128] -/
def t122 (m : Amb) (q0 : Option Addr) (n0 : Nat) (c0 : Nat) (H : Hp) (K : Value → Hp → Prop) : Prop :=
  (br q0.isNone (
  (K (.slice none 0 0) H)) (
  (nw H ([]) 160 (fun a0 H1 =>
  (rd H1 q0 (n0 * 1) (fun cs2 =>
  (ap Tryz.prog 160 1 16 H1 (some a0) 0 0 cs2 n0 (fun r3 l4 l5 H6 =>
  (K (.slice r3 l4 l5) H6)))))))))
theorem W122 (m : Amb) (q0 : Option Addr) (n0 : Nat) (c0 : Nat) (H : Hp) (K : Value → Hp → Prop) : funcW Tryz.prog m [] Tryz.f122 [.c (.sl q0 n0 c0)] H K = t122 m q0 n0 c0 H K := by kernel_rfl
theorem S122 {m : Amb} {q0 : Option Addr} {n0 : Nat} {c0 : Nat} {H : Hp} {K : Value → Hp → Prop} (h : t122 m q0 n0 c0 H K) : CallsH Tryz.prog m 122 [.slice q0 n0 c0] H K :=
  callsH_of_W (args := [.c (.sl q0 n0 c0)]) mixed Tryz.func122 ((W122 m q0 n0 c0 H K).mpr h)

/-- (switchyard/sram.Ram).Fill -/
def t123 (m : Amb) (p0 : Option Addr) (x1 : Int) (x2 : Int) (x3 : Int) (H : Hp) (K : Value → Hp → Prop) : Prop :=
  (cl Tryz.prog m 111 ([.pointer p0, .int .i64 x1, .int .i64 x2]) H (fun w0 H1 =>
  (∃ i2 : Int, (must (
  w0 = .int .i64 i2) (
  (br (i2 != 0) (
  (K (.int .i64 i2) H1)) (
  (br (decide (x3 < 0)) (
  (K (.int .i64 2) H1)) (
  (br (decide (x3 > 65535)) (
  (K (.int .i64 2) H1)) (
  (∃ I3 : Int → Hp → Prop, (∃ I4 : Int → Hp → Nat, ((I3 0 H1) ∧
  (∀ i5 : Int, (∀ H6 : Hp, (∀ l7 : Nat, (∀ j8 : Nat → Value, (((I3 i5 H6)) → 
  ((I4 i5 H6 = l7) → 
  (br (decide (i5 < x2)) (
  (nn p0 (fun a9 =>
  (ldS H6 (a9.add 0) (fun r10 l11 l12 =>
  (ixS r10 (wr .i64 (x1 + i5)) l11 (fun a13 =>
  (st H6 (a13.add ((wr .i64 (x1 + i5)).toNat * 1)) (.int .i64 x3) (fun H14 =>
  ((I3 (wr .i64 (i5 + 1)) H14) ∧
  ((I4 (wr .i64 (i5 + 1)) H14).succ.le l7))))))))))) (
  (K (.int .i64 0) H6)))))))))))))))))))))))
theorem W123 (m : Amb) (p0 : Option Addr) (x1 : Int) (x2 : Int) (x3 : Int) (H : Hp) (K : Value → Hp → Prop) : funcW Tryz.prog m [⟨true, 8, [(25, (.i .i64))]⟩] Tryz.f123 [.c (.p p0), .c (.i .i64 x1), .c (.i .i64 x2), .c (.i .i64 x3)] H K = t123 m p0 x1 x2 x3 H K := by kernel_rfl
theorem S123 {m : Amb} {p0 : Option Addr} {x1 : Int} {x2 : Int} {x3 : Int} {H : Hp} {K : Value → Hp → Prop} (h : t123 m p0 x1 x2 x3 H K) : CallsH Tryz.prog m 123 [.pointer p0, .int .i64 x1, .int .i64 x2, .int .i64 x3] H K :=
  callsH_of_W (args := [.c (.p p0), .c (.i .i64 x1), .c (.i .i64 x2), .c (.i .i64 x3)]) mixed Tryz.func123 ((W123 m p0 x1 x2 x3 H K).mpr h)

/-- slices.Backward[[]complex128,complex128] -/
def t124 (m : Amb) (q0 : Option Addr) (n0 : Nat) (c0 : Nat) (H : Hp) (K : Value → Hp → Prop) : Prop :=
  (nw H ([.slice q0 n0 c0]) 139 (fun a0 H1 =>
  (K (.func (.func 127) #[] #[.pointer (some a0)]) H1)))
theorem W124 (m : Amb) (q0 : Option Addr) (n0 : Nat) (c0 : Nat) (H : Hp) (K : Value → Hp → Prop) : funcW Tryz.prog m [] Tryz.f124 [.c (.sl q0 n0 c0)] H K = t124 m q0 n0 c0 H K := by kernel_rfl
theorem S124 {m : Amb} {q0 : Option Addr} {n0 : Nat} {c0 : Nat} {H : Hp} {K : Value → Hp → Prop} (h : t124 m q0 n0 c0 H K) : CallsH Tryz.prog m 124 [.slice q0 n0 c0] H K :=
  callsH_of_W (args := [.c (.sl q0 n0 c0)]) mixed Tryz.func124 ((W124 m q0 n0 c0 H K).mpr h)

/-- switchyard/cell.Parts -/
def t125 (m : Amb) (v0 : Value) (H : Hp) (K : Value → Hp → Prop) : Prop :=
  (rawP Tryz.prog (Go.execOp (actV [SV.c (Sc.v v0), SV.t [], SV.c (Sc.i .i64 0), SV.c (Sc.i .i64 0), SV.c Sc.ff, SV.c (Sc.v v0), SV.t [], SV.t [], SV.t [], SV.t [], SV.t [], SV.t [], SV.t [], SV.t [], SV.t [], SV.t [], SV.t [], SV.t [], SV.t []]) #[{ dst := some 5, op := Go.Op.move (Go.Operand.tmp 0), type := 160, pos := "cell.go:34", after := #[], guard := none }, { dst := some 6, op := Go.Op.call { callee := Go.Callee.builtin Go.Builtin.real, args := #[Go.Operand.tmp 5], argTypes := #[160] }, type := 168, pos := "cell.go:34", after := #[{ on := 0, ground := Go.Ground.data }], guard := none }, { dst := some 7, op := Go.Op.call { callee := Go.Callee.value (Go.Operand.func 128), args := #[Go.Operand.tmp 6], argTypes := #[168] }, type := 3, pos := "cell.go:34", after := #[{ on := 1, ground := Go.Ground.data }], guard := none }, { dst := some 8, op := Go.Op.move (Go.Operand.tmp 0), type := 160, pos := "cell.go:34", after := #[], guard := none }, { dst := some 9, op := Go.Op.call { callee := Go.Callee.builtin Go.Builtin.imag, args := #[Go.Operand.tmp 8], argTypes := #[160] }, type := 168, pos := "cell.go:34", after := #[{ on := 3, ground := Go.Ground.data }], guard := none }, { dst := some 10, op := Go.Op.call { callee := Go.Callee.value (Go.Operand.func 128), args := #[Go.Operand.tmp 9], argTypes := #[168] }, type := 3, pos := "cell.go:34", after := #[{ on := 4, ground := Go.Ground.data }, { on := 2, ground := Go.Ground.chain }], guard := none }, { dst := some 2, op := Go.Op.assign (Go.Operand.tmp 7), type := 3, pos := "cell.go:34", after := #[{ on := 2, ground := Go.Ground.data }, { on := 5, ground := Go.Ground.chain }, { on := 0, ground := Go.Ground.phase }, { on := 1, ground := Go.Ground.phase }, { on := 2, ground := Go.Ground.phase }, { on := 3, ground := Go.Ground.textOnly Go.Departure.lateStores }, { on := 4, ground := Go.Ground.textOnly Go.Departure.lateStoresUnsure }, { on := 5, ground := Go.Ground.textOnly Go.Departure.lateStoresUnsure }], guard := none }, { dst := some 3, op := Go.Op.assign (Go.Operand.tmp 10), type := 3, pos := "cell.go:34", after := #[{ on := 5, ground := Go.Ground.data }, { on := 6, ground := Go.Ground.chain }, { on := 0, ground := Go.Ground.phase }, { on := 1, ground := Go.Ground.phase }, { on := 2, ground := Go.Ground.phase }, { on := 3, ground := Go.Ground.phase }, { on := 4, ground := Go.Ground.phase }, { on := 5, ground := Go.Ground.phase }, { on := 6, ground := Go.Ground.phase }], guard := none }][1]) (fun w0 =>
  (∃ w1 : Value, (must (
  w0 = w1) (
  (cl Tryz.prog m 128 ([w1]) H (fun w2 H3 =>
  (∃ i4 : Int, (must (
  w2 = .int .i64 i4) (
  (rawP Tryz.prog (Go.execOp (actV [SV.c (Sc.v v0), SV.t [], SV.c (Sc.i .i64 0), SV.c (Sc.i .i64 0), SV.c Sc.ff, SV.c (Sc.v v0), SV.c (Sc.v w1), SV.c (Sc.i .i64 i4), SV.c (Sc.v v0), SV.t [], SV.t [], SV.t [], SV.t [], SV.t [], SV.t [], SV.t [], SV.t [], SV.t [], SV.t []]) #[{ dst := some 5, op := Go.Op.move (Go.Operand.tmp 0), type := 160, pos := "cell.go:34", after := #[], guard := none }, { dst := some 6, op := Go.Op.call { callee := Go.Callee.builtin Go.Builtin.real, args := #[Go.Operand.tmp 5], argTypes := #[160] }, type := 168, pos := "cell.go:34", after := #[{ on := 0, ground := Go.Ground.data }], guard := none }, { dst := some 7, op := Go.Op.call { callee := Go.Callee.value (Go.Operand.func 128), args := #[Go.Operand.tmp 6], argTypes := #[168] }, type := 3, pos := "cell.go:34", after := #[{ on := 1, ground := Go.Ground.data }], guard := none }, { dst := some 8, op := Go.Op.move (Go.Operand.tmp 0), type := 160, pos := "cell.go:34", after := #[], guard := none }, { dst := some 9, op := Go.Op.call { callee := Go.Callee.builtin Go.Builtin.imag, args := #[Go.Operand.tmp 8], argTypes := #[160] }, type := 168, pos := "cell.go:34", after := #[{ on := 3, ground := Go.Ground.data }], guard := none }, { dst := some 10, op := Go.Op.call { callee := Go.Callee.value (Go.Operand.func 128), args := #[Go.Operand.tmp 9], argTypes := #[168] }, type := 3, pos := "cell.go:34", after := #[{ on := 4, ground := Go.Ground.data }, { on := 2, ground := Go.Ground.chain }], guard := none }, { dst := some 2, op := Go.Op.assign (Go.Operand.tmp 7), type := 3, pos := "cell.go:34", after := #[{ on := 2, ground := Go.Ground.data }, { on := 5, ground := Go.Ground.chain }, { on := 0, ground := Go.Ground.phase }, { on := 1, ground := Go.Ground.phase }, { on := 2, ground := Go.Ground.phase }, { on := 3, ground := Go.Ground.textOnly Go.Departure.lateStores }, { on := 4, ground := Go.Ground.textOnly Go.Departure.lateStoresUnsure }, { on := 5, ground := Go.Ground.textOnly Go.Departure.lateStoresUnsure }], guard := none }, { dst := some 3, op := Go.Op.assign (Go.Operand.tmp 10), type := 3, pos := "cell.go:34", after := #[{ on := 5, ground := Go.Ground.data }, { on := 6, ground := Go.Ground.chain }, { on := 0, ground := Go.Ground.phase }, { on := 1, ground := Go.Ground.phase }, { on := 2, ground := Go.Ground.phase }, { on := 3, ground := Go.Ground.phase }, { on := 4, ground := Go.Ground.phase }, { on := 5, ground := Go.Ground.phase }, { on := 6, ground := Go.Ground.phase }], guard := none }][4]) (fun w5 =>
  (∃ w6 : Value, (must (
  w5 = w6) (
  (cl Tryz.prog m 128 ([w6]) H3 (fun w7 H8 =>
  (∃ i9 : Int, (must (
  w7 = .int .i64 i9) (
  (br (decide (i4 < 0)) (
  (K (.tuple #[.int .i64 0, .int .i64 0, .bool false]) H8)) (
  (br (decide (i9 < 0)) (
  (K (.tuple #[.int .i64 0, .int .i64 0, .bool false]) H8)) (
  (K (.tuple #[.int .i64 i4, .int .i64 i9, .bool true]) H8)))))))))))))))))))))))))
theorem W125 (m : Amb) (v0 : Value) (H : Hp) (K : Value → Hp → Prop) : funcW Tryz.prog m [] Tryz.f125 [.c (.v v0)] H K = t125 m v0 H K := by kernel_rfl
theorem S125 {m : Amb} {v0 : Value} {H : Hp} {K : Value → Hp → Prop} (h : t125 m v0 H K) : CallsH Tryz.prog m 125 [v0] H K :=
  callsH_of_W (args := [.c (.v v0)]) mixed Tryz.func125 ((W125 m v0 H K).mpr h)

/-- switchyard/cell.may -/
def t126 (m : Amb) (x0 : Int) (H : Hp) (K : Value → Hp → Prop) : Prop :=
  (cl Tryz.prog m 35 ([.int .i64 x0]) H (fun w0 H1 =>
  (∃ i2 : Int, (must (
  w0 = .int .i64 i2) (
  (K (.bool (x0 == i2)) H1))))))
theorem W126 (m : Amb) (x0 : Int) (H : Hp) (K : Value → Hp → Prop) : funcW Tryz.prog m [] Tryz.f126 [.c (.i .i64 x0)] H K = t126 m x0 H K := by kernel_rfl
theorem S126 {m : Amb} {x0 : Int} {H : Hp} {K : Value → Hp → Prop} (h : t126 m x0 H K) : CallsH Tryz.prog m 126 [.int .i64 x0] H K :=
  callsH_of_W (args := [.c (.i .i64 x0)]) mixed Tryz.func126 ((W126 m x0 H K).mpr h)

/-- slices.Backward[[]complex128,complex128]$1 -/
def t127 (m : Amb) (v0 : Value) (z1 : Addr) (H : Hp) (K : Value → Hp → Prop) : Prop :=
  (ldS H z1 (fun r0 l1 l2 =>
  (∃ I3 : Int → Hp → Prop, (∃ I4 : Int → Hp → Nat, ((I3 (wr .i64 ((l1 : Int) - 1)) H) ∧
  (∀ i5 : Int, (∀ H6 : Hp, (∀ l7 : Nat, (∀ j8 : Nat → Value, (((I3 i5 H6)) → 
  ((I4 i5 H6 = l7) → 
  (br (decide (i5 ≥ 0)) (
  (ldS H6 z1 (fun r9 l10 l11 =>
  (ixS r9 i5 l10 (fun a12 =>
  (ldV H6 (a12.add (i5.toNat * 1)) (fun w13 =>
  (clV Tryz.prog m v0 ([.int .i64 i5, w13]) H6 (fun w14 H15 =>
  (∃ e16 : Bool, (must (
  w14 = .bool e16) (
  (br (!e16) (
  (K (.tuple #[]) H15)) (
  ((I3 (wr .i64 (i5 - 1)) H15) ∧
  ((I4 (wr .i64 (i5 - 1)) H15).succ.le l7)))))))))))))))) (
  (K (.tuple #[]) H6))))))))))))))
theorem W127 (m : Amb) (v0 : Value) (z1 : Addr) (H : Hp) (K : Value → Hp → Prop) : funcW Tryz.prog m [⟨true, 2, [(3, (.i .i64))]⟩] Tryz.f127 [.c (.v v0), .c (.a z1)] H K = t127 m v0 z1 H K := by kernel_rfl
theorem S127 {m : Amb} {v0 : Value} {z1 : Addr} {H : Hp} {K : Value → Hp → Prop} (h : t127 m v0 z1 H K) : CallsH Tryz.prog m 127 [v0, .pointer (some z1)] H K :=
  callsH_of_W (args := [.c (.v v0), .c (.a z1)]) mixed Tryz.func127 ((W127 m v0 z1 H K).mpr h)

/-- switchyard/cell.part -/
def t128 (m : Amb) (v0 : Value) (H : Hp) (K : Value → Hp → Prop) : Prop :=
  (rawP Tryz.prog (Go.execOp (actV [SV.c (Sc.v v0), SV.t [], SV.c (Sc.i .i64 0), SV.c (Sc.v v0), SV.t [], SV.t [], SV.t [], SV.t [], SV.t [], SV.t [], SV.t [], SV.t [], SV.t [], SV.t [], SV.t [], SV.t [], SV.t [], SV.t []]) #[{ dst := some 3, op := Go.Op.move (Go.Operand.tmp 0), type := 168, pos := "cell.go:26", after := #[], guard := none }, { dst := some 4, op := Go.Op.binOp .geq 168 (Go.Operand.tmp 3) (Go.Operand.const (.float Go.FloatKind.f64 0)) 168, type := 4, pos := "cell.go:26", after := #[{ on := 0, ground := Go.Ground.data }], guard := none }, { dst := some 5, op := Go.Op.move (Go.Operand.tmp 4), type := 4, pos := "cell.go:26", after := #[{ on := 1, ground := Go.Ground.data }], guard := none }, { dst := some 6, op := Go.Op.move (Go.Operand.tmp 0), type := 168, pos := "cell.go:26", after := #[{ on := 2, ground := Go.Ground.guard }], guard := some (2, true) }, { dst := some 7, op := Go.Op.binOp .leq 168 (Go.Operand.tmp 6) (Go.Operand.const (.float Go.FloatKind.f64 4679239875398991872)) 168, type := 4, pos := "cell.go:26", after := #[{ on := 3, ground := Go.Ground.data }, { on := 2, ground := Go.Ground.guard }], guard := some (2, true) }, { dst := some 8, op := Go.Op.pick (Go.Operand.tmp 5) (Go.Operand.tmp 7) (Go.Operand.const (.bool false)), type := 4, pos := "cell.go:26", after := #[{ on := 2, ground := Go.Ground.data }, { on := 4, ground := Go.Ground.data }], guard := none }, { dst := some 9, op := Go.Op.move (Go.Operand.tmp 8), type := 4, pos := "cell.go:26", after := #[{ on := 5, ground := Go.Ground.data }, { on := 2, ground := Go.Ground.chain }], guard := none }, { dst := some 10, op := Go.Op.move (Go.Operand.tmp 0), type := 168, pos := "cell.go:26", after := #[{ on := 6, ground := Go.Ground.guard }], guard := some (6, true) }, { dst := some 11, op := Go.Op.convert 168 3 (Go.Operand.tmp 10), type := 3, pos := "cell.go:26", after := #[{ on := 7, ground := Go.Ground.data }, { on := 6, ground := Go.Ground.guard }], guard := some (6, true) }, { dst := some 12, op := Go.Op.convert 3 168 (Go.Operand.tmp 11), type := 168, pos := "cell.go:26", after := #[{ on := 8, ground := Go.Ground.data }, { on := 6, ground := Go.Ground.guard }], guard := some (6, true) }, { dst := some 13, op := Go.Op.move (Go.Operand.tmp 0), type := 168, pos := "cell.go:26", after := #[{ on := 6, ground := Go.Ground.guard }], guard := some (6, true) }, { dst := some 14, op := Go.Op.binOp .eql 168 (Go.Operand.tmp 12) (Go.Operand.tmp 13) 168, type := 4, pos := "cell.go:26", after := #[{ on := 9, ground := Go.Ground.data }, { on := 10, ground := Go.Ground.data }, { on := 6, ground := Go.Ground.guard }], guard := some (6, true) }, { dst := some 15, op := Go.Op.pick (Go.Operand.tmp 9) (Go.Operand.tmp 14) (Go.Operand.const (.bool false)), type := 4, pos := "cell.go:26", after := #[{ on := 6, ground := Go.Ground.data }, { on := 11, ground := Go.Ground.data }], guard := none }][1]) (fun w0 =>
  (∃ e1 : Bool, (must (
  w0 = .bool e1) (
  (br e1 (
  (rawP Tryz.prog (Go.execOp (actV [SV.c (Sc.v v0), SV.t [], SV.c (Sc.i .i64 0), SV.c (Sc.v v0), SV.c (Sc.b e1), SV.c Sc.tt, SV.c (Sc.v v0), SV.t [], SV.t [], SV.t [], SV.t [], SV.t [], SV.t [], SV.t [], SV.t [], SV.t [], SV.t [], SV.t []]) #[{ dst := some 3, op := Go.Op.move (Go.Operand.tmp 0), type := 168, pos := "cell.go:26", after := #[], guard := none }, { dst := some 4, op := Go.Op.binOp .geq 168 (Go.Operand.tmp 3) (Go.Operand.const (.float Go.FloatKind.f64 0)) 168, type := 4, pos := "cell.go:26", after := #[{ on := 0, ground := Go.Ground.data }], guard := none }, { dst := some 5, op := Go.Op.move (Go.Operand.tmp 4), type := 4, pos := "cell.go:26", after := #[{ on := 1, ground := Go.Ground.data }], guard := none }, { dst := some 6, op := Go.Op.move (Go.Operand.tmp 0), type := 168, pos := "cell.go:26", after := #[{ on := 2, ground := Go.Ground.guard }], guard := some (2, true) }, { dst := some 7, op := Go.Op.binOp .leq 168 (Go.Operand.tmp 6) (Go.Operand.const (.float Go.FloatKind.f64 4679239875398991872)) 168, type := 4, pos := "cell.go:26", after := #[{ on := 3, ground := Go.Ground.data }, { on := 2, ground := Go.Ground.guard }], guard := some (2, true) }, { dst := some 8, op := Go.Op.pick (Go.Operand.tmp 5) (Go.Operand.tmp 7) (Go.Operand.const (.bool false)), type := 4, pos := "cell.go:26", after := #[{ on := 2, ground := Go.Ground.data }, { on := 4, ground := Go.Ground.data }], guard := none }, { dst := some 9, op := Go.Op.move (Go.Operand.tmp 8), type := 4, pos := "cell.go:26", after := #[{ on := 5, ground := Go.Ground.data }, { on := 2, ground := Go.Ground.chain }], guard := none }, { dst := some 10, op := Go.Op.move (Go.Operand.tmp 0), type := 168, pos := "cell.go:26", after := #[{ on := 6, ground := Go.Ground.guard }], guard := some (6, true) }, { dst := some 11, op := Go.Op.convert 168 3 (Go.Operand.tmp 10), type := 3, pos := "cell.go:26", after := #[{ on := 7, ground := Go.Ground.data }, { on := 6, ground := Go.Ground.guard }], guard := some (6, true) }, { dst := some 12, op := Go.Op.convert 3 168 (Go.Operand.tmp 11), type := 168, pos := "cell.go:26", after := #[{ on := 8, ground := Go.Ground.data }, { on := 6, ground := Go.Ground.guard }], guard := some (6, true) }, { dst := some 13, op := Go.Op.move (Go.Operand.tmp 0), type := 168, pos := "cell.go:26", after := #[{ on := 6, ground := Go.Ground.guard }], guard := some (6, true) }, { dst := some 14, op := Go.Op.binOp .eql 168 (Go.Operand.tmp 12) (Go.Operand.tmp 13) 168, type := 4, pos := "cell.go:26", after := #[{ on := 9, ground := Go.Ground.data }, { on := 10, ground := Go.Ground.data }, { on := 6, ground := Go.Ground.guard }], guard := some (6, true) }, { dst := some 15, op := Go.Op.pick (Go.Operand.tmp 9) (Go.Operand.tmp 14) (Go.Operand.const (.bool false)), type := 4, pos := "cell.go:26", after := #[{ on := 6, ground := Go.Ground.data }, { on := 11, ground := Go.Ground.data }], guard := none }][4]) (fun w2 =>
  (∃ e3 : Bool, (must (
  w2 = .bool e3) (
  (br e3 (
  (rawV Tryz.prog m H (Go.execOp (actV [SV.c (Sc.v v0), SV.t [], SV.c (Sc.i .i64 0), SV.c (Sc.v v0), SV.c (Sc.b e1), SV.c Sc.tt, SV.c (Sc.v v0), SV.c (Sc.b e3), SV.c (Sc.b e3), SV.c Sc.tt, SV.c (Sc.v v0), SV.t [], SV.t [], SV.t [], SV.t [], SV.t [], SV.t [], SV.t []]) #[{ dst := some 3, op := Go.Op.move (Go.Operand.tmp 0), type := 168, pos := "cell.go:26", after := #[], guard := none }, { dst := some 4, op := Go.Op.binOp .geq 168 (Go.Operand.tmp 3) (Go.Operand.const (.float Go.FloatKind.f64 0)) 168, type := 4, pos := "cell.go:26", after := #[{ on := 0, ground := Go.Ground.data }], guard := none }, { dst := some 5, op := Go.Op.move (Go.Operand.tmp 4), type := 4, pos := "cell.go:26", after := #[{ on := 1, ground := Go.Ground.data }], guard := none }, { dst := some 6, op := Go.Op.move (Go.Operand.tmp 0), type := 168, pos := "cell.go:26", after := #[{ on := 2, ground := Go.Ground.guard }], guard := some (2, true) }, { dst := some 7, op := Go.Op.binOp .leq 168 (Go.Operand.tmp 6) (Go.Operand.const (.float Go.FloatKind.f64 4679239875398991872)) 168, type := 4, pos := "cell.go:26", after := #[{ on := 3, ground := Go.Ground.data }, { on := 2, ground := Go.Ground.guard }], guard := some (2, true) }, { dst := some 8, op := Go.Op.pick (Go.Operand.tmp 5) (Go.Operand.tmp 7) (Go.Operand.const (.bool false)), type := 4, pos := "cell.go:26", after := #[{ on := 2, ground := Go.Ground.data }, { on := 4, ground := Go.Ground.data }], guard := none }, { dst := some 9, op := Go.Op.move (Go.Operand.tmp 8), type := 4, pos := "cell.go:26", after := #[{ on := 5, ground := Go.Ground.data }, { on := 2, ground := Go.Ground.chain }], guard := none }, { dst := some 10, op := Go.Op.move (Go.Operand.tmp 0), type := 168, pos := "cell.go:26", after := #[{ on := 6, ground := Go.Ground.guard }], guard := some (6, true) }, { dst := some 11, op := Go.Op.convert 168 3 (Go.Operand.tmp 10), type := 3, pos := "cell.go:26", after := #[{ on := 7, ground := Go.Ground.data }, { on := 6, ground := Go.Ground.guard }], guard := some (6, true) }, { dst := some 12, op := Go.Op.convert 3 168 (Go.Operand.tmp 11), type := 168, pos := "cell.go:26", after := #[{ on := 8, ground := Go.Ground.data }, { on := 6, ground := Go.Ground.guard }], guard := some (6, true) }, { dst := some 13, op := Go.Op.move (Go.Operand.tmp 0), type := 168, pos := "cell.go:26", after := #[{ on := 6, ground := Go.Ground.guard }], guard := some (6, true) }, { dst := some 14, op := Go.Op.binOp .eql 168 (Go.Operand.tmp 12) (Go.Operand.tmp 13) 168, type := 4, pos := "cell.go:26", after := #[{ on := 9, ground := Go.Ground.data }, { on := 10, ground := Go.Ground.data }, { on := 6, ground := Go.Ground.guard }], guard := some (6, true) }, { dst := some 15, op := Go.Op.pick (Go.Operand.tmp 9) (Go.Operand.tmp 14) (Go.Operand.const (.bool false)), type := 4, pos := "cell.go:26", after := #[{ on := 6, ground := Go.Ground.data }, { on := 11, ground := Go.Ground.data }], guard := none }][8]) (fun w4 H5 =>
  (∃ i6 : Int, (must (
  w4 = .int .i64 i6) (
  (rawV Tryz.prog m H5 (Go.execOp (actV [SV.c (Sc.v v0), SV.t [], SV.c (Sc.i .i64 0), SV.c (Sc.v v0), SV.c (Sc.b e1), SV.c Sc.tt, SV.c (Sc.v v0), SV.c (Sc.b e3), SV.c (Sc.b e3), SV.c Sc.tt, SV.c (Sc.v v0), SV.c (Sc.i .i64 i6), SV.t [], SV.t [], SV.t [], SV.t [], SV.t [], SV.t []]) #[{ dst := some 3, op := Go.Op.move (Go.Operand.tmp 0), type := 168, pos := "cell.go:26", after := #[], guard := none }, { dst := some 4, op := Go.Op.binOp .geq 168 (Go.Operand.tmp 3) (Go.Operand.const (.float Go.FloatKind.f64 0)) 168, type := 4, pos := "cell.go:26", after := #[{ on := 0, ground := Go.Ground.data }], guard := none }, { dst := some 5, op := Go.Op.move (Go.Operand.tmp 4), type := 4, pos := "cell.go:26", after := #[{ on := 1, ground := Go.Ground.data }], guard := none }, { dst := some 6, op := Go.Op.move (Go.Operand.tmp 0), type := 168, pos := "cell.go:26", after := #[{ on := 2, ground := Go.Ground.guard }], guard := some (2, true) }, { dst := some 7, op := Go.Op.binOp .leq 168 (Go.Operand.tmp 6) (Go.Operand.const (.float Go.FloatKind.f64 4679239875398991872)) 168, type := 4, pos := "cell.go:26", after := #[{ on := 3, ground := Go.Ground.data }, { on := 2, ground := Go.Ground.guard }], guard := some (2, true) }, { dst := some 8, op := Go.Op.pick (Go.Operand.tmp 5) (Go.Operand.tmp 7) (Go.Operand.const (.bool false)), type := 4, pos := "cell.go:26", after := #[{ on := 2, ground := Go.Ground.data }, { on := 4, ground := Go.Ground.data }], guard := none }, { dst := some 9, op := Go.Op.move (Go.Operand.tmp 8), type := 4, pos := "cell.go:26", after := #[{ on := 5, ground := Go.Ground.data }, { on := 2, ground := Go.Ground.chain }], guard := none }, { dst := some 10, op := Go.Op.move (Go.Operand.tmp 0), type := 168, pos := "cell.go:26", after := #[{ on := 6, ground := Go.Ground.guard }], guard := some (6, true) }, { dst := some 11, op := Go.Op.convert 168 3 (Go.Operand.tmp 10), type := 3, pos := "cell.go:26", after := #[{ on := 7, ground := Go.Ground.data }, { on := 6, ground := Go.Ground.guard }], guard := some (6, true) }, { dst := some 12, op := Go.Op.convert 3 168 (Go.Operand.tmp 11), type := 168, pos := "cell.go:26", after := #[{ on := 8, ground := Go.Ground.data }, { on := 6, ground := Go.Ground.guard }], guard := some (6, true) }, { dst := some 13, op := Go.Op.move (Go.Operand.tmp 0), type := 168, pos := "cell.go:26", after := #[{ on := 6, ground := Go.Ground.guard }], guard := some (6, true) }, { dst := some 14, op := Go.Op.binOp .eql 168 (Go.Operand.tmp 12) (Go.Operand.tmp 13) 168, type := 4, pos := "cell.go:26", after := #[{ on := 9, ground := Go.Ground.data }, { on := 10, ground := Go.Ground.data }, { on := 6, ground := Go.Ground.guard }], guard := some (6, true) }, { dst := some 15, op := Go.Op.pick (Go.Operand.tmp 9) (Go.Operand.tmp 14) (Go.Operand.const (.bool false)), type := 4, pos := "cell.go:26", after := #[{ on := 6, ground := Go.Ground.data }, { on := 11, ground := Go.Ground.data }], guard := none }][9]) (fun w7 H8 =>
  (∃ w9 : Value, (must (
  w7 = w9) (
  (rawP Tryz.prog (Go.execOp (actV [SV.c (Sc.v v0), SV.t [], SV.c (Sc.i .i64 0), SV.c (Sc.v v0), SV.c (Sc.b e1), SV.c Sc.tt, SV.c (Sc.v v0), SV.c (Sc.b e3), SV.c (Sc.b e3), SV.c Sc.tt, SV.c (Sc.v v0), SV.c (Sc.i .i64 i6), SV.c (Sc.v w9), SV.c (Sc.v v0), SV.t [], SV.t [], SV.t [], SV.t []]) #[{ dst := some 3, op := Go.Op.move (Go.Operand.tmp 0), type := 168, pos := "cell.go:26", after := #[], guard := none }, { dst := some 4, op := Go.Op.binOp .geq 168 (Go.Operand.tmp 3) (Go.Operand.const (.float Go.FloatKind.f64 0)) 168, type := 4, pos := "cell.go:26", after := #[{ on := 0, ground := Go.Ground.data }], guard := none }, { dst := some 5, op := Go.Op.move (Go.Operand.tmp 4), type := 4, pos := "cell.go:26", after := #[{ on := 1, ground := Go.Ground.data }], guard := none }, { dst := some 6, op := Go.Op.move (Go.Operand.tmp 0), type := 168, pos := "cell.go:26", after := #[{ on := 2, ground := Go.Ground.guard }], guard := some (2, true) }, { dst := some 7, op := Go.Op.binOp .leq 168 (Go.Operand.tmp 6) (Go.Operand.const (.float Go.FloatKind.f64 4679239875398991872)) 168, type := 4, pos := "cell.go:26", after := #[{ on := 3, ground := Go.Ground.data }, { on := 2, ground := Go.Ground.guard }], guard := some (2, true) }, { dst := some 8, op := Go.Op.pick (Go.Operand.tmp 5) (Go.Operand.tmp 7) (Go.Operand.const (.bool false)), type := 4, pos := "cell.go:26", after := #[{ on := 2, ground := Go.Ground.data }, { on := 4, ground := Go.Ground.data }], guard := none }, { dst := some 9, op := Go.Op.move (Go.Operand.tmp 8), type := 4, pos := "cell.go:26", after := #[{ on := 5, ground := Go.Ground.data }, { on := 2, ground := Go.Ground.chain }], guard := none }, { dst := some 10, op := Go.Op.move (Go.Operand.tmp 0), type := 168, pos := "cell.go:26", after := #[{ on := 6, ground := Go.Ground.guard }], guard := some (6, true) }, { dst := some 11, op := Go.Op.convert 168 3 (Go.Operand.tmp 10), type := 3, pos := "cell.go:26", after := #[{ on := 7, ground := Go.Ground.data }, { on := 6, ground := Go.Ground.guard }], guard := some (6, true) }, { dst := some 12, op := Go.Op.convert 3 168 (Go.Operand.tmp 11), type := 168, pos := "cell.go:26", after := #[{ on := 8, ground := Go.Ground.data }, { on := 6, ground := Go.Ground.guard }], guard := some (6, true) }, { dst := some 13, op := Go.Op.move (Go.Operand.tmp 0), type := 168, pos := "cell.go:26", after := #[{ on := 6, ground := Go.Ground.guard }], guard := some (6, true) }, { dst := some 14, op := Go.Op.binOp .eql 168 (Go.Operand.tmp 12) (Go.Operand.tmp 13) 168, type := 4, pos := "cell.go:26", after := #[{ on := 9, ground := Go.Ground.data }, { on := 10, ground := Go.Ground.data }, { on := 6, ground := Go.Ground.guard }], guard := some (6, true) }, { dst := some 15, op := Go.Op.pick (Go.Operand.tmp 9) (Go.Operand.tmp 14) (Go.Operand.const (.bool false)), type := 4, pos := "cell.go:26", after := #[{ on := 6, ground := Go.Ground.data }, { on := 11, ground := Go.Ground.data }], guard := none }][11]) (fun w10 =>
  (∃ e11 : Bool, (must (
  w10 = .bool e11) (
  (br e11 (
  (rawV Tryz.prog m H8 (Go.execOp (actV [SV.c (Sc.v v0), SV.t [], SV.c (Sc.i .i64 0), SV.c (Sc.v v0), SV.c (Sc.b e1), SV.c Sc.tt, SV.c (Sc.v v0), SV.c (Sc.b e3), SV.c (Sc.b e3), SV.c Sc.tt, SV.c (Sc.v v0), SV.c (Sc.i .i64 i6), SV.c (Sc.v w9), SV.c (Sc.v v0), SV.c (Sc.b e11), SV.c Sc.tt, SV.c (Sc.v v0), SV.t []]) #[{ dst := some 16, op := Go.Op.move (Go.Operand.tmp 0), type := 168, pos := "cell.go:27", after := #[], guard := none }, { dst := some 17, op := Go.Op.convert 168 3 (Go.Operand.tmp 16), type := 3, pos := "cell.go:27", after := #[{ on := 0, ground := Go.Ground.data }], guard := none }, { dst := some 2, op := Go.Op.assign (Go.Operand.tmp 17), type := 3, pos := "cell.go:27", after := #[{ on := 1, ground := Go.Ground.data }, { on := 0, ground := Go.Ground.phase }, { on := 1, ground := Go.Ground.phase }], guard := none }][1]) (fun w12 H13 =>
  (∃ i14 : Int, (must (
  w12 = .int .i64 i14) (
  (K (.int .i64 i14) H13))))))) (
  (K (.int .i64 (-1)) H8))))))))))))))))))) (
  (K (.int .i64 (-1)) H))))))))) (
  (K (.int .i64 (-1)) H))))))))
theorem W128 (m : Amb) (v0 : Value) (H : Hp) (K : Value → Hp → Prop) : funcW Tryz.prog m [] Tryz.f128 [.c (.v v0)] H K = t128 m v0 H K := by kernel_rfl
theorem S128 {m : Amb} {v0 : Value} {H : Hp} {K : Value → Hp → Prop} (h : t128 m v0 H K) : CallsH Tryz.prog m 128 [v0] H K :=
  callsH_of_W (args := [.c (.v v0)]) mixed Tryz.func128 ((W128 m v0 H K).mpr h)

/-- (switchyard/soc.Soc).Epoch -/
def t144 (m : Amb) (p0 : Option Addr) (x1 : Int) (H : Hp) (K : Value → Hp → Prop) : Prop :=
  (br p0.isNone (
  (K (.tuple #[.int .i64 0, .int .i64 1]) H)) (
  (nn p0 (fun a0 =>
  (ldP H (a0.add 6) (fun r1 =>
  (cl Tryz.prog m 70 ([.pointer r1, .int .i64 x1]) H (fun w2 H3 =>
  (∃ i4 : Int, (∃ i5 : Int, (must (
  w2 = .tuple #[.int .i64 i4, .int .i64 i5]) (
  (K (.tuple #[.int .i64 i4, .int .i64 i5]) H3)))))))))))))
theorem W144 (m : Amb) (p0 : Option Addr) (x1 : Int) (H : Hp) (K : Value → Hp → Prop) : funcW Tryz.prog m [] Tryz.f144 [.c (.p p0), .c (.i .i64 x1)] H K = t144 m p0 x1 H K := by kernel_rfl
theorem S144 {m : Amb} {p0 : Option Addr} {x1 : Int} {H : Hp} {K : Value → Hp → Prop} (h : t144 m p0 x1 H K) : CallsH Tryz.prog m 144 [.pointer p0, .int .i64 x1] H K :=
  callsH_of_W (args := [.c (.p p0), .c (.i .i64 x1)]) mixed Tryz.func144 ((W144 m p0 x1 H K).mpr h)

/-- (switchyard/port.Core).Epoch -/
def t146 (m : Amb) (p0 : Option Addr) (x1 : Int) (H : Hp) (K : Value → Hp → Prop) : Prop :=
  (cl Tryz.prog m 151 ([.pointer p0, .int .i64 4, .int .i64 x1, .int .i64 0]) H (fun w0 H1 =>
  (∃ i2 : Int, (must (
  w0 = .int .i64 i2) (
  (K (.int .i64 i2) H1))))))
theorem W146 (m : Amb) (p0 : Option Addr) (x1 : Int) (H : Hp) (K : Value → Hp → Prop) : funcW Tryz.prog m [] Tryz.f146 [.c (.p p0), .c (.i .i64 x1)] H K = t146 m p0 x1 H K := by kernel_rfl
theorem S146 {m : Amb} {p0 : Option Addr} {x1 : Int} {H : Hp} {K : Value → Hp → Prop} (h : t146 m p0 x1 H K) : CallsH Tryz.prog m 146 [.pointer p0, .int .i64 x1] H K :=
  callsH_of_W (args := [.c (.p p0), .c (.i .i64 x1)]) mixed Tryz.func146 ((W146 m p0 x1 H K).mpr h)

/-- (switchyard/port.Core).Fence -/
def t147 (m : Amb) (p0 : Option Addr) (H : Hp) (K : Value → Hp → Prop) : Prop :=
  (br (!p0.isNone) (
  (nn p0 (fun a0 =>
  (ldP H (a0.add 0) (fun r1 =>
  (nn p0 (fun a2 =>
  (ldI .i64 H (a2.add 1) (fun i3 =>
  (cl Tryz.prog m 11 ([.pointer r1, .int .i64 i3]) H (fun w4 H5 =>
  (∃ i6 : Int, (∃ i7 : Int, (must (
  w4 = .tuple #[.int .i64 i6, .int .i64 i7]) (
  (K (.tuple #[]) H5)))))))))))))))) (
  (K (.tuple #[]) H)))
theorem W147 (m : Amb) (p0 : Option Addr) (H : Hp) (K : Value → Hp → Prop) : funcW Tryz.prog m [] Tryz.f147 [.c (.p p0)] H K = t147 m p0 H K := by kernel_rfl
theorem S147 {m : Amb} {p0 : Option Addr} {H : Hp} {K : Value → Hp → Prop} (h : t147 m p0 H K) : CallsH Tryz.prog m 147 [.pointer p0] H K :=
  callsH_of_W (args := [.c (.p p0)]) mixed Tryz.func147 ((W147 m p0 H K).mpr h)

/-- (switchyard/port.Core).Kick -/
def t148 (m : Amb) (p0 : Option Addr) (x1 : Int) (H : Hp) (K : Value → Hp → Prop) : Prop :=
  (cl Tryz.prog m 152 ([.pointer p0, .int .i64 2, .int .i64 x1, .int .i64 2]) H (fun w0 H1 =>
  (∃ i2 : Int, (∃ e3 : Bool, (must (
  w0 = .tuple #[.int .i64 i2, .bool e3]) (
  (br e3 (
  (nn p0 (fun a4 =>
  (ldP H1 (a4.add 0) (fun r5 =>
  (nn p0 (fun a6 =>
  (ldI .i64 H1 (a6.add 1) (fun i7 =>
  (nn p0 (fun a8 =>
  (ldI .i64 H1 (a8.add 1) (fun i9 =>
  (cl Tryz.prog m 10 ([.pointer r5, .int .i64 i7, .int .i64 i2, .int .i64 i9]) H1 (fun w10 H11 =>
  (∃ i12 : Int, (must (
  w10 = .int .i64 i12) (
  (K (.tuple #[]) H11))))))))))))))))))) (
  (K (.tuple #[]) H1)))))))))
theorem W148 (m : Amb) (p0 : Option Addr) (x1 : Int) (H : Hp) (K : Value → Hp → Prop) : funcW Tryz.prog m [] Tryz.f148 [.c (.p p0), .c (.i .i64 x1)] H K = t148 m p0 x1 H K := by kernel_rfl
theorem S148 {m : Amb} {p0 : Option Addr} {x1 : Int} {H : Hp} {K : Value → Hp → Prop} (h : t148 m p0 x1 H K) : CallsH Tryz.prog m 148 [.pointer p0, .int .i64 x1] H K :=
  callsH_of_W (args := [.c (.p p0), .c (.i .i64 x1)]) mixed Tryz.func148 ((W148 m p0 x1 H K).mpr h)

/-- (switchyard/port.Core).Load -/
def t149 (m : Amb) (p0 : Option Addr) (x1 : Int) (H : Hp) (K : Value → Hp → Prop) : Prop :=
  (cl Tryz.prog m 151 ([.pointer p0, .int .i64 1, .int .i64 0, .int .i64 x1]) H (fun w0 H1 =>
  (∃ i2 : Int, (must (
  w0 = .int .i64 i2) (
  (K (.int .i64 i2) H1))))))
theorem W149 (m : Amb) (p0 : Option Addr) (x1 : Int) (H : Hp) (K : Value → Hp → Prop) : funcW Tryz.prog m [] Tryz.f149 [.c (.p p0), .c (.i .i64 x1)] H K = t149 m p0 x1 H K := by kernel_rfl
theorem S149 {m : Amb} {p0 : Option Addr} {x1 : Int} {H : Hp} {K : Value → Hp → Prop} (h : t149 m p0 x1 H K) : CallsH Tryz.prog m 149 [.pointer p0, .int .i64 x1] H K :=
  callsH_of_W (args := [.c (.p p0), .c (.i .i64 x1)]) mixed Tryz.func149 ((W149 m p0 x1 H K).mpr h)

/-- (switchyard/port.Core).Store -/
def t150 (m : Amb) (p0 : Option Addr) (x1 : Int) (x2 : Int) (H : Hp) (K : Value → Hp → Prop) : Prop :=
  (cl Tryz.prog m 152 ([.pointer p0, .int .i64 1, .int .i64 0, .int .i64 x1]) H (fun w0 H1 =>
  (∃ i2 : Int, (∃ e3 : Bool, (must (
  w0 = .tuple #[.int .i64 i2, .bool e3]) (
  (br e3 (
  (nn p0 (fun a4 =>
  (ldP H1 (a4.add 0) (fun r5 =>
  (nn p0 (fun a6 =>
  (ldI .i64 H1 (a6.add 1) (fun i7 =>
  (cl Tryz.prog m 10 ([.pointer r5, .int .i64 i7, .int .i64 x1, .int .i64 x2]) H1 (fun w8 H9 =>
  (∃ i10 : Int, (must (
  w8 = .int .i64 i10) (
  (K (.tuple #[]) H9))))))))))))))) (
  (K (.tuple #[]) H1)))))))))
theorem W150 (m : Amb) (p0 : Option Addr) (x1 : Int) (x2 : Int) (H : Hp) (K : Value → Hp → Prop) : funcW Tryz.prog m [] Tryz.f150 [.c (.p p0), .c (.i .i64 x1), .c (.i .i64 x2)] H K = t150 m p0 x1 x2 H K := by kernel_rfl
theorem S150 {m : Amb} {p0 : Option Addr} {x1 : Int} {x2 : Int} {H : Hp} {K : Value → Hp → Prop} (h : t150 m p0 x1 x2 H K) : CallsH Tryz.prog m 150 [.pointer p0, .int .i64 x1, .int .i64 x2] H K :=
  callsH_of_W (args := [.c (.p p0), .c (.i .i64 x1), .c (.i .i64 x2)]) mixed Tryz.func150 ((W150 m p0 x1 x2 H K).mpr h)

/-- (switchyard/port.Core).read -/
def t151 (m : Amb) (p0 : Option Addr) (x1 : Int) (x2 : Int) (x3 : Int) (H : Hp) (K : Value → Hp → Prop) : Prop :=
  (cl Tryz.prog m 152 ([.pointer p0, .int .i64 x1, .int .i64 x2, .int .i64 x3]) H (fun w0 H1 =>
  (∃ i2 : Int, (∃ e3 : Bool, (must (
  w0 = .tuple #[.int .i64 i2, .bool e3]) (
  (br (!e3) (
  (K (.int .i64 0) H1)) (
  (nn p0 (fun a4 =>
  (ldP H1 (a4.add 0) (fun r5 =>
  (nn p0 (fun a6 =>
  (ldI .i64 H1 (a6.add 1) (fun i7 =>
  (cl Tryz.prog m 9 ([.pointer r5, .int .i64 i7, .int .i64 i2]) H1 (fun w8 H9 =>
  (∃ i10 : Int, (∃ i11 : Int, (must (
  w8 = .tuple #[.int .i64 i10, .int .i64 i11]) (
  (K (.int .i64 i10) H9)))))))))))))))))))))))
theorem W151 (m : Amb) (p0 : Option Addr) (x1 : Int) (x2 : Int) (x3 : Int) (H : Hp) (K : Value → Hp → Prop) : funcW Tryz.prog m [] Tryz.f151 [.c (.p p0), .c (.i .i64 x1), .c (.i .i64 x2), .c (.i .i64 x3)] H K = t151 m p0 x1 x2 x3 H K := by kernel_rfl
theorem S151 {m : Amb} {p0 : Option Addr} {x1 : Int} {x2 : Int} {x3 : Int} {H : Hp} {K : Value → Hp → Prop} (h : t151 m p0 x1 x2 x3 H K) : CallsH Tryz.prog m 151 [.pointer p0, .int .i64 x1, .int .i64 x2, .int .i64 x3] H K :=
  callsH_of_W (args := [.c (.p p0), .c (.i .i64 x1), .c (.i .i64 x2), .c (.i .i64 x3)]) mixed Tryz.func151 ((W151 m p0 x1 x2 x3 H K).mpr h)

/-- (switchyard/port.Core).spot -/
def t152 (m : Amb) (p0 : Option Addr) (x1 : Int) (x2 : Int) (x3 : Int) (H : Hp) (K : Value → Hp → Prop) : Prop :=
  (br p0.isNone (
  (K (.tuple #[.int .i64 0, .bool false]) H)) (
  (nn p0 (fun a0 =>
  (ldP H (a0.add 0) (fun r1 =>
  (cl Tryz.prog m 153 ([.pointer r1]) H (fun w2 H3 =>
  (∃ i4 : Int, (∃ i5 : Int, (∃ i6 : Int, (must (
  w2 = .agg #[.int .i64 i4, .int .i64 i5, .int .i64 i6]) (
  (cl Tryz.prog m 110 ([.agg #[.int .i64 i4, .int .i64 i5, .int .i64 i6], .agg #[.int .i64 x1, .int .i64 x2, .int .i64 x3]]) H3 (fun w7 H8 =>
  (∃ i9 : Int, (∃ e10 : Bool, (must (
  w7 = .tuple #[.int .i64 i9, .bool e10]) (
  (K (.tuple #[.int .i64 i9, .bool e10]) H8))))))))))))))))))))
theorem W152 (m : Amb) (p0 : Option Addr) (x1 : Int) (x2 : Int) (x3 : Int) (H : Hp) (K : Value → Hp → Prop) : funcW Tryz.prog m [] Tryz.f152 [.c (.p p0), .c (.i .i64 x1), .c (.i .i64 x2), .c (.i .i64 x3)] H K = t152 m p0 x1 x2 x3 H K := by kernel_rfl
theorem S152 {m : Amb} {p0 : Option Addr} {x1 : Int} {x2 : Int} {x3 : Int} {H : Hp} {K : Value → Hp → Prop} (h : t152 m p0 x1 x2 x3 H K) : CallsH Tryz.prog m 152 [.pointer p0, .int .i64 x1, .int .i64 x2, .int .i64 x3] H K :=
  callsH_of_W (args := [.c (.p p0), .c (.i .i64 x1), .c (.i .i64 x2), .c (.i .i64 x3)]) mixed Tryz.func152 ((W152 m p0 x1 x2 x3 H K).mpr h)

/-- (switchyard/soc.Soc).Plan -/
def t153 (m : Amb) (p0 : Option Addr) (H : Hp) (K : Value → Hp → Prop) : Prop :=
  (nw H (zc Tryz.prog 23) 23 (fun a0 H1 =>
  (br p0.isNone (
  (st H1 (a0.add 0) (.int .i64 0) (fun H2 =>
  (st H2 (a0.add 1) (.int .i64 0) (fun H3 =>
  (st H3 (a0.add 2) (.int .i64 0) (fun H4 =>
  (ldI .i64 H4 (a0.add 0) (fun i5 =>
  (ldI .i64 H4 (a0.add 1) (fun i6 =>
  (ldI .i64 H4 (a0.add 2) (fun i7 =>
  (K (.agg #[.int .i64 i5, .int .i64 i6, .int .i64 i7]) H4)))))))))))))) (
  (nn p0 (fun a8 =>
  (ldI .i64 H1 ((a8.add 0).add 0) (fun i9 =>
  (ldI .i64 H1 ((a8.add 0).add 1) (fun i10 =>
  (ldI .i64 H1 ((a8.add 0).add 2) (fun i11 =>
  (st H1 (a0.add 0) (.int .i64 i9) (fun H12 =>
  (st H12 (a0.add 1) (.int .i64 i10) (fun H13 =>
  (st H13 (a0.add 2) (.int .i64 i11) (fun H14 =>
  (ldI .i64 H14 (a0.add 0) (fun i15 =>
  (ldI .i64 H14 (a0.add 1) (fun i16 =>
  (ldI .i64 H14 (a0.add 2) (fun i17 =>
  (K (.agg #[.int .i64 i15, .int .i64 i16, .int .i64 i17]) H14)))))))))))))))))))))))))
theorem W153 (m : Amb) (p0 : Option Addr) (H : Hp) (K : Value → Hp → Prop) : funcW Tryz.prog m [] Tryz.f153 [.c (.p p0)] H K = t153 m p0 H K := by kernel_rfl
theorem S153 {m : Amb} {p0 : Option Addr} {H : Hp} {K : Value → Hp → Prop} (h : t153 m p0 H K) : CallsH Tryz.prog m 153 [.pointer p0] H K :=
  callsH_of_W (args := [.c (.p p0)]) mixed Tryz.func153 ((W153 m p0 H K).mpr h)

/-- (switchyard/port.Plain).Epoch -/
def t156 (m : Amb) (p0 : Option Addr) (x1 : Int) (H : Hp) (K : Value → Hp → Prop) : Prop :=
  (br p0.isNone (
  (K (.int .i64 0) H)) (
  (nn p0 (fun a0 =>
  (ldS H (a0.add 1) (fun r1 l2 l3 =>
  (cl Tryz.prog m 51 ([.slice r1 l2 l3, .int .i64 x1]) H (fun w4 H5 =>
  (∃ e6 : Bool, (must (
  w4 = .bool e6) (
  (br (!e6) (
  (K (.int .i64 0) H5)) (
  (nn p0 (fun a7 =>
  (ldS H5 (a7.add 1) (fun r8 l9 l10 =>
  (ixS r8 x1 l9 (fun a11 =>
  (ldI .i64 H5 (a11.add (x1.toNat * 1)) (fun i12 =>
  (K (.int .i64 i12) H5))))))))))))))))))))))
theorem W156 (m : Amb) (p0 : Option Addr) (x1 : Int) (H : Hp) (K : Value → Hp → Prop) : funcW Tryz.prog m [] Tryz.f156 [.c (.p p0), .c (.i .i64 x1)] H K = t156 m p0 x1 H K := by kernel_rfl
theorem S156 {m : Amb} {p0 : Option Addr} {x1 : Int} {H : Hp} {K : Value → Hp → Prop} (h : t156 m p0 x1 H K) : CallsH Tryz.prog m 156 [.pointer p0, .int .i64 x1] H K :=
  callsH_of_W (args := [.c (.p p0), .c (.i .i64 x1)]) mixed Tryz.func156 ((W156 m p0 x1 H K).mpr h)

/-- (switchyard/port.Plain).Fence -/
def t157 (m : Amb) (p0 : Option Addr) (H : Hp) (K : Value → Hp → Prop) : Prop :=
  (K (.tuple #[]) H)
theorem W157 (m : Amb) (p0 : Option Addr) (H : Hp) (K : Value → Hp → Prop) : funcW Tryz.prog m [] Tryz.f157 [.c (.p p0)] H K = t157 m p0 H K := by kernel_rfl
theorem S157 {m : Amb} {p0 : Option Addr} {H : Hp} {K : Value → Hp → Prop} (h : t157 m p0 H K) : CallsH Tryz.prog m 157 [.pointer p0] H K :=
  callsH_of_W (args := [.c (.p p0)]) mixed Tryz.func157 ((W157 m p0 H K).mpr h)

/-- (switchyard/port.Plain).Kick -/
def t158 (m : Amb) (p0 : Option Addr) (x1 : Int) (H : Hp) (K : Value → Hp → Prop) : Prop :=
  (br (!p0.isNone) (
  (nn p0 (fun a0 =>
  (ldS H (a0.add 2) (fun r1 l2 l3 =>
  (nw H ([.int .i64 x1]) 3 (fun a4 H5 =>
  (rd H5 (some a4) 1 (fun cs6 =>
  (ap Tryz.prog 3 1 8 H5 r1 l2 l3 cs6 1 (fun r7 l8 l9 H10 =>
  (nn p0 (fun a11 =>
  (st H10 (a11.add 2) (.slice r7 l8 l9) (fun H12 =>
  (K (.tuple #[]) H12)))))))))))))))) (
  (K (.tuple #[]) H)))
theorem W158 (m : Amb) (p0 : Option Addr) (x1 : Int) (H : Hp) (K : Value → Hp → Prop) : funcW Tryz.prog m [] Tryz.f158 [.c (.p p0), .c (.i .i64 x1)] H K = t158 m p0 x1 H K := by kernel_rfl
theorem S158 {m : Amb} {p0 : Option Addr} {x1 : Int} {H : Hp} {K : Value → Hp → Prop} (h : t158 m p0 x1 H K) : CallsH Tryz.prog m 158 [.pointer p0, .int .i64 x1] H K :=
  callsH_of_W (args := [.c (.p p0), .c (.i .i64 x1)]) mixed Tryz.func158 ((W158 m p0 x1 H K).mpr h)

end Go.Proofs.YtoddfageecbkcaaGreat
