/-
  SHALLOW TEXTS: of each Go function named below: what its code asks of its continuation, as the engine reckons it (written by a program of ours; each is checked by the kernel against the code).
-/
import Derived.Test.YtdipbhbhakmaiaaDoorH
import Derived.Test.YtdipbhbhakmaiaaDoorProg
namespace Go.Proofs.YtdipbhbhakmaiaaDoor
open Go Go.Eng
set_option maxRecDepth 100000
set_option linter.unusedVariables false

theorem mixed : Tryd.prog.follows .mixedOrders = true := by kernel_rfl

/-- switchyard/switchyardlaw17.TakerNobody -/
def t3 (m : Amb) (x0 : Int) (H : Hp) (K : Value → Hp → Prop) : Prop :=
  (cl Tryd.prog m 7 ([.slice none 0 0, .slice none 0 0]) H (fun w0 H1 =>
  (∃ r2 : Option Addr, (must (
  w0 = .pointer r2) (
  (cl Tryd.prog m 6 ([.pointer none, .iface 26 (.pointer r2)]) H1 (fun w3 H4 =>
  (∃ e5 : Bool, (∃ i6 : Int, (must (
  w3 = .tuple #[.bool e5, .int .i64 i6]) (
  (cl Tryd.prog m 8 ([.pointer none]) H4 (fun w7 H8 =>
  (∃ r9 : Option Addr, (∃ l10 : Nat, (∃ l11 : Nat, (∃ i12 : Int, (must (
  w7 = .tuple #[.slice r9 l10 l11, .int .i64 i12]) (
  (cl Tryd.prog m 9 ([.pointer none, .int .i64 x0]) H8 (fun w13 H14 =>
  (∃ i15 : Int, (∃ e16 : Bool, (must (
  w13 = .tuple #[.int .i64 i15, .bool e16]) (
  (cl Tryd.prog m 10 ([.pointer none]) H14 (fun w17 H18 =>
  (∃ i19 : Int, (must (
  w17 = .int .i64 i19) (
  (br (i19 == 1) (
  (cl Tryd.prog m 11 ([.pointer none, .int .i64 x0]) H18 (fun w20 H21 =>
  (∃ i22 : Int, (must (
  w20 = .int .i64 i22) (
  (br (i22 == 1) (
  (br e5 (
  (br (i6 == 1) (
  (br ((l10 : Int) == 0) (
  (br (i12 == 0) (
  (br (i15 == 0) (
  (br (!e16) (
  (cl Tryd.prog m 12 ([.pointer none]) H21 (fun w23 H24 =>
  (∃ e25 : Bool, (must (
  w23 = .bool e25) (
  (br (!e25) (
  (cl Tryd.prog m 13 ([.pointer none]) H24 (fun w26 H27 =>
  (∃ e28 : Bool, (must (
  w26 = .bool e28) (
  (br (!e28) (
  (cl Tryd.prog m 14 ([.pointer none]) H27 (fun w29 H30 =>
  (∃ r31 : Option Addr, (∃ l32 : Nat, (∃ l33 : Nat, (must (
  w29 = .slice r31 l32 l33) (
  (br ((l32 : Int) == 0) (
  (cl Tryd.prog m 15 ([.pointer none]) H30 (fun w34 H35 =>
  (∃ i36 : Int, (must (
  w34 = .int .i64 i36) (
  (br (i36 == 0) (
  (cl Tryd.prog m 16 ([]) H35 (fun w37 H38 =>
  (∃ e39 : Bool, (must (
  w37 = .bool e39) (
  (K (.bool e39) H38))))))) (
  (K (.bool false) H35))))))))) (
  (K (.bool false) H30))))))))))) (
  (K (.bool false) H27))))))))) (
  (K (.bool false) H24))))))))) (
  (K (.bool false) H21)))) (
  (K (.bool false) H21)))) (
  (K (.bool false) H21)))) (
  (K (.bool false) H21)))) (
  (K (.bool false) H21)))) (
  (K (.bool false) H21)))) (
  (K (.bool false) H21))))))))) (
  (K (.bool false) H18)))))))))))))))))))))))))))))))))
theorem W3 (m : Amb) (x0 : Int) (H : Hp) (K : Value → Hp → Prop) : funcW Tryd.prog m [] Tryd.f3 [.c (.i .i64 x0)] H K = t3 m x0 H K := by kernel_rfl
theorem S3 {m : Amb} {x0 : Int} {H : Hp} {K : Value → Hp → Prop} (h : t3 m x0 H K) : CallsH Tryd.prog m 3 [.int .i64 x0] H K :=
  callsH_of_W (args := [.c (.i .i64 x0)]) mixed Tryd.func3 ((W3 m x0 H K).mpr h)

/-- (switchyard/taker.Taker).Step -/
def t6 (m : Amb) (p0 : Option Addr) (v1 : Value) (H : Hp) (K : Value → Hp → Prop) : Prop :=
  (br p0.isNone (
  (K (.tuple #[.bool true, .int .i64 1]) H)) (
  (nn p0 (fun a0 =>
  (ldI .i64 H (a0.add 10) (fun i1 =>
  (br (i1 == 0) (
  (K (.tuple #[.bool true, .int .i64 13]) H)) (
  (cl Tryd.prog m 39 ([.pointer p0, v1]) H (fun w2 H3 =>
  (∃ i4 : Int, (must (
  w2 = .int .i64 i4) (
  (nn p0 (fun a5 =>
  (ldI .i64 H3 (a5.add 10) (fun i6 =>
  (br (i6 == 1) (
  (cl Tryd.prog m 40 ([.pointer p0, .int .i64 i4]) H3 (fun w7 H8 =>
  (∃ i9 : Int, (must (
  w7 = .int .i64 i9) (
  (nn p0 (fun a10 =>
  (st H8 (a10.add 10) (.int .i64 i9) (fun H11 =>
  (K (.tuple #[.bool false, .int .i64 0]) H11))))))))))) (
  (br (i6 == 4) (
  (cl Tryd.prog m 41 ([.pointer p0]) H3 (fun w12 H13 =>
  (must (
  w12 = .tuple #[]) (
  (K (.tuple #[.bool true, .int .i64 8]) H13)))))) (
  (br (i6 == 5) (
  (cl Tryd.prog m 42 ([.pointer p0]) H3 (fun w14 H15 =>
  (∃ i16 : Int, (must (
  w14 = .int .i64 i16) (
  (br (i4 != i16) (
  (nn p0 (fun a17 =>
  (st H15 (a17.add 10) (.int .i64 0) (fun H18 =>
  (K (.tuple #[.bool true, .int .i64 9]) H18)))))) (
  (nn p0 (fun a19 =>
  (st H15 (a19.add 6) (.bool true) (fun H20 =>
  (nn p0 (fun a21 =>
  (st H20 (a21.add 10) (.int .i64 6) (fun H22 =>
  (K (.tuple #[.bool false, .int .i64 0]) H22))))))))))))))))) (
  (br (i6 == 6) (
  (cl Tryd.prog m 43 ([.pointer p0, .int .i64 i4]) H3 (fun w23 H24 =>
  (∃ i25 : Int, (must (
  w23 = .int .i64 i25) (
  (nn p0 (fun a26 =>
  (st H24 (a26.add 13) (.int .i64 i25) (fun H27 =>
  (nn p0 (fun a28 =>
  (ldI .i64 H27 (a28.add 13) (fun i29 =>
  (br (i29 != 0) (
  (nn p0 (fun a30 =>
  (st H27 (a30.add 10) (.int .i64 14) (fun H31 =>
  (K (.tuple #[.bool false, .int .i64 0]) H31)))))) (
  (nn p0 (fun a32 =>
  (st H27 (a32.add 10) (.int .i64 7) (fun H33 =>
  (K (.tuple #[.bool false, .int .i64 0]) H33))))))))))))))))))))) (
  (br (i6 == 7) (
  (nn p0 (fun a34 =>
  (ldI .i64 H3 ((a34.add 0).add 1) (fun i35 =>
  (br (decide (i4 ≥ i35)) (
  (nn p0 (fun a36 =>
  (st H3 (a36.add 13) (.int .i64 10) (fun H37 =>
  (nn p0 (fun a38 =>
  (st H37 (a38.add 10) (.int .i64 14) (fun H39 =>
  (K (.tuple #[.bool false, .int .i64 0]) H39)))))))))) (
  (nn p0 (fun a40 =>
  (ldP H3 (a40.add 9) (fun r41 =>
  (cl Tryd.prog m 45 ([.pointer r41]) H3 (fun w42 H43 =>
  (∃ r44 : Option Addr, (∃ l45 : Nat, (∃ l46 : Nat, (must (
  w42 = .slice r44 l45 l46) (
  (cl Tryd.prog m 44 ([.slice r44 l45 l46, .int .i64 i4]) H43 (fun w47 H48 =>
  (∃ e49 : Bool, (must (
  w47 = .bool e49) (
  (br e49 (
  (nn p0 (fun a50 =>
  (st H48 (a50.add 13) (.int .i64 10) (fun H51 =>
  (nn p0 (fun a52 =>
  (st H51 (a52.add 10) (.int .i64 14) (fun H53 =>
  (K (.tuple #[.bool false, .int .i64 0]) H53)))))))))) (
  (nn p0 (fun a54 =>
  (st H48 (a54.add 11) (.int .i64 i4) (fun H55 =>
  (nn p0 (fun a56 =>
  (st H55 (a56.add 10) (.int .i64 8) (fun H57 =>
  (K (.tuple #[.bool false, .int .i64 0]) H57)))))))))))))))))))))))))))))))))) (
  (br (i6 == 8) (
  (br (decide (i4 > 8)) (
  (nn p0 (fun a58 =>
  (st H3 (a58.add 13) (.int .i64 10) (fun H59 =>
  (nn p0 (fun a60 =>
  (st H59 (a60.add 10) (.int .i64 14) (fun H61 =>
  (K (.tuple #[.bool false, .int .i64 0]) H61)))))))))) (
  (nn p0 (fun a62 =>
  (st H3 (a62.add 12) (.int .i64 i4) (fun H63 =>
  (nn p0 (fun a64 =>
  (st H63 (a64.add 10) (.int .i64 9) (fun H65 =>
  (nn p0 (fun a66 =>
  (st H65 (a66.add 13) (.int .i64 0) (fun H67 =>
  (nn p0 (fun a68 =>
  (ldS H67 (a68.add 15) (fun r69 l70 l71 =>
  (nn p0 (fun a72 =>
  (ldI .i64 H67 (a72.add 12) (fun i73 =>
  (br (decide ((l70 : Int) < i73)) (
  (K (.tuple #[.bool false, .int .i64 0]) H67)) (
  (nn p0 (fun a74 =>
  (st H67 (a74.add 10) (.int .i64 14) (fun H75 =>
  (K (.tuple #[.bool false, .int .i64 0]) H75)))))))))))))))))))))))))))))) (
  (br (i6 == 9) (
  (nn p0 (fun a76 =>
  (ldS H3 (a76.add 15) (fun r77 l78 l79 =>
  (nw H3 ([.int .i64 i4]) 3 (fun a80 H81 =>
  (rd H81 (some a80) 1 (fun cs82 =>
  (ap Tryd.prog 3 1 8 H81 r77 l78 l79 cs82 1 (fun r83 l84 l85 H86 =>
  (nn p0 (fun a87 =>
  (st H86 (a87.add 15) (.slice r83 l84 l85) (fun H88 =>
  (nn p0 (fun a89 =>
  (st H88 (a89.add 13) (.int .i64 0) (fun H90 =>
  (nn p0 (fun a91 =>
  (ldS H90 (a91.add 15) (fun r92 l93 l94 =>
  (nn p0 (fun a95 =>
  (ldI .i64 H90 (a95.add 12) (fun i96 =>
  (br (decide ((l93 : Int) < i96)) (
  (K (.tuple #[.bool false, .int .i64 0]) H90)) (
  (nn p0 (fun a97 =>
  (st H90 (a97.add 10) (.int .i64 14) (fun H98 =>
  (K (.tuple #[.bool false, .int .i64 0]) H98)))))))))))))))))))))))))))))))))) (
  (br (i6 == 13) (
  (nn p0 (fun a99 =>
  (st H3 (a99.add 13) (.int .i64 0) (fun H100 =>
  (nn p0 (fun a101 =>
  (st H100 (a101.add 10) (.int .i64 14) (fun H102 =>
  (K (.tuple #[.bool false, .int .i64 0]) H102)))))))))) (
  (br (i6 == 14) (
  (cl Tryd.prog m 46 ([.pointer p0, .int .i64 i4]) H3 (fun w103 H104 =>
  (∃ i105 : Int, (must (
  w103 = .int .i64 i105) (
  (K (.tuple #[.bool true, .int .i64 i105]) H104))))))) (
  (nn p0 (fun a106 =>
  (ldI .i64 H3 (a106.add 10) (fun i107 =>
  (nn p0 (fun a108 =>
  (st H3 (a108.add 10) (.int .i64 (wr .i64 (i107 + 1))) (fun H109 =>
  (K (.tuple #[.bool false, .int .i64 0]) H109))))))))))))))))))))))))))))))))))))))))))))
theorem W6 (m : Amb) (p0 : Option Addr) (v1 : Value) (H : Hp) (K : Value → Hp → Prop) : funcW Tryd.prog m [] Tryd.f6 [.c (.p p0), .c (.v v1)] H K = t6 m p0 v1 H K := by kernel_rfl
theorem S6 {m : Amb} {p0 : Option Addr} {v1 : Value} {H : Hp} {K : Value → Hp → Prop} (h : t6 m p0 v1 H K) : CallsH Tryd.prog m 6 [.pointer p0, v1] H K :=
  callsH_of_W (args := [.c (.p p0), .c (.v v1)]) mixed Tryd.func6 ((W6 m p0 v1 H K).mpr h)

/-- switchyard/port.OfWords -/
def t7 (m : Amb) (q0 : Option Addr) (n0 : Nat) (c0 : Nat) (q1 : Option Addr) (n1 : Nat) (c1 : Nat) (H : Hp) (K : Value → Hp → Prop) : Prop :=
  (cl Tryd.prog m 47 ([.slice q0 n0 c0]) H (fun w0 H1 =>
  (∃ r2 : Option Addr, (∃ l3 : Nat, (∃ l4 : Nat, (must (
  w0 = .slice r2 l3 l4) (
  (cl Tryd.prog m 47 ([.slice q1 n1 c1]) H1 (fun w5 H6 =>
  (∃ r7 : Option Addr, (∃ l8 : Nat, (∃ l9 : Nat, (must (
  w5 = .slice r7 l8 l9) (
  (nw H6 ([.slice r2 l3 l4, .slice r7 l8 l9, .slice none 0 0]) 87 (fun a10 H11 =>
  (K (.pointer (some a10)) H11)))))))))))))))))
theorem W7 (m : Amb) (q0 : Option Addr) (n0 : Nat) (c0 : Nat) (q1 : Option Addr) (n1 : Nat) (c1 : Nat) (H : Hp) (K : Value → Hp → Prop) : funcW Tryd.prog m [] Tryd.f7 [.c (.sl q0 n0 c0), .c (.sl q1 n1 c1)] H K = t7 m q0 n0 c0 q1 n1 c1 H K := by kernel_rfl
theorem S7 {m : Amb} {q0 : Option Addr} {n0 : Nat} {c0 : Nat} {q1 : Option Addr} {n1 : Nat} {c1 : Nat} {H : Hp} {K : Value → Hp → Prop} (h : t7 m q0 n0 c0 q1 n1 c1 H K) : CallsH Tryd.prog m 7 [.slice q0 n0 c0, .slice q1 n1 c1] H K :=
  callsH_of_W (args := [.c (.sl q0 n0 c0), .c (.sl q1 n1 c1)]) mixed Tryd.func7 ((W7 m q0 n0 c0 q1 n1 c1 H K).mpr h)

/-- (switchyard/taker.Taker).Got -/
def t8 (m : Amb) (p0 : Option Addr) (H : Hp) (K : Value → Hp → Prop) : Prop :=
  (cl Tryd.prog m 48 ([.pointer p0]) H (fun w0 H1 =>
  (∃ e2 : Bool, (must (
  w0 = .bool e2) (
  (br (!e2) (
  (K (.tuple #[.slice none 0 0, .int .i64 0]) H1)) (
  (nn p0 (fun a3 =>
  (ldS H1 (a3.add 15) (fun r4 l5 l6 =>
  (nn p0 (fun a7 =>
  (ldI .i64 H1 (a7.add 16) (fun i8 =>
  (cl Tryd.prog m 49 ([.slice r4 l5 l6]) H1 (fun w9 H10 =>
  (∃ r11 : Option Addr, (∃ l12 : Nat, (∃ l13 : Nat, (must (
  w9 = .slice r11 l12 l13) (
  (must (
  (cont H10 (a7.add 16) (.int .i64 i8))) (
  (K (.tuple #[.slice r11 l12 l13, .int .i64 i8]) H10)))))))))))))))))))))))))
theorem W8 (m : Amb) (p0 : Option Addr) (H : Hp) (K : Value → Hp → Prop) : funcW Tryd.prog m [] Tryd.f8 [.c (.p p0)] H K = t8 m p0 H K := by kernel_rfl
theorem S8 {m : Amb} {p0 : Option Addr} {H : Hp} {K : Value → Hp → Prop} (h : t8 m p0 H K) : CallsH Tryd.prog m 8 [.pointer p0] H K :=
  callsH_of_W (args := [.c (.p p0)]) mixed Tryd.func8 ((W8 m p0 H K).mpr h)

/-- (switchyard/taker.Taker).Slot -/
def t9 (m : Amb) (p0 : Option Addr) (x1 : Int) (H : Hp) (K : Value → Hp → Prop) : Prop :=
  (br p0.isNone (
  (K (.tuple #[.int .i64 0, .bool false]) H)) (
  (nn p0 (fun a0 =>
  (ldP H (a0.add 9) (fun r1 =>
  (cl Tryd.prog m 50 ([.pointer r1, .int .i64 x1]) H (fun w2 H3 =>
  (∃ i4 : Int, (∃ e5 : Bool, (must (
  w2 = .tuple #[.int .i64 i4, .bool e5]) (
  (K (.tuple #[.int .i64 i4, .bool e5]) H3)))))))))))))
theorem W9 (m : Amb) (p0 : Option Addr) (x1 : Int) (H : Hp) (K : Value → Hp → Prop) : funcW Tryd.prog m [] Tryd.f9 [.c (.p p0), .c (.i .i64 x1)] H K = t9 m p0 x1 H K := by kernel_rfl
theorem S9 {m : Amb} {p0 : Option Addr} {x1 : Int} {H : Hp} {K : Value → Hp → Prop} (h : t9 m p0 x1 H K) : CallsH Tryd.prog m 9 [.pointer p0, .int .i64 x1] H K :=
  callsH_of_W (args := [.c (.p p0), .c (.i .i64 x1)]) mixed Tryd.func9 ((W9 m p0 x1 H K).mpr h)

/-- (switchyard/taker.Taker).Recv -/
def t10 (m : Amb) (p0 : Option Addr) (H : Hp) (K : Value → Hp → Prop) : Prop :=
  (cl Tryd.prog m 51 ([.pointer p0]) H (fun w0 H1 =>
  (∃ i2 : Int, (must (
  w0 = .int .i64 i2) (
  (br (i2 == 0) (
  (cl Tryd.prog m 52 ([.pointer p0, .bool false]) H1 (fun w3 H4 =>
  (must (
  w3 = .tuple #[]) (
  (K (.int .i64 i2) H4)))))) (
  (K (.int .i64 i2) H1))))))))
theorem W10 (m : Amb) (p0 : Option Addr) (H : Hp) (K : Value → Hp → Prop) : funcW Tryd.prog m [] Tryd.f10 [.c (.p p0)] H K = t10 m p0 H K := by kernel_rfl
theorem S10 {m : Amb} {p0 : Option Addr} {H : Hp} {K : Value → Hp → Prop} (h : t10 m p0 H K) : CallsH Tryd.prog m 10 [.pointer p0] H K :=
  callsH_of_W (args := [.c (.p p0)]) mixed Tryd.func10 ((W10 m p0 H K).mpr h)

/-- (switchyard/taker.Taker).Release -/
def t11 (m : Amb) (p0 : Option Addr) (x1 : Int) (H : Hp) (K : Value → Hp → Prop) : Prop :=
  (cl Tryd.prog m 51 ([.pointer p0]) H (fun w0 H1 =>
  (∃ i2 : Int, (must (
  w0 = .int .i64 i2) (
  (br (i2 != 0) (
  (K (.int .i64 i2) H1)) (
  (nn p0 (fun a3 =>
  (ldP H1 (a3.add 9) (fun r4 =>
  (cl Tryd.prog m 50 ([.pointer r4, .int .i64 x1]) H1 (fun w5 H6 =>
  (∃ i7 : Int, (∃ e8 : Bool, (must (
  w5 = .tuple #[.int .i64 i7, .bool e8]) (
  (nn p0 (fun a9 =>
  (ldP H6 (a9.add 9) (fun r10 =>
  (cl Tryd.prog m 53 ([.pointer r10, .int .i64 x1]) H6 (fun w11 H12 =>
  (∃ i13 : Int, (must (
  w11 = .int .i64 i13) (
  (br (i13 != 0) (
  (K (.int .i64 i13) H12)) (
  (cl Tryd.prog m 52 ([.pointer p0, .bool true]) H12 (fun w14 H15 =>
  (must (
  w14 = .tuple #[]) (
  (nn p0 (fun a16 =>
  (st H15 (a16.add 11) (.int .i64 i7) (fun H17 =>
  (K (.int .i64 0) H17)))))))))))))))))))))))))))))))))))))
theorem W11 (m : Amb) (p0 : Option Addr) (x1 : Int) (H : Hp) (K : Value → Hp → Prop) : funcW Tryd.prog m [] Tryd.f11 [.c (.p p0), .c (.i .i64 x1)] H K = t11 m p0 x1 H K := by kernel_rfl
theorem S11 {m : Amb} {p0 : Option Addr} {x1 : Int} {H : Hp} {K : Value → Hp → Prop} (h : t11 m p0 x1 H K) : CallsH Tryd.prog m 11 [.pointer p0, .int .i64 x1] H K :=
  callsH_of_W (args := [.c (.p p0), .c (.i .i64 x1)]) mixed Tryd.func11 ((W11 m p0 x1 H K).mpr h)

/-- (switchyard/taker.Taker).Busy -/
def t12 (m : Amb) (p0 : Option Addr) (H : Hp) (K : Value → Hp → Prop) : Prop :=
  (br (!p0.isNone) (
  (nn p0 (fun a0 =>
  (ldI .i64 H (a0.add 10) (fun i1 =>
  (K (.bool (i1 != 0)) H)))))) (
  (K (.bool false) H)))
theorem W12 (m : Amb) (p0 : Option Addr) (H : Hp) (K : Value → Hp → Prop) : funcW Tryd.prog m [] Tryd.f12 [.c (.p p0)] H K = t12 m p0 H K := by kernel_rfl
theorem S12 {m : Amb} {p0 : Option Addr} {H : Hp} {K : Value → Hp → Prop} (h : t12 m p0 H K) : CallsH Tryd.prog m 12 [.pointer p0] H K :=
  callsH_of_W (args := [.c (.p p0)]) mixed Tryd.func12 ((W12 m p0 H K).mpr h)

/-- (switchyard/taker.Taker).Linked -/
def t13 (m : Amb) (p0 : Option Addr) (H : Hp) (K : Value → Hp → Prop) : Prop :=
  (br (!p0.isNone) (
  (nn p0 (fun a0 =>
  (ldB H (a0.add 6) (fun e1 =>
  (K (.bool e1) H)))))) (
  (K (.bool false) H)))
theorem W13 (m : Amb) (p0 : Option Addr) (H : Hp) (K : Value → Hp → Prop) : funcW Tryd.prog m [] Tryd.f13 [.c (.p p0)] H K = t13 m p0 H K := by kernel_rfl
theorem S13 {m : Amb} {p0 : Option Addr} {H : Hp} {K : Value → Hp → Prop} (h : t13 m p0 H K) : CallsH Tryd.prog m 13 [.pointer p0] H K :=
  callsH_of_W (args := [.c (.p p0)]) mixed Tryd.func13 ((W13 m p0 H K).mpr h)

/-- (switchyard/taker.Taker).Held -/
def t14 (m : Amb) (p0 : Option Addr) (H : Hp) (K : Value → Hp → Prop) : Prop :=
  (br p0.isNone (
  (K (.slice none 0 0) H)) (
  (nn p0 (fun a0 =>
  (ldP H (a0.add 9) (fun r1 =>
  (cl Tryd.prog m 45 ([.pointer r1]) H (fun w2 H3 =>
  (∃ r4 : Option Addr, (∃ l5 : Nat, (∃ l6 : Nat, (must (
  w2 = .slice r4 l5 l6) (
  (K (.slice r4 l5 l6) H3))))))))))))))
theorem W14 (m : Amb) (p0 : Option Addr) (H : Hp) (K : Value → Hp → Prop) : funcW Tryd.prog m [] Tryd.f14 [.c (.p p0)] H K = t14 m p0 H K := by kernel_rfl
theorem S14 {m : Amb} {p0 : Option Addr} {H : Hp} {K : Value → Hp → Prop} (h : t14 m p0 H K) : CallsH Tryd.prog m 14 [.pointer p0] H K :=
  callsH_of_W (args := [.c (.p p0)]) mixed Tryd.func14 ((W14 m p0 H K).mpr h)

/-- (switchyard/taker.Taker).Bound -/
def t15 (m : Amb) (p0 : Option Addr) (H : Hp) (K : Value → Hp → Prop) : Prop :=
  (br p0.isNone (
  (K (.int .i64 0) H)) (
  (K (.int .i64 15) H)))
theorem W15 (m : Amb) (p0 : Option Addr) (H : Hp) (K : Value → Hp → Prop) : funcW Tryd.prog m [] Tryd.f15 [.c (.p p0)] H K = t15 m p0 H K := by kernel_rfl
theorem S15 {m : Amb} {p0 : Option Addr} {H : Hp} {K : Value → Hp → Prop} (h : t15 m p0 H K) : CallsH Tryd.prog m 15 [.pointer p0] H K :=
  callsH_of_W (args := [.c (.p p0)]) mixed Tryd.func15 ((W15 m p0 H K).mpr h)

/-- switchyard/switchyardlaw17.alive -/
def t16 (m : Amb) (H : Hp) (K : Value → Hp → Prop) : Prop :=
  (cl Tryd.prog m 18 ([.agg #[.int .i64 0, .int .i64 2, .int .i64 1, .int .i64 0, .int .i64 0]]) H (fun w0 H1 =>
  (∃ r2 : Option Addr, (must (
  w0 = .pointer r2) (
  (br r2.isNone (
  (K (.bool false) H1)) (
  (cl Tryd.prog m 10 ([.pointer r2]) H1 (fun w3 H4 =>
  (∃ i5 : Int, (must (
  w3 = .int .i64 i5) (
  (br (i5 != 0) (
  (K (.bool false) H4)) (
  (mkS Tryd.prog 3 1 8 H4 26 26 (fun r6 l7 l8 H9 =>
  (nw H9 ([.int .i64 0, .int .i64 0]) 3 (fun a10 H11 =>
  (cl Tryd.prog m 7 ([.slice r6 l7 l8, .slice (some a10) 2 2]) H11 (fun w12 H13 =>
  (∃ r14 : Option Addr, (must (
  w12 = .pointer r14) (
  (cl Tryd.prog m 36 ([.iface 26 (.pointer r14)]) H13 (fun w15 H16 =>
  (∃ r17 : Option Addr, (must (
  w15 = .pointer r17) (
  (∃ I18 : Int → Hp → Prop, (∃ I19 : Int → Hp → Nat, ((I18 1 H16) ∧
  (∀ i20 : Int, (∀ H21 : Hp, (∀ l22 : Nat, (∀ j23 : Nat → Value, (((I18 i20 H21)) → 
  ((I19 i20 H21 = l22) → 
  (br (decide (i20 ≤ 3)) (
  (cl Tryd.prog m 6 ([.pointer r2, .iface 72 (.pointer r17)]) H21 (fun w24 H25 =>
  (∃ e26 : Bool, (∃ i27 : Int, (must (
  w24 = .tuple #[.bool e26, .int .i64 i27]) (
  (br e26 (
  (K (.bool false) H25)) (
  ((I18 (wr .i64 (i20 + 1)) H25) ∧
  ((I19 (wr .i64 (i20 + 1)) H25).succ.le l22))))))))))) (
  (cl Tryd.prog m 6 ([.pointer r2, .iface 72 (.pointer r17)]) H21 (fun w28 H29 =>
  (∃ e30 : Bool, (∃ i31 : Int, (must (
  w28 = .tuple #[.bool e30, .int .i64 i31]) (
  (br e30 (
  (br (i31 == 6) (
  (cl Tryd.prog m 37 ([.pointer r17]) H29 (fun w32 H33 =>
  (∃ r34 : Option Addr, (∃ l35 : Nat, (∃ l36 : Nat, (must (
  w32 = .slice r34 l35 l36) (
  (br ((l35 : Int) == 4) (
  (cl Tryd.prog m 12 ([.pointer r2]) H33 (fun w37 H38 =>
  (∃ e39 : Bool, (must (
  w37 = .bool e39) (
  (br (!e39) (
  (cl Tryd.prog m 13 ([.pointer r2]) H38 (fun w40 H41 =>
  (∃ e42 : Bool, (must (
  w40 = .bool e42) (
  (K (.bool e42) H41))))))) (
  (K (.bool false) H38))))))))) (
  (K (.bool false) H33))))))))))) (
  (K (.bool false) H29)))) (
  (K (.bool false) H29))))))))))))))))))))))))))))))))))))))))))))))))
theorem W16 (m : Amb) (H : Hp) (K : Value → Hp → Prop) : funcW Tryd.prog m [⟨true, 7, [(3, (.i .i64))]⟩] Tryd.f16 [] H K = t16 m H K := by kernel_rfl
theorem S16 {m : Amb} {H : Hp} {K : Value → Hp → Prop} (h : t16 m H K) : CallsH Tryd.prog m 16 [] H K :=
  callsH_of_W (args := []) mixed Tryd.func16 ((W16 m H K).mpr h)

/-- switchyard/switchyardlaw17.made -/
def t18 (m : Amb) (x0 : Int) (x1 : Int) (x2 : Int) (x3 : Int) (x4 : Int) (H : Hp) (K : Value → Hp → Prop) : Prop :=
  (nw H ([.int .i64 x0, .int .i64 x1, .int .i64 x2, .int .i64 x3, .int .i64 x4]) 43 (fun a0 H1 =>
  (ldI .i64 H1 ((a0.add 0).add 0) (fun i2 =>
  (ldI .i64 H1 ((a0.add 0).add 1) (fun i3 =>
  (ldI .i64 H1 (a0.add 2) (fun i4 =>
  (ldI .i64 H1 (a0.add 3) (fun i5 =>
  (ldI .i64 H1 (a0.add 4) (fun i6 =>
  (cl Tryd.prog m 54 ([.agg #[.int .i64 i2, .int .i64 i3], .int .i64 i4, .int .i64 i5, .int .i64 i6]) H1 (fun w7 H8 =>
  (∃ r9 : Option Addr, (must (
  w7 = .pointer r9) (
  (K (.pointer r9) H8))))))))))))))))))
theorem W18 (m : Amb) (x0 : Int) (x1 : Int) (x2 : Int) (x3 : Int) (x4 : Int) (H : Hp) (K : Value → Hp → Prop) : funcW Tryd.prog m [] Tryd.f18 [.g [.i .i64 x0, .i .i64 x1, .i .i64 x2, .i .i64 x3, .i .i64 x4]] H K = t18 m x0 x1 x2 x3 x4 H K := by kernel_rfl
theorem S18 {m : Amb} {x0 : Int} {x1 : Int} {x2 : Int} {x3 : Int} {x4 : Int} {H : Hp} {K : Value → Hp → Prop} (h : t18 m x0 x1 x2 x3 x4 H K) : CallsH Tryd.prog m 18 [.agg #[.int .i64 x0, .int .i64 x1, .int .i64 x2, .int .i64 x3, .int .i64 x4]] H K :=
  callsH_of_W (args := [.g [.i .i64 x0, .i .i64 x1, .i .i64 x2, .i .i64 x3, .i .i64 x4]]) mixed Tryd.func18 ((W18 m x0 x1 x2 x3 x4 H K).mpr h)

/-- switchyard/plot.Size -/
def t21 (m : Amb) (x0 : Int) (H : Hp) (K : Value → Hp → Prop) : Prop :=
  (cl Tryd.prog m 55 ([.int .i64 x0]) H (fun w0 H1 =>
  (∃ e2 : Bool, (must (
  w0 = .bool e2) (
  (br (!e2) (
  (K (.int .i64 0) H1)) (
  (ixA 8 9 (
  (ldI .i64 H1 ((⟨0, 0, none⟩ : Addr).add 8) (fun i3 =>
  (K (.int .i64 (wr .i64 (4 + wr .i64 (wr .i64 (i3 + 8) * x0)))) H1))))))))))))
theorem W21 (m : Amb) (x0 : Int) (H : Hp) (K : Value → Hp → Prop) : funcW Tryd.prog m [] Tryd.f21 [.c (.i .i64 x0)] H K = t21 m x0 H K := by kernel_rfl
theorem S21 {m : Amb} {x0 : Int} {H : Hp} {K : Value → Hp → Prop} (h : t21 m x0 H K) : CallsH Tryd.prog m 21 [.int .i64 x0] H K :=
  callsH_of_W (args := [.c (.i .i64 x0)]) mixed Tryd.func21 ((W21 m x0 H K).mpr h)

/-- (switchyard/port.Plain).Store -/
def t22 (m : Amb) (p0 : Option Addr) (x1 : Int) (x2 : Int) (H : Hp) (K : Value → Hp → Prop) : Prop :=
  (br (!p0.isNone) (
  (nn p0 (fun a0 =>
  (ldS H (a0.add 0) (fun r1 l2 l3 =>
  (cl Tryd.prog m 56 ([.slice r1 l2 l3, .int .i64 x1]) H (fun w4 H5 =>
  (∃ e6 : Bool, (must (
  w4 = .bool e6) (
  (br e6 (
  (nn p0 (fun a7 =>
  (ldS H5 (a7.add 0) (fun r8 l9 l10 =>
  (cl Tryd.prog m 57 ([.int .i64 x2]) H5 (fun w11 H12 =>
  (∃ i13 : Int, (must (
  w11 = .int .i64 i13) (
  (must (
  (cont H12 (a7.add 0) (.slice r8 l9 l10))) (
  (ixS r8 x1 l9 (fun a14 =>
  (st H12 (a14.add (x1.toNat * 1)) (.int .i64 i13) (fun H15 =>
  (K (.tuple #[]) H15))))))))))))))))) (
  (K (.tuple #[]) H5))))))))))))) (
  (K (.tuple #[]) H)))
theorem W22 (m : Amb) (p0 : Option Addr) (x1 : Int) (x2 : Int) (H : Hp) (K : Value → Hp → Prop) : funcW Tryd.prog m [] Tryd.f22 [.c (.p p0), .c (.i .i64 x1), .c (.i .i64 x2)] H K = t22 m p0 x1 x2 H K := by kernel_rfl
theorem S22 {m : Amb} {p0 : Option Addr} {x1 : Int} {x2 : Int} {H : Hp} {K : Value → Hp → Prop} (h : t22 m p0 x1 x2 H K) : CallsH Tryd.prog m 22 [.pointer p0, .int .i64 x1, .int .i64 x2] H K :=
  callsH_of_W (args := [.c (.p p0), .c (.i .i64 x1), .c (.i .i64 x2)]) mixed Tryd.func22 ((W22 m p0 x1 x2 H K).mpr h)

/-- switchyard/switchyardlaw17.run -/
def t23 (m : Amb) (p0 : Option Addr) (v1 : Value) (H : Hp) (K : Value → Hp → Prop) : Prop :=
  (∃ I0 : Int → Hp → Prop, (∃ I1 : Int → Hp → Nat, ((I0 0 H) ∧
  (∀ i2 : Int, (∀ H3 : Hp, (∀ l4 : Nat, (∀ j5 : Nat → Value, (((I0 i2 H3)) → 
  ((I1 i2 H3 = l4) → 
  (br (decide (i2 < 100)) (
  (cl Tryd.prog m 6 ([.pointer p0, v1]) H3 (fun w6 H7 =>
  (∃ e8 : Bool, (∃ i9 : Int, (must (
  w6 = .tuple #[.bool e8, .int .i64 i9]) (
  (br e8 (
  (K (.int .i64 i9) H7)) (
  ((I0 (wr .i64 (i2 + 1)) H7) ∧
  ((I1 (wr .i64 (i2 + 1)) H7).succ.le l4))))))))))) (
  (K (.int .i64 1) H3))))))))))))
theorem W23 (m : Amb) (p0 : Option Addr) (v1 : Value) (H : Hp) (K : Value → Hp → Prop) : funcW Tryd.prog m [⟨true, 3, [(7, (.i .i64))]⟩] Tryd.f23 [.c (.p p0), .c (.v v1)] H K = t23 m p0 v1 H K := by kernel_rfl
theorem S23 {m : Amb} {p0 : Option Addr} {v1 : Value} {H : Hp} {K : Value → Hp → Prop} (h : t23 m p0 v1 H K) : CallsH Tryd.prog m 23 [.pointer p0, v1] H K :=
  callsH_of_W (args := [.c (.p p0), .c (.v v1)]) mixed Tryd.func23 ((W23 m p0 v1 H K).mpr h)

/-- (switchyard/port.Plain).Words -/
def t24 (m : Amb) (p0 : Option Addr) (H : Hp) (K : Value → Hp → Prop) : Prop :=
  (br p0.isNone (
  (K (.slice none 0 0) H)) (
  (nn p0 (fun a0 =>
  (ldS H (a0.add 0) (fun r1 l2 l3 =>
  (cl Tryd.prog m 49 ([.slice r1 l2 l3]) H (fun w4 H5 =>
  (∃ r6 : Option Addr, (∃ l7 : Nat, (∃ l8 : Nat, (must (
  w4 = .slice r6 l7 l8) (
  (K (.slice r6 l7 l8) H5))))))))))))))
theorem W24 (m : Amb) (p0 : Option Addr) (H : Hp) (K : Value → Hp → Prop) : funcW Tryd.prog m [] Tryd.f24 [.c (.p p0)] H K = t24 m p0 H K := by kernel_rfl
theorem S24 {m : Amb} {p0 : Option Addr} {H : Hp} {K : Value → Hp → Prop} (h : t24 m p0 H K) : CallsH Tryd.prog m 24 [.pointer p0] H K :=
  callsH_of_W (args := [.c (.p p0)]) mixed Tryd.func24 ((W24 m p0 H K).mpr h)

/-- (switchyard/port.Plain).Load -/
def t25 (m : Amb) (p0 : Option Addr) (x1 : Int) (H : Hp) (K : Value → Hp → Prop) : Prop :=
  (br p0.isNone (
  (K (.int .i64 0) H)) (
  (nn p0 (fun a0 =>
  (ldS H (a0.add 0) (fun r1 l2 l3 =>
  (cl Tryd.prog m 56 ([.slice r1 l2 l3, .int .i64 x1]) H (fun w4 H5 =>
  (∃ e6 : Bool, (must (
  w4 = .bool e6) (
  (br (!e6) (
  (K (.int .i64 0) H5)) (
  (nn p0 (fun a7 =>
  (ldS H5 (a7.add 0) (fun r8 l9 l10 =>
  (ixS r8 x1 l9 (fun a11 =>
  (ldI .i64 H5 (a11.add (x1.toNat * 1)) (fun i12 =>
  (K (.int .i64 i12) H5))))))))))))))))))))))
theorem W25 (m : Amb) (p0 : Option Addr) (x1 : Int) (H : Hp) (K : Value → Hp → Prop) : funcW Tryd.prog m [] Tryd.f25 [.c (.p p0), .c (.i .i64 x1)] H K = t25 m p0 x1 H K := by kernel_rfl
theorem S25 {m : Amb} {p0 : Option Addr} {x1 : Int} {H : Hp} {K : Value → Hp → Prop} (h : t25 m p0 x1 H K) : CallsH Tryd.prog m 25 [.pointer p0, .int .i64 x1] H K :=
  callsH_of_W (args := [.c (.p p0), .c (.i .i64 x1)]) mixed Tryd.func25 ((W25 m p0 x1 H K).mpr h)

/-- switchyard/port.Traced -/
def t36 (m : Amb) (v0 : Value) (H : Hp) (K : Value → Hp → Prop) : Prop :=
  (ifcNil v0 (fun e0 =>
  (br e0 (
  (nw H ([.iface 26 (.pointer none), .slice none 0 0]) 102 (fun a1 H2 =>
  (K (.pointer (some a1)) H2)))) (
  (must (
  v0.oneCell' = true) (
  (nw H ([v0, .slice none 0 0]) 102 (fun a3 H4 =>
  (K (.pointer (some a3)) H4)))))))))
theorem W36 (m : Amb) (v0 : Value) (H : Hp) (K : Value → Hp → Prop) : funcW Tryd.prog m [] Tryd.f36 [.c (.v v0)] H K = t36 m v0 H K := by kernel_rfl
theorem S36 {m : Amb} {v0 : Value} {H : Hp} {K : Value → Hp → Prop} (h : t36 m v0 H K) : CallsH Tryd.prog m 36 [v0] H K :=
  callsH_of_W (args := [.c (.v v0)]) mixed Tryd.func36 ((W36 m v0 H K).mpr h)

/-- (switchyard/port.Trace).Touches -/
def t37 (m : Amb) (p0 : Option Addr) (H : Hp) (K : Value → Hp → Prop) : Prop :=
  (br p0.isNone (
  (K (.slice none 0 0) H)) (
  (nn p0 (fun a0 =>
  (ldS H (a0.add 1) (fun r1 l2 l3 =>
  (cl Tryd.prog m 67 ([.slice r1 l2 l3]) H (fun w4 H5 =>
  (∃ r6 : Option Addr, (∃ l7 : Nat, (∃ l8 : Nat, (must (
  w4 = .slice r6 l7 l8) (
  (K (.slice r6 l7 l8) H5))))))))))))))
theorem W37 (m : Amb) (p0 : Option Addr) (H : Hp) (K : Value → Hp → Prop) : funcW Tryd.prog m [] Tryd.f37 [.c (.p p0)] H K = t37 m p0 H K := by kernel_rfl
theorem S37 {m : Amb} {p0 : Option Addr} {H : Hp} {K : Value → Hp → Prop} (h : t37 m p0 H K) : CallsH Tryd.prog m 37 [.pointer p0] H K :=
  callsH_of_W (args := [.c (.p p0)]) mixed Tryd.func37 ((W37 m p0 H K).mpr h)

/-- (switchyard/taker.Taker).touch -/
def t39 (m : Amb) (p0 : Option Addr) (v1 : Value) (H : Hp) (K : Value → Hp → Prop) : Prop :=
  (nn p0 (fun a0 =>
  (ldI .i64 H (a0.add 10) (fun i1 =>
  (br (i1 == 1) (
  (nn p0 (fun a2 =>
  (ldI .i64 H (a2.add 3) (fun i3 =>
  (nmv Tryd.prog v1 ("Epoch") (
  (inv Tryd.prog m v1 ("Epoch") ([.int .i64 i3]) H (fun w4 H5 =>
  (∃ i6 : Int, (must (
  w4 = .int .i64 i6) (
  (K (.int .i64 i6) H5))))))))))))) (
  (br (i1 == 14) (
  (nn p0 (fun a7 =>
  (ldI .i64 H (a7.add 3) (fun i8 =>
  (nmv Tryd.prog v1 ("Epoch") (
  (inv Tryd.prog m v1 ("Epoch") ([.int .i64 i8]) H (fun w9 H10 =>
  (∃ i11 : Int, (must (
  w9 = .int .i64 i11) (
  (K (.int .i64 i11) H10))))))))))))) (
  (br (i1 == 5) (
  (nmv Tryd.prog v1 ("Load") (
  (cl Tryd.prog m 69 ([.pointer p0, .int .i64 1, .int .i64 0, .int .i64 0]) H (fun w12 H13 =>
  (∃ i14 : Int, (must (
  w12 = .int .i64 i14) (
  (inv Tryd.prog m v1 ("Load") ([.int .i64 i14]) H13 (fun w15 H16 =>
  (∃ i17 : Int, (must (
  w15 = .int .i64 i17) (
  (K (.int .i64 i17) H16)))))))))))))) (
  (br (i1 == 6) (
  (nmv Tryd.prog v1 ("Load") (
  (cl Tryd.prog m 69 ([.pointer p0, .int .i64 3, .int .i64 0, .int .i64 0]) H (fun w18 H19 =>
  (∃ i20 : Int, (must (
  w18 = .int .i64 i20) (
  (inv Tryd.prog m v1 ("Load") ([.int .i64 i20]) H19 (fun w21 H22 =>
  (∃ i23 : Int, (must (
  w21 = .int .i64 i23) (
  (K (.int .i64 i23) H22)))))))))))))) (
  (br (i1 == 7) (
  (nn p0 (fun a24 =>
  (ldI .i64 H (a24.add 7) (fun i25 =>
  (nn p0 (fun a26 =>
  (ldI .i64 H ((a26.add 0).add 1) (fun i27 =>
  (must (
  i27 ≠ 0) (
  (nmv Tryd.prog v1 ("Load") (
  (cl Tryd.prog m 69 ([.pointer p0, .int .i64 5, .int .i64 (i25.tmod i27), .int .i64 0]) H (fun w28 H29 =>
  (∃ i30 : Int, (must (
  w28 = .int .i64 i30) (
  (inv Tryd.prog m v1 ("Load") ([.int .i64 i30]) H29 (fun w31 H32 =>
  (∃ i33 : Int, (must (
  w31 = .int .i64 i33) (
  (K (.int .i64 i33) H32)))))))))))))))))))))))) (
  (br (i1 == 8) (
  (nn p0 (fun a34 =>
  (ldI .i64 H (a34.add 11) (fun i35 =>
  (nmv Tryd.prog v1 ("Load") (
  (cl Tryd.prog m 69 ([.pointer p0, .int .i64 7, .int .i64 i35, .int .i64 0]) H (fun w36 H37 =>
  (∃ i38 : Int, (must (
  w36 = .int .i64 i38) (
  (inv Tryd.prog m v1 ("Load") ([.int .i64 i38]) H37 (fun w39 H40 =>
  (∃ i41 : Int, (must (
  w39 = .int .i64 i41) (
  (K (.int .i64 i41) H40)))))))))))))))))) (
  (br (i1 == 9) (
  (nn p0 (fun a42 =>
  (ldI .i64 H (a42.add 11) (fun i43 =>
  (nn p0 (fun a44 =>
  (ldS H (a44.add 15) (fun r45 l46 l47 =>
  (nmv Tryd.prog v1 ("Load") (
  (cl Tryd.prog m 69 ([.pointer p0, .int .i64 8, .int .i64 i43, .int .i64 (l46 : Int)]) H (fun w48 H49 =>
  (∃ i50 : Int, (must (
  w48 = .int .i64 i50) (
  (inv Tryd.prog m v1 ("Load") ([.int .i64 i50]) H49 (fun w51 H52 =>
  (∃ i53 : Int, (must (
  w51 = .int .i64 i53) (
  (K (.int .i64 i53) H52)))))))))))))))))))))) (
  (br (i1 == 2) (
  (nmv Tryd.prog v1 ("Store") (
  (cl Tryd.prog m 69 ([.pointer p0, .int .i64 4, .int .i64 0, .int .i64 0]) H (fun w54 H55 =>
  (∃ i56 : Int, (must (
  w54 = .int .i64 i56) (
  (inv Tryd.prog m v1 ("Store") ([.int .i64 i56, .int .i64 0]) H55 (fun w57 H58 =>
  (must (
  w57 = .tuple #[]) (
  (K (.int .i64 0) H58))))))))))))) (
  (br (i1 == 3) (
  (nmv Tryd.prog v1 ("Store") (
  (cl Tryd.prog m 69 ([.pointer p0, .int .i64 2, .int .i64 0, .int .i64 0]) H (fun w59 H60 =>
  (∃ i61 : Int, (must (
  w59 = .int .i64 i61) (
  (cl Tryd.prog m 42 ([.pointer p0]) H60 (fun w62 H63 =>
  (∃ i64 : Int, (must (
  w62 = .int .i64 i64) (
  (inv Tryd.prog m v1 ("Store") ([.int .i64 i61, .int .i64 i64]) H63 (fun w65 H66 =>
  (must (
  w65 = .tuple #[]) (
  (K (.int .i64 0) H66)))))))))))))))))) (
  (br (i1 == 10) (
  (nn p0 (fun a67 =>
  (ldI .i64 H (a67.add 8) (fun i68 =>
  (nn p0 (fun a69 =>
  (ldI .i64 H ((a69.add 0).add 1) (fun i70 =>
  (must (
  i70 ≠ 0) (
  (nn p0 (fun a71 =>
  (ldI .i64 H (a71.add 11) (fun i72 =>
  (nmv Tryd.prog v1 ("Store") (
  (cl Tryd.prog m 69 ([.pointer p0, .int .i64 6, .int .i64 (i68.tmod i70), .int .i64 0]) H (fun w73 H74 =>
  (∃ i75 : Int, (must (
  w73 = .int .i64 i75) (
  (must (
  (cont H74 (a71.add 11) (.int .i64 i72))) (
  (inv Tryd.prog m v1 ("Store") ([.int .i64 i75, .int .i64 i72]) H74 (fun w76 H77 =>
  (must (
  w76 = .tuple #[]) (
  (K (.int .i64 0) H77))))))))))))))))))))))))))))) (
  (br (i1 == 12) (
  (nn p0 (fun a78 =>
  (ldI .i64 H (a78.add 8) (fun i79 =>
  (nmv Tryd.prog v1 ("Store") (
  (cl Tryd.prog m 69 ([.pointer p0, .int .i64 4, .int .i64 0, .int .i64 0]) H (fun w80 H81 =>
  (∃ i82 : Int, (must (
  w80 = .int .i64 i82) (
  (must (
  (cont H81 (a78.add 8) (.int .i64 i79))) (
  (cl Tryd.prog m 70 ([.int .i64 i79, .int .i64 1]) H81 (fun w83 H84 =>
  (∃ i85 : Int, (must (
  w83 = .int .i64 i85) (
  (inv Tryd.prog m v1 ("Store") ([.int .i64 i82, .int .i64 i85]) H84 (fun w86 H87 =>
  (must (
  w86 = .tuple #[]) (
  (K (.int .i64 0) H87)))))))))))))))))))))))) (
  (inv Tryd.prog m v1 ("Fence") ([]) H (fun w88 H89 =>
  (must (
  w88 = .tuple #[]) (
  (K (.int .i64 0) H89)))))))))))))))))))))))))))))))
theorem W39 (m : Amb) (p0 : Option Addr) (v1 : Value) (H : Hp) (K : Value → Hp → Prop) : funcW Tryd.prog m [] Tryd.f39 [.c (.p p0), .c (.v v1)] H K = t39 m p0 v1 H K := by kernel_rfl
theorem S39 {m : Amb} {p0 : Option Addr} {v1 : Value} {H : Hp} {K : Value → Hp → Prop} (h : t39 m p0 v1 H K) : CallsH Tryd.prog m 39 [.pointer p0, v1] H K :=
  callsH_of_W (args := [.c (.p p0), .c (.v v1)]) mixed Tryd.func39 ((W39 m p0 v1 H K).mpr h)

/-- (switchyard/taker.Taker).asked -/
def t40 (m : Amb) (p0 : Option Addr) (x1 : Int) (H : Hp) (K : Value → Hp → Prop) : Prop :=
  (nn p0 (fun a0 =>
  (ldI .i64 H (a0.add 5) (fun i1 =>
  (br (x1 != i1) (
  (nn p0 (fun a2 =>
  (st H (a2.add 5) (.int .i64 x1) (fun H3 =>
  (K (.int .i64 2) H3)))))) (
  (nn p0 (fun a4 =>
  (ldB H (a4.add 6) (fun e5 =>
  (br (!e5) (
  (K (.int .i64 5) H)) (
  (nn p0 (fun a6 =>
  (ldB H (a6.add 14) (fun e7 =>
  (br e7 (
  (K (.int .i64 10) H)) (
  (K (.int .i64 6) H)))))))))))))))))))
theorem W40 (m : Amb) (p0 : Option Addr) (x1 : Int) (H : Hp) (K : Value → Hp → Prop) : funcW Tryd.prog m [] Tryd.f40 [.c (.p p0), .c (.i .i64 x1)] H K = t40 m p0 x1 H K := by kernel_rfl
theorem S40 {m : Amb} {p0 : Option Addr} {x1 : Int} {H : Hp} {K : Value → Hp → Prop} (h : t40 m p0 x1 H K) : CallsH Tryd.prog m 40 [.pointer p0, .int .i64 x1] H K :=
  callsH_of_W (args := [.c (.p p0), .c (.i .i64 x1)]) mixed Tryd.func40 ((W40 m p0 x1 H K).mpr h)

/-- (switchyard/taker.Taker).first -/
def t41 (m : Amb) (p0 : Option Addr) (H : Hp) (K : Value → Hp → Prop) : Prop :=
  (nn p0 (fun a0 =>
  (st H (a0.add 6) (.bool false) (fun H1 =>
  (nn p0 (fun a2 =>
  (st H1 (a2.add 7) (.int .i64 0) (fun H3 =>
  (nn p0 (fun a4 =>
  (st H3 (a4.add 8) (.int .i64 0) (fun H5 =>
  (nn p0 (fun a6 =>
  (st H5 (a6.add 10) (.int .i64 0) (fun H7 =>
  (nn p0 (fun a8 =>
  (st H7 (a8.add 15) (.slice none 0 0) (fun H9 =>
  (nn p0 (fun a10 =>
  (st H9 (a10.add 16) (.int .i64 0) (fun H11 =>
  (nn p0 (fun a12 =>
  (ldP H11 (a12.add 9) (fun r13 =>
  (cl Tryd.prog m 71 ([.pointer r13]) H11 (fun w14 H15 =>
  (∃ i16 : Int, (must (
  w14 = .int .i64 i16) (
  (K (.tuple #[]) H15))))))))))))))))))))))))))))))))))
theorem W41 (m : Amb) (p0 : Option Addr) (H : Hp) (K : Value → Hp → Prop) : funcW Tryd.prog m [] Tryd.f41 [.c (.p p0)] H K = t41 m p0 H K := by kernel_rfl
theorem S41 {m : Amb} {p0 : Option Addr} {H : Hp} {K : Value → Hp → Prop} (h : t41 m p0 H K) : CallsH Tryd.prog m 41 [.pointer p0] H K :=
  callsH_of_W (args := [.c (.p p0)]) mixed Tryd.func41 ((W41 m p0 H K).mpr h)

/-- (switchyard/taker.Taker).epoch -/
def t42 (m : Amb) (p0 : Option Addr) (H : Hp) (K : Value → Hp → Prop) : Prop :=
  (nn p0 (fun a0 =>
  (ldI .i64 H (a0.add 4) (fun i1 =>
  (nn p0 (fun a2 =>
  (ldI .i64 H (a2.add 5) (fun i3 =>
  (cl Tryd.prog m 70 ([.int .i64 i1, .int .i64 i3]) H (fun w4 H5 =>
  (∃ i6 : Int, (must (
  w4 = .int .i64 i6) (
  (K (.int .i64 i6) H5))))))))))))))
theorem W42 (m : Amb) (p0 : Option Addr) (H : Hp) (K : Value → Hp → Prop) : funcW Tryd.prog m [] Tryd.f42 [.c (.p p0)] H K = t42 m p0 H K := by kernel_rfl
theorem S42 {m : Amb} {p0 : Option Addr} {H : Hp} {K : Value → Hp → Prop} (h : t42 m p0 H K) : CallsH Tryd.prog m 42 [.pointer p0] H K :=
  callsH_of_W (args := [.c (.p p0)]) mixed Tryd.func42 ((W42 m p0 H K).mpr h)

/-- (switchyard/taker.Taker).waiting -/
def t43 (m : Amb) (p0 : Option Addr) (x1 : Int) (H : Hp) (K : Value → Hp → Prop) : Prop :=
  (nn p0 (fun a0 =>
  (ldI .i64 H (a0.add 7) (fun i1 =>
  (cl Tryd.prog m 72 ([.int .i64 x1, .int .i64 i1]) H (fun w2 H3 =>
  (∃ i4 : Int, (must (
  w2 = .int .i64 i4) (
  (br (i4 == 0) (
  (K (.int .i64 6) H3)) (
  (nn p0 (fun a5 =>
  (ldI .i64 H3 ((a5.add 0).add 1) (fun i6 =>
  (nn p0 (fun a7 =>
  (ldP H3 (a7.add 9) (fun r8 =>
  (cl Tryd.prog m 45 ([.pointer r8]) H3 (fun w9 H10 =>
  (∃ r11 : Option Addr, (∃ l12 : Nat, (∃ l13 : Nat, (must (
  w9 = .slice r11 l12 l13) (
  (must (
  (cont H10 ((a5.add 0).add 1) (.int .i64 i6))) (
  (br (decide (i4 > wr .i64 (i6 - (l12 : Int)))) (
  (K (.int .i64 10) H10)) (
  (K (.int .i64 0) H10)))))))))))))))))))))))))))))))
theorem W43 (m : Amb) (p0 : Option Addr) (x1 : Int) (H : Hp) (K : Value → Hp → Prop) : funcW Tryd.prog m [] Tryd.f43 [.c (.p p0), .c (.i .i64 x1)] H K = t43 m p0 x1 H K := by kernel_rfl
theorem S43 {m : Amb} {p0 : Option Addr} {x1 : Int} {H : Hp} {K : Value → Hp → Prop} (h : t43 m p0 x1 H K) : CallsH Tryd.prog m 43 [.pointer p0, .int .i64 x1] H K :=
  callsH_of_W (args := [.c (.p p0), .c (.i .i64 x1)]) mixed Tryd.func43 ((W43 m p0 x1 H K).mpr h)

/-- slices.Contains[[]int,int] -/
def t44 (m : Amb) (q0 : Option Addr) (n0 : Nat) (c0 : Nat) (x1 : Int) (H : Hp) (K : Value → Hp → Prop) : Prop :=
  (cl Tryd.prog m 73 ([.slice q0 n0 c0, .int .i64 x1]) H (fun w0 H1 =>
  (∃ i2 : Int, (must (
  w0 = .int .i64 i2) (
  (K (.bool (decide (i2 ≥ 0))) H1))))))
theorem W44 (m : Amb) (q0 : Option Addr) (n0 : Nat) (c0 : Nat) (x1 : Int) (H : Hp) (K : Value → Hp → Prop) : funcW Tryd.prog m [] Tryd.f44 [.c (.sl q0 n0 c0), .c (.i .i64 x1)] H K = t44 m q0 n0 c0 x1 H K := by kernel_rfl
theorem S44 {m : Amb} {q0 : Option Addr} {n0 : Nat} {c0 : Nat} {x1 : Int} {H : Hp} {K : Value → Hp → Prop} (h : t44 m q0 n0 c0 x1 H K) : CallsH Tryd.prog m 44 [.slice q0 n0 c0, .int .i64 x1] H K :=
  callsH_of_W (args := [.c (.sl q0 n0 c0), .c (.i .i64 x1)]) mixed Tryd.func44 ((W44 m q0 n0 c0 x1 H K).mpr h)

/-- (switchyard/grant.Table).Held -/
def t45 (m : Amb) (p0 : Option Addr) (H : Hp) (K : Value → Hp → Prop) : Prop :=
  (cl Tryd.prog m 74 ([.pointer p0]) H (fun w0 H1 =>
  (∃ i2 : Int, (must (
  w0 = .int .i64 i2) (
  (∃ I3 : Option Addr → Nat → Nat → Int → Hp → Prop, (∃ I4 : Option Addr → Nat → Nat → Int → Hp → Nat, ((I3 none 0 0 0 H1) ∧
  (∀ r5 : Option Addr, (∀ l6 : Nat, (∀ l7 : Nat, (∀ i8 : Int, (∀ H9 : Hp, (∀ l10 : Nat, (∀ j11 : Nat → Value, (((I3 r5 l6 l7 i8 H9)) → 
  ((I4 r5 l6 l7 i8 H9 = l10) → 
  (br (decide (i8 < i2)) (
  (nn p0 (fun a12 =>
  (ixA i8 64 (
  (ldB H9 ((a12.add 65).add (i8.toNat * 1)) (fun e13 =>
  (br e13 (
  (nw H9 ([.int .i64 i8]) 3 (fun a14 H15 =>
  (rd H15 (some a14) 1 (fun cs16 =>
  (ap Tryd.prog 3 1 8 H15 r5 l6 l7 cs16 1 (fun r17 l18 l19 H20 =>
  ((I3 r17 l18 l19 (wr .i64 (i8 + 1)) H20) ∧
  ((I4 r17 l18 l19 (wr .i64 (i8 + 1)) H20).succ.le l10))))))))) (
  ((I3 r5 l6 l7 (wr .i64 (i8 + 1)) H9) ∧
  ((I4 r5 l6 l7 (wr .i64 (i8 + 1)) H9).succ.le l10))))))))))) (
  (K (.slice r5 l6 l7) H9))))))))))))))))))))
theorem W45 (m : Amb) (p0 : Option Addr) (H : Hp) (K : Value → Hp → Prop) : funcW Tryd.prog m [⟨true, 4, [(3, .sl), (7, (.i .i64))]⟩] Tryd.f45 [.c (.p p0)] H K = t45 m p0 H K := by kernel_rfl
theorem S45 {m : Amb} {p0 : Option Addr} {H : Hp} {K : Value → Hp → Prop} (h : t45 m p0 H K) : CallsH Tryd.prog m 45 [.pointer p0] H K :=
  callsH_of_W (args := [.c (.p p0)]) mixed Tryd.func45 ((W45 m p0 H K).mpr h)

/-- (switchyard/taker.Taker).end -/
def t46 (m : Amb) (p0 : Option Addr) (x1 : Int) (H : Hp) (K : Value → Hp → Prop) : Prop :=
  (nn p0 (fun a0 =>
  (st H (a0.add 10) (.int .i64 0) (fun H1 =>
  (nn p0 (fun a2 =>
  (ldI .i64 H1 (a2.add 5) (fun i3 =>
  (br (x1 != i3) (
  (nn p0 (fun a4 =>
  (st H1 (a4.add 15) (.slice none 0 0) (fun H5 =>
  (K (.int .i64 8) H5)))))) (
  (nn p0 (fun a6 =>
  (ldI .i64 H1 (a6.add 13) (fun i7 =>
  (br (i7 != 0) (
  (nn p0 (fun a8 =>
  (st H1 (a8.add 15) (.slice none 0 0) (fun H9 =>
  (nn p0 (fun a10 =>
  (ldI .i64 H9 (a10.add 13) (fun i11 =>
  (K (.int .i64 i11) H9)))))))))) (
  (nn p0 (fun a12 =>
  (ldB H1 (a12.add 14) (fun e13 =>
  (br e13 (
  (nn p0 (fun a14 =>
  (ldI .i64 H1 (a14.add 8) (fun i15 =>
  (cl Tryd.prog m 70 ([.int .i64 i15, .int .i64 1]) H1 (fun w16 H17 =>
  (∃ i18 : Int, (must (
  w16 = .int .i64 i18) (
  (nn p0 (fun a19 =>
  (st H17 (a19.add 8) (.int .i64 i18) (fun H20 =>
  (nn p0 (fun a21 =>
  (ldI .i64 H20 (a21.add 13) (fun i22 =>
  (K (.int .i64 i22) H20))))))))))))))))))) (
  (nn p0 (fun a23 =>
  (ldI .i64 H1 (a23.add 7) (fun i24 =>
  (cl Tryd.prog m 70 ([.int .i64 i24, .int .i64 1]) H1 (fun w25 H26 =>
  (∃ i27 : Int, (must (
  w25 = .int .i64 i27) (
  (nn p0 (fun a28 =>
  (st H26 (a28.add 7) (.int .i64 i27) (fun H29 =>
  (nn p0 (fun a30 =>
  (ldP H29 (a30.add 9) (fun r31 =>
  (nn p0 (fun a32 =>
  (ldI .i64 H29 (a32.add 11) (fun i33 =>
  (cl Tryd.prog m 75 ([.pointer r31, .int .i64 i33]) H29 (fun w34 H35 =>
  (∃ i36 : Int, (∃ e37 : Bool, (must (
  w34 = .tuple #[.int .i64 i36, .bool e37]) (
  (nn p0 (fun a38 =>
  (st H35 (a38.add 16) (.int .i64 i36) (fun H39 =>
  (nn p0 (fun a40 =>
  (ldI .i64 H39 (a40.add 13) (fun i41 =>
  (K (.int .i64 i41) H39))))))))))))))))))))))))))))))))))))))))))))))))))))))))))
theorem W46 (m : Amb) (p0 : Option Addr) (x1 : Int) (H : Hp) (K : Value → Hp → Prop) : funcW Tryd.prog m [] Tryd.f46 [.c (.p p0), .c (.i .i64 x1)] H K = t46 m p0 x1 H K := by kernel_rfl
theorem S46 {m : Amb} {p0 : Option Addr} {x1 : Int} {H : Hp} {K : Value → Hp → Prop} (h : t46 m p0 x1 H K) : CallsH Tryd.prog m 46 [.pointer p0, .int .i64 x1] H K :=
  callsH_of_W (args := [.c (.p p0), .c (.i .i64 x1)]) mixed Tryd.func46 ((W46 m p0 x1 H K).mpr h)

/-- switchyard/port.words -/
def t47 (m : Amb) (q0 : Option Addr) (n0 : Nat) (c0 : Nat) (H : Hp) (K : Value → Hp → Prop) : Prop :=
  (cl Tryd.prog m 49 ([.slice q0 n0 c0]) H (fun w0 H1 =>
  (∃ r2 : Option Addr, (∃ l3 : Nat, (∃ l4 : Nat, (must (
  w0 = .slice r2 l3 l4) (
  (∃ I5 : Int → Hp → Prop, (∃ I6 : Int → Hp → Nat, ((I5 0 H1) ∧
  (∀ i7 : Int, (∀ H8 : Hp, (∀ l9 : Nat, (∀ j10 : Nat → Value, (((I5 i7 H8)) → 
  ((I6 i7 H8 = l9) → 
  (br (decide (i7 < (l3 : Int))) (
  (ixS r2 i7 l3 (fun a11 =>
  (ldI .i64 H8 (a11.add (i7.toNat * 1)) (fun i12 =>
  (cl Tryd.prog m 57 ([.int .i64 i12]) H8 (fun w13 H14 =>
  (∃ i15 : Int, (must (
  w13 = .int .i64 i15) (
  (ixS r2 i7 l3 (fun a16 =>
  (st H14 (a16.add (i7.toNat * 1)) (.int .i64 i15) (fun H17 =>
  ((I5 (wr .i64 (i7 + 1)) H17) ∧
  ((I6 (wr .i64 (i7 + 1)) H17).succ.le l9)))))))))))))))) (
  (K (.slice r2 l3 l4) H8)))))))))))))))))))
theorem W47 (m : Amb) (q0 : Option Addr) (n0 : Nat) (c0 : Nat) (H : Hp) (K : Value → Hp → Prop) : funcW Tryd.prog m [⟨true, 4, [(10, (.i .i64))]⟩] Tryd.f47 [.c (.sl q0 n0 c0)] H K = t47 m q0 n0 c0 H K := by kernel_rfl
theorem S47 {m : Amb} {q0 : Option Addr} {n0 : Nat} {c0 : Nat} {H : Hp} {K : Value → Hp → Prop} (h : t47 m q0 n0 c0 H K) : CallsH Tryd.prog m 47 [.slice q0 n0 c0] H K :=
  callsH_of_W (args := [.c (.sl q0 n0 c0)]) mixed Tryd.func47 ((W47 m q0 n0 c0 H K).mpr h)

/-- (switchyard/taker.Taker).has -/
def t48 (m : Amb) (p0 : Option Addr) (H : Hp) (K : Value → Hp → Prop) : Prop :=
  (br (!p0.isNone) (
  (nn p0 (fun a0 =>
  (ldI .i64 H (a0.add 10) (fun i1 =>
  (br (i1 == 0) (
  (nn p0 (fun a2 =>
  (ldI .i64 H (a2.add 16) (fun i3 =>
  (K (.bool (i3 != 0)) H)))))) (
  (K (.bool false) H)))))))) (
  (K (.bool false) H)))
theorem W48 (m : Amb) (p0 : Option Addr) (H : Hp) (K : Value → Hp → Prop) : funcW Tryd.prog m [] Tryd.f48 [.c (.p p0)] H K = t48 m p0 H K := by kernel_rfl
theorem S48 {m : Amb} {p0 : Option Addr} {H : Hp} {K : Value → Hp → Prop} (h : t48 m p0 H K) : CallsH Tryd.prog m 48 [.pointer p0] H K :=
  callsH_of_W (args := [.c (.p p0)]) mixed Tryd.func48 ((W48 m p0 H K).mpr h)

/-- slices.Clone[[]int,int] -/
def t49 (m : Amb) (q0 : Option Addr) (n0 : Nat) (c0 : Nat) (H : Hp) (K : Value → Hp → Prop) : Prop :=
  (br q0.isNone (
  (K (.slice none 0 0) H)) (
  (nw H ([]) 3 (fun a0 H1 =>
  (rd H1 q0 (n0 * 1) (fun cs2 =>
  (ap Tryd.prog 3 1 8 H1 (some a0) 0 0 cs2 n0 (fun r3 l4 l5 H6 =>
  (K (.slice r3 l4 l5) H6)))))))))
theorem W49 (m : Amb) (q0 : Option Addr) (n0 : Nat) (c0 : Nat) (H : Hp) (K : Value → Hp → Prop) : funcW Tryd.prog m [] Tryd.f49 [.c (.sl q0 n0 c0)] H K = t49 m q0 n0 c0 H K := by kernel_rfl
theorem S49 {m : Amb} {q0 : Option Addr} {n0 : Nat} {c0 : Nat} {H : Hp} {K : Value → Hp → Prop} (h : t49 m q0 n0 c0 H K) : CallsH Tryd.prog m 49 [.slice q0 n0 c0] H K :=
  callsH_of_W (args := [.c (.sl q0 n0 c0)]) mixed Tryd.func49 ((W49 m q0 n0 c0 H K).mpr h)

/-- (switchyard/grant.Table).Slot -/
def t50 (m : Amb) (p0 : Option Addr) (x1 : Int) (H : Hp) (K : Value → Hp → Prop) : Prop :=
  (cl Tryd.prog m 74 ([.pointer p0]) H (fun w0 H1 =>
  (∃ i2 : Int, (must (
  w0 = .int .i64 i2) (
  (br (decide (bitsOf .and .i64 x1 63 ≥ i2)) (
  (K (.tuple #[.int .i64 0, .bool false]) H1)) (
  (nn p0 (fun a3 =>
  (ixA (bitsOf .and .i64 x1 63) 64 (
  (ldB H1 ((a3.add 65).add ((bitsOf .and .i64 x1 63).toNat * 1)) (fun e4 =>
  (br (!e4) (
  (K (.tuple #[.int .i64 0, .bool false]) H1)) (
  (nn p0 (fun a5 =>
  (ixA (bitsOf .and .i64 x1 63) 64 (
  (ldI .i64 H1 ((a5.add 1).add ((bitsOf .and .i64 x1 63).toNat * 1)) (fun i6 =>
  (br (wr .i64 (wr .i64 (i6 * 64) + bitsOf .and .i64 x1 63) != x1) (
  (K (.tuple #[.int .i64 0, .bool false]) H1)) (
  (K (.tuple #[.int .i64 (bitsOf .and .i64 x1 63), .bool true]) H1))))))))))))))))))))))))
theorem W50 (m : Amb) (p0 : Option Addr) (x1 : Int) (H : Hp) (K : Value → Hp → Prop) : funcW Tryd.prog m [] Tryd.f50 [.c (.p p0), .c (.i .i64 x1)] H K = t50 m p0 x1 H K := by kernel_rfl
theorem S50 {m : Amb} {p0 : Option Addr} {x1 : Int} {H : Hp} {K : Value → Hp → Prop} (h : t50 m p0 x1 H K) : CallsH Tryd.prog m 50 [.pointer p0, .int .i64 x1] H K :=
  callsH_of_W (args := [.c (.p p0), .c (.i .i64 x1)]) mixed Tryd.func50 ((W50 m p0 x1 H K).mpr h)

/-- (switchyard/taker.Taker).wrong -/
def t51 (m : Amb) (p0 : Option Addr) (H : Hp) (K : Value → Hp → Prop) : Prop :=
  (br p0.isNone (
  (K (.int .i64 1) H)) (
  (nn p0 (fun a0 =>
  (ldI .i64 H (a0.add 10) (fun i1 =>
  (br (i1 != 0) (
  (K (.int .i64 11) H)) (
  (K (.int .i64 0) H)))))))))
theorem W51 (m : Amb) (p0 : Option Addr) (H : Hp) (K : Value → Hp → Prop) : funcW Tryd.prog m [] Tryd.f51 [.c (.p p0)] H K = t51 m p0 H K := by kernel_rfl
theorem S51 {m : Amb} {p0 : Option Addr} {H : Hp} {K : Value → Hp → Prop} (h : t51 m p0 H K) : CallsH Tryd.prog m 51 [.pointer p0] H K :=
  callsH_of_W (args := [.c (.p p0)]) mixed Tryd.func51 ((W51 m p0 H K).mpr h)

/-- (switchyard/taker.Taker).begin -/
def t52 (m : Amb) (p0 : Option Addr) (b1 : Bool) (H : Hp) (K : Value → Hp → Prop) : Prop :=
  (nn p0 (fun a0 =>
  (st H (a0.add 10) (.int .i64 1) (fun H1 =>
  (nn p0 (fun a2 =>
  (st H1 (a2.add 14) (.bool b1) (fun H3 =>
  (nn p0 (fun a4 =>
  (st H3 (a4.add 15) (.slice none 0 0) (fun H5 =>
  (nn p0 (fun a6 =>
  (st H5 (a6.add 16) (.int .i64 0) (fun H7 =>
  (K (.tuple #[]) H7)))))))))))))))))
theorem W52 (m : Amb) (p0 : Option Addr) (b1 : Bool) (H : Hp) (K : Value → Hp → Prop) : funcW Tryd.prog m [] Tryd.f52 [.c (.p p0), .c (.b b1)] H K = t52 m p0 b1 H K := by kernel_rfl
theorem S52 {m : Amb} {p0 : Option Addr} {b1 : Bool} {H : Hp} {K : Value → Hp → Prop} (h : t52 m p0 b1 H K) : CallsH Tryd.prog m 52 [.pointer p0, .bool b1] H K :=
  callsH_of_W (args := [.c (.p p0), .c (.b b1)]) mixed Tryd.func52 ((W52 m p0 b1 H K).mpr h)

/-- (switchyard/grant.Table).Drop -/
def t53 (m : Amb) (p0 : Option Addr) (x1 : Int) (H : Hp) (K : Value → Hp → Prop) : Prop :=
  (br p0.isNone (
  (K (.int .i64 1) H)) (
  (cl Tryd.prog m 50 ([.pointer p0, .int .i64 x1]) H (fun w0 H1 =>
  (∃ i2 : Int, (∃ e3 : Bool, (must (
  w0 = .tuple #[.int .i64 i2, .bool e3]) (
  (br (!e3) (
  (K (.int .i64 7) H1)) (
  (nn p0 (fun a4 =>
  (ixA i2 64 (
  (st H1 ((a4.add 65).add (i2.toNat * 1)) (.bool false) (fun H5 =>
  (K (.int .i64 0) H5)))))))))))))))))
theorem W53 (m : Amb) (p0 : Option Addr) (x1 : Int) (H : Hp) (K : Value → Hp → Prop) : funcW Tryd.prog m [] Tryd.f53 [.c (.p p0), .c (.i .i64 x1)] H K = t53 m p0 x1 H K := by kernel_rfl
theorem S53 {m : Amb} {p0 : Option Addr} {x1 : Int} {H : Hp} {K : Value → Hp → Prop} (h : t53 m p0 x1 H K) : CallsH Tryd.prog m 53 [.pointer p0, .int .i64 x1] H K :=
  callsH_of_W (args := [.c (.p p0), .c (.i .i64 x1)]) mixed Tryd.func53 ((W53 m p0 x1 H K).mpr h)

/-- switchyard/taker.New -/
def t54 (m : Amb) (x0 : Int) (x1 : Int) (x2 : Int) (x3 : Int) (x4 : Int) (H : Hp) (K : Value → Hp → Prop) : Prop :=
  (nw H ([.int .i64 x0, .int .i64 x1]) 41 (fun a0 H1 =>
  (ldI .i64 H1 (a0.add 1) (fun i2 =>
  (cl Tryd.prog m 21 ([.int .i64 i2]) H1 (fun w3 H4 =>
  (∃ i5 : Int, (must (
  w3 = .int .i64 i5) (
  (br (i5 == 0) (
  (K (.pointer none) H4)) (
  (ldI .i64 H4 (a0.add 0) (fun i6 =>
  (cl Tryd.prog m 76 ([.int .i64 i6, .int .i64 65536]) H4 (fun w7 H8 =>
  (∃ e9 : Bool, (must (
  w7 = .bool e9) (
  (br (!e9) (
  (K (.pointer none) H8)) (
  (cl Tryd.prog m 76 ([.int .i64 x2, .int .i64 8]) H8 (fun w10 H11 =>
  (∃ e12 : Bool, (must (
  w10 = .bool e12) (
  (br (!e12) (
  (K (.pointer none) H11)) (
  (cl Tryd.prog m 76 ([.int .i64 x3, .int .i64 8]) H11 (fun w13 H14 =>
  (∃ e15 : Bool, (must (
  w13 = .bool e15) (
  (br (!e15) (
  (K (.pointer none) H14)) (
  (br (x2 == x3) (
  (K (.pointer none) H14)) (
  (cl Tryd.prog m 76 ([.int .i64 x4, .int .i64 65536]) H14 (fun w16 H17 =>
  (∃ e18 : Bool, (must (
  w16 = .bool e18) (
  (br (!e18) (
  (K (.pointer none) H17)) (
  (ldI .i64 H17 (a0.add 0) (fun i19 =>
  (ldI .i64 H17 (a0.add 1) (fun i20 =>
  (ldI .i64 H17 (a0.add 1) (fun i21 =>
  (cl Tryd.prog m 77 ([.int .i64 i21]) H17 (fun w22 H23 =>
  (∃ r24 : Option Addr, (must (
  w22 = .pointer r24) (
  (must (
  (cont H23 (a0.add 0) (.int .i64 i19))) (
  (must (
  (cont H23 (a0.add 1) (.int .i64 i20))) (
  (nw H23 ([.int .i64 i19, .int .i64 i20, .int .i64 x2, .int .i64 x3, .int .i64 x4, .int .i64 0, .bool false, .int .i64 0, .int .i64 0, .pointer r24, .int .i64 0, .int .i64 0, .int .i64 0, .int .i64 0, .bool false, .slice none 0 0, .int .i64 0]) 82 (fun a25 H26 =>
  (br (decide (x4 > 0)) (
  (st H26 (a25.add 5) (.int .i64 (-1)) (fun H27 =>
  (K (.pointer (some a25)) H27)))) (
  (K (.pointer (some a25)) H26)))))))))))))))))))))))))))))))))))))))))))))))))))))))))))))))
theorem W54 (m : Amb) (x0 : Int) (x1 : Int) (x2 : Int) (x3 : Int) (x4 : Int) (H : Hp) (K : Value → Hp → Prop) : funcW Tryd.prog m [] Tryd.f54 [.g [.i .i64 x0, .i .i64 x1], .c (.i .i64 x2), .c (.i .i64 x3), .c (.i .i64 x4)] H K = t54 m x0 x1 x2 x3 x4 H K := by kernel_rfl
theorem S54 {m : Amb} {x0 : Int} {x1 : Int} {x2 : Int} {x3 : Int} {x4 : Int} {H : Hp} {K : Value → Hp → Prop} (h : t54 m x0 x1 x2 x3 x4 H K) : CallsH Tryd.prog m 54 [.agg #[.int .i64 x0, .int .i64 x1], .int .i64 x2, .int .i64 x3, .int .i64 x4] H K :=
  callsH_of_W (args := [.g [.i .i64 x0, .i .i64 x1], .c (.i .i64 x2), .c (.i .i64 x3), .c (.i .i64 x4)]) mixed Tryd.func54 ((W54 m x0 x1 x2 x3 x4 H K).mpr h)

/-- switchyard/plot.ringed -/
def t55 (m : Amb) (x0 : Int) (H : Hp) (K : Value → Hp → Prop) : Prop :=
  (cl Tryd.prog m 78 ([.int .i64 x0]) H (fun w0 H1 =>
  (∃ i2 : Int, (∃ e3 : Bool, (must (
  w0 = .tuple #[.int .i64 i2, .bool e3]) (
  (br e3 (
  (br (decide (i2 > 0)) (
  (K (.bool (decide (x0 ≤ 64))) H1)) (
  (K (.bool false) H1)))) (
  (K (.bool false) H1)))))))))
theorem W55 (m : Amb) (x0 : Int) (H : Hp) (K : Value → Hp → Prop) : funcW Tryd.prog m [] Tryd.f55 [.c (.i .i64 x0)] H K = t55 m x0 H K := by kernel_rfl
theorem S55 {m : Amb} {x0 : Int} {H : Hp} {K : Value → Hp → Prop} (h : t55 m x0 H K) : CallsH Tryd.prog m 55 [.int .i64 x0] H K :=
  callsH_of_W (args := [.c (.i .i64 x0)]) mixed Tryd.func55 ((W55 m x0 H K).mpr h)

/-- switchyard/port.has -/
def t56 (m : Amb) (q0 : Option Addr) (n0 : Nat) (c0 : Nat) (x1 : Int) (H : Hp) (K : Value → Hp → Prop) : Prop :=
  (br (decide (x1 ≥ 0)) (
  (K (.bool (decide (x1 < (n0 : Int)))) H)) (
  (K (.bool false) H)))
theorem W56 (m : Amb) (q0 : Option Addr) (n0 : Nat) (c0 : Nat) (x1 : Int) (H : Hp) (K : Value → Hp → Prop) : funcW Tryd.prog m [] Tryd.f56 [.c (.sl q0 n0 c0), .c (.i .i64 x1)] H K = t56 m q0 n0 c0 x1 H K := by kernel_rfl
theorem S56 {m : Amb} {q0 : Option Addr} {n0 : Nat} {c0 : Nat} {x1 : Int} {H : Hp} {K : Value → Hp → Prop} (h : t56 m q0 n0 c0 x1 H K) : CallsH Tryd.prog m 56 [.slice q0 n0 c0, .int .i64 x1] H K :=
  callsH_of_W (args := [.c (.sl q0 n0 c0), .c (.i .i64 x1)]) mixed Tryd.func56 ((W56 m q0 n0 c0 x1 H K).mpr h)

/-- switchyard/wrap.Word -/
def t57 (m : Amb) (x0 : Int) (H : Hp) (K : Value → Hp → Prop) : Prop :=
  (K (.int .i64 (bitsOf .and .i64 x0 65535)) H)
theorem W57 (m : Amb) (x0 : Int) (H : Hp) (K : Value → Hp → Prop) : funcW Tryd.prog m [] Tryd.f57 [.c (.i .i64 x0)] H K = t57 m x0 H K := by kernel_rfl
theorem S57 {m : Amb} {x0 : Int} {H : Hp} {K : Value → Hp → Prop} (h : t57 m x0 H K) : CallsH Tryd.prog m 57 [.int .i64 x0] H K :=
  callsH_of_W (args := [.c (.i .i64 x0)]) mixed Tryd.func57 ((W57 m x0 H K).mpr h)

/-- (switchyard/taker.Taker).place -/
def t69 (m : Amb) (p0 : Option Addr) (x1 : Int) (x2 : Int) (x3 : Int) (H : Hp) (K : Value → Hp → Prop) : Prop :=
  (nn p0 (fun a0 =>
  (ldI .i64 H ((a0.add 0).add 0) (fun i1 =>
  (ldI .i64 H ((a0.add 0).add 1) (fun i2 =>
  (cl Tryd.prog m 89 ([.agg #[.int .i64 i1, .int .i64 i2], .int .i64 x1, .int .i64 x2, .int .i64 x3]) H (fun w3 H4 =>
  (∃ i5 : Int, (∃ e6 : Bool, (must (
  w3 = .tuple #[.int .i64 i5, .bool e6]) (
  (K (.int .i64 i5) H4)))))))))))))
theorem W69 (m : Amb) (p0 : Option Addr) (x1 : Int) (x2 : Int) (x3 : Int) (H : Hp) (K : Value → Hp → Prop) : funcW Tryd.prog m [] Tryd.f69 [.c (.p p0), .c (.i .i64 x1), .c (.i .i64 x2), .c (.i .i64 x3)] H K = t69 m p0 x1 x2 x3 H K := by kernel_rfl
theorem S69 {m : Amb} {p0 : Option Addr} {x1 : Int} {x2 : Int} {x3 : Int} {H : Hp} {K : Value → Hp → Prop} (h : t69 m p0 x1 x2 x3 H K) : CallsH Tryd.prog m 69 [.pointer p0, .int .i64 x1, .int .i64 x2, .int .i64 x3] H K :=
  callsH_of_W (args := [.c (.p p0), .c (.i .i64 x1), .c (.i .i64 x2), .c (.i .i64 x3)]) mixed Tryd.func69 ((W69 m p0 x1 x2 x3 H K).mpr h)

/-- switchyard/wrap.Add -/
def t70 (m : Amb) (x0 : Int) (x1 : Int) (H : Hp) (K : Value → Hp → Prop) : Prop :=
  (cl Tryd.prog m 57 ([.int .i64 x0]) H (fun w0 H1 =>
  (∃ i2 : Int, (must (
  w0 = .int .i64 i2) (
  (cl Tryd.prog m 57 ([.int .i64 x1]) H1 (fun w3 H4 =>
  (∃ i5 : Int, (must (
  w3 = .int .i64 i5) (
  (cl Tryd.prog m 57 ([.int .i64 (wr .i64 (i2 + i5))]) H4 (fun w6 H7 =>
  (∃ i8 : Int, (must (
  w6 = .int .i64 i8) (
  (K (.int .i64 i8) H7))))))))))))))))
theorem W70 (m : Amb) (x0 : Int) (x1 : Int) (H : Hp) (K : Value → Hp → Prop) : funcW Tryd.prog m [] Tryd.f70 [.c (.i .i64 x0), .c (.i .i64 x1)] H K = t70 m x0 x1 H K := by kernel_rfl
theorem S70 {m : Amb} {x0 : Int} {x1 : Int} {H : Hp} {K : Value → Hp → Prop} (h : t70 m x0 x1 H K) : CallsH Tryd.prog m 70 [.int .i64 x0, .int .i64 x1] H K :=
  callsH_of_W (args := [.c (.i .i64 x0), .c (.i .i64 x1)]) mixed Tryd.func70 ((W70 m x0 x1 H K).mpr h)

/-- (switchyard/grant.Table).Clear -/
def t71 (m : Amb) (p0 : Option Addr) (H : Hp) (K : Value → Hp → Prop) : Prop :=
  (cl Tryd.prog m 45 ([.pointer p0]) H (fun w0 H1 =>
  (∃ r2 : Option Addr, (∃ l3 : Nat, (∃ l4 : Nat, (must (
  w0 = .slice r2 l3 l4) (
  (br (!p0.isNone) (
  (nn p0 (fun a5 =>
  (st H1 ((a5.add 65).add 0) (.bool false) (fun H6 =>
  (st H6 ((a5.add 65).add 1) (.bool false) (fun H7 =>
  (st H7 ((a5.add 65).add 2) (.bool false) (fun H8 =>
  (st H8 ((a5.add 65).add 3) (.bool false) (fun H9 =>
  (st H9 ((a5.add 65).add 4) (.bool false) (fun H10 =>
  (st H10 ((a5.add 65).add 5) (.bool false) (fun H11 =>
  (st H11 ((a5.add 65).add 6) (.bool false) (fun H12 =>
  (st H12 ((a5.add 65).add 7) (.bool false) (fun H13 =>
  (st H13 ((a5.add 65).add 8) (.bool false) (fun H14 =>
  (st H14 ((a5.add 65).add 9) (.bool false) (fun H15 =>
  (st H15 ((a5.add 65).add 10) (.bool false) (fun H16 =>
  (st H16 ((a5.add 65).add 11) (.bool false) (fun H17 =>
  (st H17 ((a5.add 65).add 12) (.bool false) (fun H18 =>
  (st H18 ((a5.add 65).add 13) (.bool false) (fun H19 =>
  (st H19 ((a5.add 65).add 14) (.bool false) (fun H20 =>
  (st H20 ((a5.add 65).add 15) (.bool false) (fun H21 =>
  (st H21 ((a5.add 65).add 16) (.bool false) (fun H22 =>
  (st H22 ((a5.add 65).add 17) (.bool false) (fun H23 =>
  (st H23 ((a5.add 65).add 18) (.bool false) (fun H24 =>
  (st H24 ((a5.add 65).add 19) (.bool false) (fun H25 =>
  (st H25 ((a5.add 65).add 20) (.bool false) (fun H26 =>
  (st H26 ((a5.add 65).add 21) (.bool false) (fun H27 =>
  (st H27 ((a5.add 65).add 22) (.bool false) (fun H28 =>
  (st H28 ((a5.add 65).add 23) (.bool false) (fun H29 =>
  (st H29 ((a5.add 65).add 24) (.bool false) (fun H30 =>
  (st H30 ((a5.add 65).add 25) (.bool false) (fun H31 =>
  (st H31 ((a5.add 65).add 26) (.bool false) (fun H32 =>
  (st H32 ((a5.add 65).add 27) (.bool false) (fun H33 =>
  (st H33 ((a5.add 65).add 28) (.bool false) (fun H34 =>
  (st H34 ((a5.add 65).add 29) (.bool false) (fun H35 =>
  (st H35 ((a5.add 65).add 30) (.bool false) (fun H36 =>
  (st H36 ((a5.add 65).add 31) (.bool false) (fun H37 =>
  (st H37 ((a5.add 65).add 32) (.bool false) (fun H38 =>
  (st H38 ((a5.add 65).add 33) (.bool false) (fun H39 =>
  (st H39 ((a5.add 65).add 34) (.bool false) (fun H40 =>
  (st H40 ((a5.add 65).add 35) (.bool false) (fun H41 =>
  (st H41 ((a5.add 65).add 36) (.bool false) (fun H42 =>
  (st H42 ((a5.add 65).add 37) (.bool false) (fun H43 =>
  (st H43 ((a5.add 65).add 38) (.bool false) (fun H44 =>
  (st H44 ((a5.add 65).add 39) (.bool false) (fun H45 =>
  (st H45 ((a5.add 65).add 40) (.bool false) (fun H46 =>
  (st H46 ((a5.add 65).add 41) (.bool false) (fun H47 =>
  (st H47 ((a5.add 65).add 42) (.bool false) (fun H48 =>
  (st H48 ((a5.add 65).add 43) (.bool false) (fun H49 =>
  (st H49 ((a5.add 65).add 44) (.bool false) (fun H50 =>
  (st H50 ((a5.add 65).add 45) (.bool false) (fun H51 =>
  (st H51 ((a5.add 65).add 46) (.bool false) (fun H52 =>
  (st H52 ((a5.add 65).add 47) (.bool false) (fun H53 =>
  (st H53 ((a5.add 65).add 48) (.bool false) (fun H54 =>
  (st H54 ((a5.add 65).add 49) (.bool false) (fun H55 =>
  (st H55 ((a5.add 65).add 50) (.bool false) (fun H56 =>
  (st H56 ((a5.add 65).add 51) (.bool false) (fun H57 =>
  (st H57 ((a5.add 65).add 52) (.bool false) (fun H58 =>
  (st H58 ((a5.add 65).add 53) (.bool false) (fun H59 =>
  (st H59 ((a5.add 65).add 54) (.bool false) (fun H60 =>
  (st H60 ((a5.add 65).add 55) (.bool false) (fun H61 =>
  (st H61 ((a5.add 65).add 56) (.bool false) (fun H62 =>
  (st H62 ((a5.add 65).add 57) (.bool false) (fun H63 =>
  (st H63 ((a5.add 65).add 58) (.bool false) (fun H64 =>
  (st H64 ((a5.add 65).add 59) (.bool false) (fun H65 =>
  (st H65 ((a5.add 65).add 60) (.bool false) (fun H66 =>
  (st H66 ((a5.add 65).add 61) (.bool false) (fun H67 =>
  (st H67 ((a5.add 65).add 62) (.bool false) (fun H68 =>
  (st H68 ((a5.add 65).add 63) (.bool false) (fun H69 =>
  (K (.int .i64 (l3 : Int)) H69)))))))))))))))))))))))))))))))))))))))))))))))))))))))))))))))))))))))))))))))))))))))))))))))))))))))))))))))))))))))))))))))))))) (
  (K (.int .i64 (l3 : Int)) H1))))))))))
theorem W71 (m : Amb) (p0 : Option Addr) (H : Hp) (K : Value → Hp → Prop) : funcW Tryd.prog m [] Tryd.f71 [.c (.p p0)] H K = t71 m p0 H K := by kernel_rfl
theorem S71 {m : Amb} {p0 : Option Addr} {H : Hp} {K : Value → Hp → Prop} (h : t71 m p0 H K) : CallsH Tryd.prog m 71 [.pointer p0] H K :=
  callsH_of_W (args := [.c (.p p0)]) mixed Tryd.func71 ((W71 m p0 H K).mpr h)

/-- switchyard/wrap.Sub -/
def t72 (m : Amb) (x0 : Int) (x1 : Int) (H : Hp) (K : Value → Hp → Prop) : Prop :=
  (cl Tryd.prog m 57 ([.int .i64 x0]) H (fun w0 H1 =>
  (∃ i2 : Int, (must (
  w0 = .int .i64 i2) (
  (cl Tryd.prog m 57 ([.int .i64 x1]) H1 (fun w3 H4 =>
  (∃ i5 : Int, (must (
  w3 = .int .i64 i5) (
  (cl Tryd.prog m 57 ([.int .i64 (wr .i64 (i2 - i5))]) H4 (fun w6 H7 =>
  (∃ i8 : Int, (must (
  w6 = .int .i64 i8) (
  (K (.int .i64 i8) H7))))))))))))))))
theorem W72 (m : Amb) (x0 : Int) (x1 : Int) (H : Hp) (K : Value → Hp → Prop) : funcW Tryd.prog m [] Tryd.f72 [.c (.i .i64 x0), .c (.i .i64 x1)] H K = t72 m x0 x1 H K := by kernel_rfl
theorem S72 {m : Amb} {x0 : Int} {x1 : Int} {H : Hp} {K : Value → Hp → Prop} (h : t72 m x0 x1 H K) : CallsH Tryd.prog m 72 [.int .i64 x0, .int .i64 x1] H K :=
  callsH_of_W (args := [.c (.i .i64 x0), .c (.i .i64 x1)]) mixed Tryd.func72 ((W72 m x0 x1 H K).mpr h)

/-- slices.Index[[]int,int] -/
def t73 (m : Amb) (q0 : Option Addr) (n0 : Nat) (c0 : Nat) (x1 : Int) (H : Hp) (K : Value → Hp → Prop) : Prop :=
  (∃ I0 : Int → Hp → Prop, (∃ I1 : Int → Hp → Nat, ((I0 0 H) ∧
  (∀ i2 : Int, (∀ H3 : Hp, (∀ l4 : Nat, (∀ j5 : Nat → Value, (((I0 i2 H3)) → 
  ((I1 i2 H3 = l4) → 
  (br (decide (i2 < (n0 : Int))) (
  (ixS q0 i2 n0 (fun a6 =>
  (ldI .i64 H3 (a6.add (i2.toNat * 1)) (fun i7 =>
  (br (x1 == i7) (
  (K (.int .i64 i2) H3)) (
  ((I0 (wr .i64 (i2 + 1)) H3) ∧
  ((I1 (wr .i64 (i2 + 1)) H3).succ.le l4))))))))) (
  (K (.int .i64 (-1)) H3))))))))))))
theorem W73 (m : Amb) (q0 : Option Addr) (n0 : Nat) (c0 : Nat) (x1 : Int) (H : Hp) (K : Value → Hp → Prop) : funcW Tryd.prog m [⟨true, 3, [(8, (.i .i64))]⟩] Tryd.f73 [.c (.sl q0 n0 c0), .c (.i .i64 x1)] H K = t73 m q0 n0 c0 x1 H K := by kernel_rfl
theorem S73 {m : Amb} {q0 : Option Addr} {n0 : Nat} {c0 : Nat} {x1 : Int} {H : Hp} {K : Value → Hp → Prop} (h : t73 m q0 n0 c0 x1 H K) : CallsH Tryd.prog m 73 [.slice q0 n0 c0, .int .i64 x1] H K :=
  callsH_of_W (args := [.c (.sl q0 n0 c0), .c (.i .i64 x1)]) mixed Tryd.func73 ((W73 m q0 n0 c0 x1 H K).mpr h)

/-- (switchyard/grant.Table).Len -/
def t74 (m : Amb) (p0 : Option Addr) (H : Hp) (K : Value → Hp → Prop) : Prop :=
  (br p0.isNone (
  (K (.int .i64 0) H)) (
  (nn p0 (fun a0 =>
  (ldI .i64 H (a0.add 0) (fun i1 =>
  (K (.int .i64 i1) H)))))))
theorem W74 (m : Amb) (p0 : Option Addr) (H : Hp) (K : Value → Hp → Prop) : funcW Tryd.prog m [] Tryd.f74 [.c (.p p0)] H K = t74 m p0 H K := by kernel_rfl
theorem S74 {m : Amb} {p0 : Option Addr} {H : Hp} {K : Value → Hp → Prop} (h : t74 m p0 H K) : CallsH Tryd.prog m 74 [.pointer p0] H K :=
  callsH_of_W (args := [.c (.p p0)]) mixed Tryd.func74 ((W74 m p0 H K).mpr h)

/-- (switchyard/grant.Table).Give -/
def t75 (m : Amb) (p0 : Option Addr) (x1 : Int) (H : Hp) (K : Value → Hp → Prop) : Prop :=
  (br (decide (x1 < 0)) (
  (K (.tuple #[.int .i64 0, .bool false]) H)) (
  (cl Tryd.prog m 74 ([.pointer p0]) H (fun w0 H1 =>
  (∃ i2 : Int, (must (
  w0 = .int .i64 i2) (
  (br (decide (x1 ≥ i2)) (
  (K (.tuple #[.int .i64 0, .bool false]) H1)) (
  (nn p0 (fun a3 =>
  (ixA x1 64 (
  (ldB H1 ((a3.add 65).add (x1.toNat * 1)) (fun e4 =>
  (br e4 (
  (K (.tuple #[.int .i64 0, .bool false]) H1)) (
  (nn p0 (fun a5 =>
  (ixA x1 64 (
  (ldI .i64 H1 ((a5.add 1).add (x1.toNat * 1)) (fun i6 =>
  (nn p0 (fun a7 =>
  (nn p0 (fun a8 =>
  (cl Tryd.prog m 70 ([.int .i64 i6, .int .i64 1]) H1 (fun w9 H10 =>
  (∃ i11 : Int, (must (
  w9 = .int .i64 i11) (
  (ixA x1 64 (
  (st H10 ((a7.add 1).add (x1.toNat * 1)) (.int .i64 i11) (fun H12 =>
  (ixA x1 64 (
  (st H12 ((a8.add 65).add (x1.toNat * 1)) (.bool true) (fun H13 =>
  (nn p0 (fun a14 =>
  (ixA x1 64 (
  (ldI .i64 H13 ((a14.add 1).add (x1.toNat * 1)) (fun i15 =>
  (K (.tuple #[.int .i64 (wr .i64 (wr .i64 (i15 * 64) + x1)), .bool true]) H13)))))))))))))))))))))))))))))))))))))))))))))))
theorem W75 (m : Amb) (p0 : Option Addr) (x1 : Int) (H : Hp) (K : Value → Hp → Prop) : funcW Tryd.prog m [] Tryd.f75 [.c (.p p0), .c (.i .i64 x1)] H K = t75 m p0 x1 H K := by kernel_rfl
theorem S75 {m : Amb} {p0 : Option Addr} {x1 : Int} {H : Hp} {K : Value → Hp → Prop} (h : t75 m p0 x1 H K) : CallsH Tryd.prog m 75 [.pointer p0, .int .i64 x1] H K :=
  callsH_of_W (args := [.c (.p p0), .c (.i .i64 x1)]) mixed Tryd.func75 ((W75 m p0 x1 H K).mpr h)

/-- switchyard/taker.New$1 -/
def t76 (m : Amb) (x0 : Int) (x1 : Int) (H : Hp) (K : Value → Hp → Prop) : Prop :=
  (br (decide (x0 ≥ 0)) (
  (K (.bool (decide (x0 < x1))) H)) (
  (K (.bool false) H)))
theorem W76 (m : Amb) (x0 : Int) (x1 : Int) (H : Hp) (K : Value → Hp → Prop) : funcW Tryd.prog m [] Tryd.f76 [.c (.i .i64 x0), .c (.i .i64 x1)] H K = t76 m x0 x1 H K := by kernel_rfl
theorem S76 {m : Amb} {x0 : Int} {x1 : Int} {H : Hp} {K : Value → Hp → Prop} (h : t76 m x0 x1 H K) : CallsH Tryd.prog m 76 [.int .i64 x0, .int .i64 x1] H K :=
  callsH_of_W (args := [.c (.i .i64 x0), .c (.i .i64 x1)]) mixed Tryd.func76 ((W76 m x0 x1 H K).mpr h)

/-- switchyard/grant.New -/
def t77 (m : Amb) (x0 : Int) (H : Hp) (K : Value → Hp → Prop) : Prop :=
  (br (decide (x0 < 1)) (
  (K (.pointer none) H)) (
  (br (decide (x0 > 64)) (
  (K (.pointer none) H)) (
  (nw H ([.int .i64 x0, .int .i64 0, .int .i64 0, .int .i64 0, .int .i64 0, .int .i64 0, .int .i64 0, .int .i64 0, .int .i64 0, .int .i64 0, .int .i64 0, .int .i64 0, .int .i64 0, .int .i64 0, .int .i64 0, .int .i64 0, .int .i64 0, .int .i64 0, .int .i64 0, .int .i64 0, .int .i64 0, .int .i64 0, .int .i64 0, .int .i64 0, .int .i64 0, .int .i64 0, .int .i64 0, .int .i64 0, .int .i64 0, .int .i64 0, .int .i64 0, .int .i64 0, .int .i64 0, .int .i64 0, .int .i64 0, .int .i64 0, .int .i64 0, .int .i64 0, .int .i64 0, .int .i64 0, .int .i64 0, .int .i64 0, .int .i64 0, .int .i64 0, .int .i64 0, .int .i64 0, .int .i64 0, .int .i64 0, .int .i64 0, .int .i64 0, .int .i64 0, .int .i64 0, .int .i64 0, .int .i64 0, .int .i64 0, .int .i64 0, .int .i64 0, .int .i64 0, .int .i64 0, .int .i64 0, .int .i64 0, .int .i64 0, .int .i64 0, .int .i64 0, .int .i64 0, .bool false, .bool false, .bool false, .bool false, .bool false, .bool false, .bool false, .bool false, .bool false, .bool false, .bool false, .bool false, .bool false, .bool false, .bool false, .bool false, .bool false, .bool false, .bool false, .bool false, .bool false, .bool false, .bool false, .bool false, .bool false, .bool false, .bool false, .bool false, .bool false, .bool false, .bool false, .bool false, .bool false, .bool false, .bool false, .bool false, .bool false, .bool false, .bool false, .bool false, .bool false, .bool false, .bool false, .bool false, .bool false, .bool false, .bool false, .bool false, .bool false, .bool false, .bool false, .bool false, .bool false, .bool false, .bool false, .bool false, .bool false, .bool false, .bool false, .bool false, .bool false, .bool false, .bool false, .bool false]) 111 (fun a0 H1 =>
  (K (.pointer (some a0)) H1)))))))
theorem W77 (m : Amb) (x0 : Int) (H : Hp) (K : Value → Hp → Prop) : funcW Tryd.prog m [] Tryd.f77 [.c (.i .i64 x0)] H K = t77 m x0 H K := by kernel_rfl
theorem S77 {m : Amb} {x0 : Int} {H : Hp} {K : Value → Hp → Prop} (h : t77 m x0 H K) : CallsH Tryd.prog m 77 [.int .i64 x0] H K :=
  callsH_of_W (args := [.c (.i .i64 x0)]) mixed Tryd.func77 ((W77 m x0 H K).mpr h)

/-- switchyard/wrap.Log -/
def t78 (m : Amb) (x0 : Int) (H : Hp) (K : Value → Hp → Prop) : Prop :=
  (br (decide (x0 < 1)) (
  (K (.tuple #[.int .i64 0, .bool false]) H)) (
  (br (bitsOf .and .i64 x0 (wr .i64 (x0 - 1)) != 0) (
  (K (.tuple #[.int .i64 0, .bool false]) H)) (
  (cl Tryd.prog m 90 ([.int .u64 (wr .u64 x0)]) H (fun w0 H1 =>
  (∃ i2 : Int, (must (
  w0 = .int .i64 i2) (
  (K (.tuple #[.int .i64 i2, .bool true]) H1))))))))))
theorem W78 (m : Amb) (x0 : Int) (H : Hp) (K : Value → Hp → Prop) : funcW Tryd.prog m [] Tryd.f78 [.c (.i .i64 x0)] H K = t78 m x0 H K := by kernel_rfl
theorem S78 {m : Amb} {x0 : Int} {H : Hp} {K : Value → Hp → Prop} (h : t78 m x0 H K) : CallsH Tryd.prog m 78 [.int .i64 x0] H K :=
  callsH_of_W (args := [.c (.i .i64 x0)]) mixed Tryd.func78 ((W78 m x0 H K).mpr h)

/-- (switchyard/plot.Plot).At -/
def t89 (m : Amb) (x0 : Int) (x1 : Int) (x2 : Int) (x3 : Int) (x4 : Int) (H : Hp) (K : Value → Hp → Prop) : Prop :=
  (nw H ([.int .i64 x0, .int .i64 x1]) 41 (fun a0 H1 =>
  (br (x2 == 8) (
  (br (decide (x2 < 1)) (
  (K (.tuple #[.int .i64 0, .bool false]) H1)) (
  (br (decide (x2 > 8)) (
  (K (.tuple #[.int .i64 0, .bool false]) H1)) (
  (br (decide (x4 < 0)) (
  (K (.tuple #[.int .i64 0, .bool false]) H1)) (
  (br (decide (x4 ≥ 8)) (
  (K (.tuple #[.int .i64 0, .bool false]) H1)) (
  (br (decide (x2 < 5)) (
  (ldI .i64 H1 (a0.add 0) (fun i2 =>
  (cl Tryd.prog m 93 ([.bool (x3 == 0)]) H1 (fun w3 H4 =>
  (∃ i5 : Int, (must (
  w3 = .int .i64 i5) (
  (must (
  (cont H4 (a0.add 0) (.int .i64 i2))) (
  (K (.tuple #[.int .i64 (wr .i64 (wr .i64 (wr .i64 (i2 + x2) - 1) * i5)), .bool (x3 == 0)]) H4))))))))))) (
  (br (decide (x3 < 0)) (
  (K (.tuple #[.int .i64 0, .bool false]) H1)) (
  (ldI .i64 H1 (a0.add 1) (fun i6 =>
  (br (decide (x3 ≥ i6)) (
  (K (.tuple #[.int .i64 0, .bool false]) H1)) (
  (ldI .i64 H1 (a0.add 0) (fun i7 =>
  (ixA x2 9 (
  (ldI .i64 H1 ((⟨0, 0, none⟩ : Addr).add (x2.toNat * 1)) (fun i8 =>
  (ldI .i64 H1 (a0.add 1) (fun i9 =>
  (K (.tuple #[.int .i64 (wr .i64 (wr .i64 (wr .i64 (wr .i64 (i7 + 4) + wr .i64 (i8 * i9)) + wr .i64 (8 * x3)) + x4)), .bool true]) H1)))))))))))))))))))))))))) (
  (br (decide (x2 < 1)) (
  (K (.tuple #[.int .i64 0, .bool false]) H1)) (
  (br (decide (x2 > 8)) (
  (K (.tuple #[.int .i64 0, .bool false]) H1)) (
  (br (decide (x4 < 0)) (
  (K (.tuple #[.int .i64 0, .bool false]) H1)) (
  (br (decide (x4 ≥ 1)) (
  (K (.tuple #[.int .i64 0, .bool false]) H1)) (
  (br (decide (x2 < 5)) (
  (ldI .i64 H1 (a0.add 0) (fun i10 =>
  (cl Tryd.prog m 93 ([.bool (x3 == 0)]) H1 (fun w11 H12 =>
  (∃ i13 : Int, (must (
  w11 = .int .i64 i13) (
  (must (
  (cont H12 (a0.add 0) (.int .i64 i10))) (
  (K (.tuple #[.int .i64 (wr .i64 (wr .i64 (wr .i64 (i10 + x2) - 1) * i13)), .bool (x3 == 0)]) H12))))))))))) (
  (br (decide (x3 < 0)) (
  (K (.tuple #[.int .i64 0, .bool false]) H1)) (
  (ldI .i64 H1 (a0.add 1) (fun i14 =>
  (br (decide (x3 ≥ i14)) (
  (K (.tuple #[.int .i64 0, .bool false]) H1)) (
  (ldI .i64 H1 (a0.add 0) (fun i15 =>
  (ixA x2 9 (
  (ldI .i64 H1 ((⟨0, 0, none⟩ : Addr).add (x2.toNat * 1)) (fun i16 =>
  (ldI .i64 H1 (a0.add 1) (fun i17 =>
  (K (.tuple #[.int .i64 (wr .i64 (wr .i64 (wr .i64 (wr .i64 (i15 + 4) + wr .i64 (i16 * i17)) + wr .i64 (1 * x3)) + x4)), .bool true]) H1)))))))))))))))))))))))))))))
theorem W89 (m : Amb) (x0 : Int) (x1 : Int) (x2 : Int) (x3 : Int) (x4 : Int) (H : Hp) (K : Value → Hp → Prop) : funcW Tryd.prog m [] Tryd.f89 [.g [.i .i64 x0, .i .i64 x1], .c (.i .i64 x2), .c (.i .i64 x3), .c (.i .i64 x4)] H K = t89 m x0 x1 x2 x3 x4 H K := by kernel_rfl
theorem S89 {m : Amb} {x0 : Int} {x1 : Int} {x2 : Int} {x3 : Int} {x4 : Int} {H : Hp} {K : Value → Hp → Prop} (h : t89 m x0 x1 x2 x3 x4 H K) : CallsH Tryd.prog m 89 [.agg #[.int .i64 x0, .int .i64 x1], .int .i64 x2, .int .i64 x3, .int .i64 x4] H K :=
  callsH_of_W (args := [.g [.i .i64 x0, .i .i64 x1], .c (.i .i64 x2), .c (.i .i64 x3), .c (.i .i64 x4)]) mixed Tryd.func89 ((W89 m x0 x1 x2 x3 x4 H K).mpr h)

/-- math/bits.TrailingZeros64 -/
def t90 (m : Amb) (x0 : Int) (H : Hp) (K : Value → Hp → Prop) : Prop :=
  (br (x0 == 0) (
  (K (.int .i64 64) H)) (
  (must (
  (0 : Int) ≤ 58) (
  (ixA (shrOf .u64 (wr .u64 (bitsOf .and .u64 x0 (wr .u64 (0 - x0)) * 285870213051353865)) 58) 64 (
  (ldI .u8 H ((⟨1, 0, none⟩ : Addr).add ((shrOf .u64 (wr .u64 (bitsOf .and .u64 x0 (wr .u64 (0 - x0)) * 285870213051353865)) 58).toNat * 1)) (fun i0 =>
  (K (.int .i64 (wr .i64 i0)) H)))))))))
theorem W90 (m : Amb) (x0 : Int) (H : Hp) (K : Value → Hp → Prop) : funcW Tryd.prog m [] Tryd.f90 [.c (.i .u64 x0)] H K = t90 m x0 H K := by kernel_rfl
theorem S90 {m : Amb} {x0 : Int} {H : Hp} {K : Value → Hp → Prop} (h : t90 m x0 H K) : CallsH Tryd.prog m 90 [.int .u64 x0] H K :=
  callsH_of_W (args := [.c (.i .u64 x0)]) mixed Tryd.func90 ((W90 m x0 H K).mpr h)

/-- switchyard/plot.both -/
def t93 (m : Amb) (b0 : Bool) (H : Hp) (K : Value → Hp → Prop) : Prop :=
  (br b0 (
  (K (.int .i64 1) H)) (
  (K (.int .i64 0) H)))
theorem W93 (m : Amb) (b0 : Bool) (H : Hp) (K : Value → Hp → Prop) : funcW Tryd.prog m [] Tryd.f93 [.c (.b b0)] H K = t93 m b0 H K := by kernel_rfl
theorem S93 {m : Amb} {b0 : Bool} {H : Hp} {K : Value → Hp → Prop} (h : t93 m b0 H K) : CallsH Tryd.prog m 93 [.bool b0] H K :=
  callsH_of_W (args := [.c (.b b0)]) mixed Tryd.func93 ((W93 m b0 H K).mpr h)

/-- (switchyard/port.Plain).Epoch -/
def t109 (m : Amb) (p0 : Option Addr) (x1 : Int) (H : Hp) (K : Value → Hp → Prop) : Prop :=
  (br p0.isNone (
  (K (.int .i64 0) H)) (
  (nn p0 (fun a0 =>
  (ldS H (a0.add 1) (fun r1 l2 l3 =>
  (cl Tryd.prog m 56 ([.slice r1 l2 l3, .int .i64 x1]) H (fun w4 H5 =>
  (∃ e6 : Bool, (must (
  w4 = .bool e6) (
  (br (!e6) (
  (K (.int .i64 0) H5)) (
  (nn p0 (fun a7 =>
  (ldS H5 (a7.add 1) (fun r8 l9 l10 =>
  (ixS r8 x1 l9 (fun a11 =>
  (ldI .i64 H5 (a11.add (x1.toNat * 1)) (fun i12 =>
  (K (.int .i64 i12) H5))))))))))))))))))))))
theorem W109 (m : Amb) (p0 : Option Addr) (x1 : Int) (H : Hp) (K : Value → Hp → Prop) : funcW Tryd.prog m [] Tryd.f109 [.c (.p p0), .c (.i .i64 x1)] H K = t109 m p0 x1 H K := by kernel_rfl
theorem S109 {m : Amb} {p0 : Option Addr} {x1 : Int} {H : Hp} {K : Value → Hp → Prop} (h : t109 m p0 x1 H K) : CallsH Tryd.prog m 109 [.pointer p0, .int .i64 x1] H K :=
  callsH_of_W (args := [.c (.p p0), .c (.i .i64 x1)]) mixed Tryd.func109 ((W109 m p0 x1 H K).mpr h)

/-- (switchyard/port.Plain).Fence -/
def t110 (m : Amb) (p0 : Option Addr) (H : Hp) (K : Value → Hp → Prop) : Prop :=
  (K (.tuple #[]) H)
theorem W110 (m : Amb) (p0 : Option Addr) (H : Hp) (K : Value → Hp → Prop) : funcW Tryd.prog m [] Tryd.f110 [.c (.p p0)] H K = t110 m p0 H K := by kernel_rfl
theorem S110 {m : Amb} {p0 : Option Addr} {H : Hp} {K : Value → Hp → Prop} (h : t110 m p0 H K) : CallsH Tryd.prog m 110 [.pointer p0] H K :=
  callsH_of_W (args := [.c (.p p0)]) mixed Tryd.func110 ((W110 m p0 H K).mpr h)

/-- (switchyard/port.Trace).Epoch -/
def t111 (m : Amb) (p0 : Option Addr) (x1 : Int) (H : Hp) (K : Value → Hp → Prop) : Prop :=
  (br p0.isNone (
  (K (.int .i64 0) H)) (
  (nn p0 (fun a0 =>
  (ldV H (a0.add 0) (fun w1 =>
  (inv Tryd.prog m w1 ("Epoch") ([.int .i64 x1]) H (fun w2 H3 =>
  (∃ i4 : Int, (must (
  w2 = .int .i64 i4) (
  (cl Tryd.prog m 115 ([.pointer p0, .int .i64 4, .int .i64 x1, .int .i64 i4]) H3 (fun w5 H6 =>
  (must (
  w5 = .tuple #[]) (
  (K (.int .i64 i4) H6))))))))))))))))
theorem W111 (m : Amb) (p0 : Option Addr) (x1 : Int) (H : Hp) (K : Value → Hp → Prop) : funcW Tryd.prog m [] Tryd.f111 [.c (.p p0), .c (.i .i64 x1)] H K = t111 m p0 x1 H K := by kernel_rfl
theorem S111 {m : Amb} {p0 : Option Addr} {x1 : Int} {H : Hp} {K : Value → Hp → Prop} (h : t111 m p0 x1 H K) : CallsH Tryd.prog m 111 [.pointer p0, .int .i64 x1] H K :=
  callsH_of_W (args := [.c (.p p0), .c (.i .i64 x1)]) mixed Tryd.func111 ((W111 m p0 x1 H K).mpr h)

/-- (switchyard/port.Trace).Fence -/
def t112 (m : Amb) (p0 : Option Addr) (H : Hp) (K : Value → Hp → Prop) : Prop :=
  (br (!p0.isNone) (
  (nn p0 (fun a0 =>
  (ldV H (a0.add 0) (fun w1 =>
  (inv Tryd.prog m w1 ("Fence") ([]) H (fun w2 H3 =>
  (must (
  w2 = .tuple #[]) (
  (cl Tryd.prog m 115 ([.pointer p0, .int .i64 3, .int .i64 0, .int .i64 0]) H3 (fun w4 H5 =>
  (must (
  w4 = .tuple #[]) (
  (K (.tuple #[]) H5)))))))))))))) (
  (K (.tuple #[]) H)))
theorem W112 (m : Amb) (p0 : Option Addr) (H : Hp) (K : Value → Hp → Prop) : funcW Tryd.prog m [] Tryd.f112 [.c (.p p0)] H K = t112 m p0 H K := by kernel_rfl
theorem S112 {m : Amb} {p0 : Option Addr} {H : Hp} {K : Value → Hp → Prop} (h : t112 m p0 H K) : CallsH Tryd.prog m 112 [.pointer p0] H K :=
  callsH_of_W (args := [.c (.p p0)]) mixed Tryd.func112 ((W112 m p0 H K).mpr h)

/-- (switchyard/port.Trace).Load -/
def t113 (m : Amb) (p0 : Option Addr) (x1 : Int) (H : Hp) (K : Value → Hp → Prop) : Prop :=
  (br p0.isNone (
  (K (.int .i64 0) H)) (
  (nn p0 (fun a0 =>
  (ldV H (a0.add 0) (fun w1 =>
  (inv Tryd.prog m w1 ("Load") ([.int .i64 x1]) H (fun w2 H3 =>
  (∃ i4 : Int, (must (
  w2 = .int .i64 i4) (
  (cl Tryd.prog m 115 ([.pointer p0, .int .i64 1, .int .i64 x1, .int .i64 i4]) H3 (fun w5 H6 =>
  (must (
  w5 = .tuple #[]) (
  (K (.int .i64 i4) H6))))))))))))))))
theorem W113 (m : Amb) (p0 : Option Addr) (x1 : Int) (H : Hp) (K : Value → Hp → Prop) : funcW Tryd.prog m [] Tryd.f113 [.c (.p p0), .c (.i .i64 x1)] H K = t113 m p0 x1 H K := by kernel_rfl
theorem S113 {m : Amb} {p0 : Option Addr} {x1 : Int} {H : Hp} {K : Value → Hp → Prop} (h : t113 m p0 x1 H K) : CallsH Tryd.prog m 113 [.pointer p0, .int .i64 x1] H K :=
  callsH_of_W (args := [.c (.p p0), .c (.i .i64 x1)]) mixed Tryd.func113 ((W113 m p0 x1 H K).mpr h)

/-- (switchyard/port.Trace).Store -/
def t114 (m : Amb) (p0 : Option Addr) (x1 : Int) (x2 : Int) (H : Hp) (K : Value → Hp → Prop) : Prop :=
  (br (!p0.isNone) (
  (nn p0 (fun a0 =>
  (ldV H (a0.add 0) (fun w1 =>
  (inv Tryd.prog m w1 ("Store") ([.int .i64 x1, .int .i64 x2]) H (fun w2 H3 =>
  (must (
  w2 = .tuple #[]) (
  (cl Tryd.prog m 115 ([.pointer p0, .int .i64 2, .int .i64 x1, .int .i64 x2]) H3 (fun w4 H5 =>
  (must (
  w4 = .tuple #[]) (
  (K (.tuple #[]) H5)))))))))))))) (
  (K (.tuple #[]) H)))
theorem W114 (m : Amb) (p0 : Option Addr) (x1 : Int) (x2 : Int) (H : Hp) (K : Value → Hp → Prop) : funcW Tryd.prog m [] Tryd.f114 [.c (.p p0), .c (.i .i64 x1), .c (.i .i64 x2)] H K = t114 m p0 x1 x2 H K := by kernel_rfl
theorem S114 {m : Amb} {p0 : Option Addr} {x1 : Int} {x2 : Int} {H : Hp} {K : Value → Hp → Prop} (h : t114 m p0 x1 x2 H K) : CallsH Tryd.prog m 114 [.pointer p0, .int .i64 x1, .int .i64 x2] H K :=
  callsH_of_W (args := [.c (.p p0), .c (.i .i64 x1), .c (.i .i64 x2)]) mixed Tryd.func114 ((W114 m p0 x1 x2 H K).mpr h)

/-- (switchyard/port.Trace).keep -/
def t115 (m : Amb) (p0 : Option Addr) (x1 : Int) (x2 : Int) (x3 : Int) (H : Hp) (K : Value → Hp → Prop) : Prop :=
  (nn p0 (fun a0 =>
  (ldS H (a0.add 1) (fun r1 l2 l3 =>
  (nw H ([.int .i64 x1, .int .i64 x2, .int .i64 x3]) 76 (fun a4 H5 =>
  (rd H5 (some a4) 3 (fun cs6 =>
  (ap Tryd.prog 76 3 24 H5 r1 l2 l3 cs6 1 (fun r7 l8 l9 H10 =>
  (nn p0 (fun a11 =>
  (st H10 (a11.add 1) (.slice r7 l8 l9) (fun H12 =>
  (K (.tuple #[]) H12)))))))))))))))
theorem W115 (m : Amb) (p0 : Option Addr) (x1 : Int) (x2 : Int) (x3 : Int) (H : Hp) (K : Value → Hp → Prop) : funcW Tryd.prog m [] Tryd.f115 [.c (.p p0), .c (.i .i64 x1), .c (.i .i64 x2), .c (.i .i64 x3)] H K = t115 m p0 x1 x2 x3 H K := by kernel_rfl
theorem S115 {m : Amb} {p0 : Option Addr} {x1 : Int} {x2 : Int} {x3 : Int} {H : Hp} {K : Value → Hp → Prop} (h : t115 m p0 x1 x2 x3 H K) : CallsH Tryd.prog m 115 [.pointer p0, .int .i64 x1, .int .i64 x2, .int .i64 x3] H K :=
  callsH_of_W (args := [.c (.p p0), .c (.i .i64 x1), .c (.i .i64 x2), .c (.i .i64 x3)]) mixed Tryd.func115 ((W115 m p0 x1 x2 x3 H K).mpr h)

/-- (switchyard/port.Plain).Kick -/
def t117 (m : Amb) (p0 : Option Addr) (x1 : Int) (H : Hp) (K : Value → Hp → Prop) : Prop :=
  False
theorem W117 (m : Amb) (p0 : Option Addr) (x1 : Int) (H : Hp) (K : Value → Hp → Prop) : funcW Tryd.prog m [] Tryd.f117 [.c (.p p0), .c (.i .i64 x1)] H K = t117 m p0 x1 H K := by kernel_rfl
theorem S117 {m : Amb} {p0 : Option Addr} {x1 : Int} {H : Hp} {K : Value → Hp → Prop} (h : t117 m p0 x1 H K) : CallsH Tryd.prog m 117 [.pointer p0, .int .i64 x1] H K :=
  callsH_of_W (args := [.c (.p p0), .c (.i .i64 x1)]) mixed Tryd.func117 ((W117 m p0 x1 H K).mpr h)

/-- (switchyard/port.Trace).Kick -/
def t118 (m : Amb) (p0 : Option Addr) (x1 : Int) (H : Hp) (K : Value → Hp → Prop) : Prop :=
  False
theorem W118 (m : Amb) (p0 : Option Addr) (x1 : Int) (H : Hp) (K : Value → Hp → Prop) : funcW Tryd.prog m [] Tryd.f118 [.c (.p p0), .c (.i .i64 x1)] H K = t118 m p0 x1 H K := by kernel_rfl
theorem S118 {m : Amb} {p0 : Option Addr} {x1 : Int} {H : Hp} {K : Value → Hp → Prop} (h : t118 m p0 x1 H K) : CallsH Tryd.prog m 118 [.pointer p0, .int .i64 x1] H K :=
  callsH_of_W (args := [.c (.p p0), .c (.i .i64 x1)]) mixed Tryd.func118 ((W118 m p0 x1 H K).mpr h)

end Go.Proofs.YtdipbhbhakmaiaaDoor
