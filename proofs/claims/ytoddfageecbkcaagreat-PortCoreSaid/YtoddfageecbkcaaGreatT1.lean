/-
  SHALLOW TEXTS: of each Go function named below: what its code asks of its continuation, as the engine reckons it (written by a program of ours; each is checked by the kernel against the code).
-/
import Derived.Test.YtoddfageecbkcaaGreatT0
namespace Go.Proofs.YtoddfageecbkcaaGreat
open Go Go.Eng
set_option maxRecDepth 100000
set_option linter.unusedVariables false

/-- switchyard/soc.Same -/
def t13 (m : Amb) (p0 : Option Addr) (p1 : Option Addr) (H : Hp) (K : Value → Hp → Prop) : Prop :=
  (br p0.isNone (
  (ptrEq p0 p1 (fun e0 =>
  (K (.bool e0) H)))) (
  (br p1.isNone (
  (ptrEq p0 p1 (fun e1 =>
  (K (.bool e1) H)))) (
  (nn p0 (fun a2 =>
  (ldI .i64 H ((a2.add 0).add 0) (fun i3 =>
  (ldI .i64 H ((a2.add 0).add 1) (fun i4 =>
  (ldI .i64 H ((a2.add 0).add 2) (fun i5 =>
  (nn p1 (fun a6 =>
  (ldI .i64 H ((a6.add 0).add 0) (fun i7 =>
  (ldI .i64 H ((a6.add 0).add 1) (fun i8 =>
  (ldI .i64 H ((a6.add 0).add 2) (fun i9 =>
  (rawP Tryz.prog (Go.execOp (actV [SV.c (Sc.p p0), SV.c (Sc.p p1), SV.t [], SV.t [], SV.c Sc.ff, SV.c (Sc.p p0), SV.c (Sc.b p0.isNone), SV.c Sc.ff, SV.c (Sc.p p1), SV.c (Sc.b p1.isNone), SV.c Sc.ff, SV.t [], SV.t [], SV.t [], SV.c (Sc.p p0), SV.c (Sc.a a2), SV.c (Sc.a (a2.add 0)), SV.g [Sc.i .i64 i3, Sc.i .i64 i4, Sc.i .i64 i5], SV.c (Sc.p p1), SV.c (Sc.a a6), SV.c (Sc.a (a6.add 0)), SV.g [Sc.i .i64 i7, Sc.i .i64 i8, Sc.i .i64 i9], SV.t [], SV.t [], SV.t [], SV.t [], SV.t [], SV.t [], SV.t [], SV.t [], SV.t [], SV.t [], SV.t [], SV.t [], SV.t [], SV.t [], SV.t [], SV.t [], SV.t [], SV.t [], SV.t [], SV.t [], SV.t [], SV.t [], SV.t [], SV.t [], SV.t [], SV.t [], SV.t [], SV.t [], SV.t [], SV.t [], SV.t [], SV.t [], SV.t [], SV.t [], SV.t [], SV.t [], SV.t [], SV.t [], SV.t [], SV.t [], SV.t [], SV.t [], SV.t [], SV.t [], SV.t []]) #[{ dst := some 14, op := Go.Op.move (Go.Operand.tmp 0), type := 28, pos := "soc.go:259", after := #[], guard := none }, { dst := some 15, op := Go.Op.nilCheck (Go.Operand.tmp 14), type := 0, pos := "soc.go:259", after := #[{ on := 0, ground := Go.Ground.data }], guard := none }, { dst := some 16, op := Go.Op.fieldAddr 60 (Go.Operand.tmp 15) 0, type := 0, pos := "soc.go:259", after := #[{ on := 1, ground := Go.Ground.data }], guard := none }, { dst := some 17, op := Go.Op.load 23 (Go.Operand.tmp 16), type := 23, pos := "soc.go:259", after := #[{ on := 2, ground := Go.Ground.data }], guard := none }, { dst := some 18, op := Go.Op.move (Go.Operand.tmp 1), type := 28, pos := "soc.go:259", after := #[], guard := none }, { dst := some 19, op := Go.Op.nilCheck (Go.Operand.tmp 18), type := 0, pos := "soc.go:259", after := #[{ on := 4, ground := Go.Ground.data }], guard := none }, { dst := some 20, op := Go.Op.fieldAddr 60 (Go.Operand.tmp 19) 0, type := 0, pos := "soc.go:259", after := #[{ on := 5, ground := Go.Ground.data }], guard := none }, { dst := some 21, op := Go.Op.load 23 (Go.Operand.tmp 20), type := 23, pos := "soc.go:259", after := #[{ on := 6, ground := Go.Ground.data }], guard := none }, { dst := some 22, op := Go.Op.binOp .eql 23 (Go.Operand.tmp 17) (Go.Operand.tmp 21) 23, type := 4, pos := "soc.go:259", after := #[{ on := 3, ground := Go.Ground.data }, { on := 7, ground := Go.Ground.data }], guard := none }, { dst := some 23, op := Go.Op.move (Go.Operand.tmp 22), type := 4, pos := "soc.go:259", after := #[{ on := 8, ground := Go.Ground.data }], guard := none }, { dst := some 24, op := Go.Op.move (Go.Operand.tmp 0), type := 28, pos := "soc.go:259", after := #[{ on := 9, ground := Go.Ground.guard }], guard := some (9, true) }, { dst := some 25, op := Go.Op.nilCheck (Go.Operand.tmp 24), type := 0, pos := "soc.go:259", after := #[{ on := 10, ground := Go.Ground.data }, { on := 9, ground := Go.Ground.guard }], guard := some (9, true) }, { dst := some 26, op := Go.Op.fieldAddr 60 (Go.Operand.tmp 25) 1, type := 0, pos := "soc.go:259", after := #[{ on := 11, ground := Go.Ground.data }, { on := 9, ground := Go.Ground.guard }], guard := some (9, true) }, { dst := some 27, op := Go.Op.load 49 (Go.Operand.tmp 26), type := 49, pos := "soc.go:259", after := #[{ on := 12, ground := Go.Ground.data }, { on := 9, ground := Go.Ground.guard }], guard := some (9, true) }, { dst := some 28, op := Go.Op.move (Go.Operand.tmp 1), type := 28, pos := "soc.go:259", after := #[{ on := 9, ground := Go.Ground.guard }], guard := some (9, true) }, { dst := some 29, op := Go.Op.nilCheck (Go.Operand.tmp 28), type := 0, pos := "soc.go:259", after := #[{ on := 14, ground := Go.Ground.data }, { on := 9, ground := Go.Ground.guard }], guard := some (9, true) }, { dst := some 30, op := Go.Op.fieldAddr 60 (Go.Operand.tmp 29) 1, type := 0, pos := "soc.go:259", after := #[{ on := 15, ground := Go.Ground.data }, { on := 9, ground := Go.Ground.guard }], guard := some (9, true) }, { dst := some 31, op := Go.Op.load 49 (Go.Operand.tmp 30), type := 49, pos := "soc.go:259", after := #[{ on := 16, ground := Go.Ground.data }, { on := 9, ground := Go.Ground.guard }], guard := some (9, true) }, { dst := some 32, op := Go.Op.call { callee := Go.Callee.value (Go.Operand.func 42), args := #[Go.Operand.tmp 27, Go.Operand.tmp 31], argTypes := #[49, 49] }, type := 4, pos := "soc.go:259", after := #[{ on := 13, ground := Go.Ground.data }, { on := 17, ground := Go.Ground.data }, { on := 9, ground := Go.Ground.chain }, { on := 9, ground := Go.Ground.guard }], guard := some (9, true) }, { dst := some 33, op := Go.Op.pick (Go.Operand.tmp 23) (Go.Operand.tmp 32) (Go.Operand.const (.bool false)), type := 4, pos := "soc.go:259", after := #[{ on := 9, ground := Go.Ground.data }, { on := 18, ground := Go.Ground.data }], guard := none }, { dst := some 34, op := Go.Op.move (Go.Operand.tmp 33), type := 4, pos := "soc.go:259", after := #[{ on := 19, ground := Go.Ground.data }, { on := 18, ground := Go.Ground.chain }], guard := none }, { dst := some 35, op := Go.Op.move (Go.Operand.tmp 0), type := 28, pos := "soc.go:259", after := #[{ on := 20, ground := Go.Ground.guard }], guard := some (20, true) }, { dst := some 36, op := Go.Op.nilCheck (Go.Operand.tmp 35), type := 0, pos := "soc.go:259", after := #[{ on := 21, ground := Go.Ground.data }, { on := 20, ground := Go.Ground.guard }], guard := some (20, true) }, { dst := some 37, op := Go.Op.fieldAddr 60 (Go.Operand.tmp 36) 2, type := 0, pos := "soc.go:259", after := #[{ on := 22, ground := Go.Ground.data }, { on := 20, ground := Go.Ground.guard }], guard := some (20, true) }, { dst := some 38, op := Go.Op.load 53 (Go.Operand.tmp 37), type := 53, pos := "soc.go:259", after := #[{ on := 23, ground := Go.Ground.data }, { on := 20, ground := Go.Ground.guard }], guard := some (20, true) }, { dst := some 39, op := Go.Op.move (Go.Operand.tmp 1), type := 28, pos := "soc.go:259", after := #[{ on := 20, ground := Go.Ground.guard }], guard := some (20, true) }, { dst := some 40, op := Go.Op.nilCheck (Go.Operand.tmp 39), type := 0, pos := "soc.go:259", after := #[{ on := 25, ground := Go.Ground.data }, { on := 20, ground := Go.Ground.guard }], guard := some (20, true) }, { dst := some 41, op := Go.Op.fieldAddr 60 (Go.Operand.tmp 40) 2, type := 0, pos := "soc.go:259", after := #[{ on := 26, ground := Go.Ground.data }, { on := 20, ground := Go.Ground.guard }], guard := some (20, true) }, { dst := some 42, op := Go.Op.load 53 (Go.Operand.tmp 41), type := 53, pos := "soc.go:259", after := #[{ on := 27, ground := Go.Ground.data }, { on := 20, ground := Go.Ground.guard }], guard := some (20, true) }, { dst := some 43, op := Go.Op.call { callee := Go.Callee.value (Go.Operand.func 43), args := #[Go.Operand.tmp 38, Go.Operand.tmp 42], argTypes := #[53, 53] }, type := 4, pos := "soc.go:259", after := #[{ on := 24, ground := Go.Ground.data }, { on := 28, ground := Go.Ground.data }, { on := 20, ground := Go.Ground.chain }, { on := 20, ground := Go.Ground.guard }], guard := some (20, true) }, { dst := some 44, op := Go.Op.pick (Go.Operand.tmp 34) (Go.Operand.tmp 43) (Go.Operand.const (.bool false)), type := 4, pos := "soc.go:259", after := #[{ on := 20, ground := Go.Ground.data }, { on := 29, ground := Go.Ground.data }], guard := none }, { dst := some 45, op := Go.Op.move (Go.Operand.tmp 44), type := 4, pos := "soc.go:259", after := #[{ on := 30, ground := Go.Ground.data }, { on := 29, ground := Go.Ground.chain }], guard := none }, { dst := some 46, op := Go.Op.move (Go.Operand.tmp 0), type := 28, pos := "soc.go:259", after := #[{ on := 31, ground := Go.Ground.guard }], guard := some (31, true) }, { dst := some 47, op := Go.Op.nilCheck (Go.Operand.tmp 46), type := 0, pos := "soc.go:259", after := #[{ on := 32, ground := Go.Ground.data }, { on := 31, ground := Go.Ground.guard }], guard := some (31, true) }, { dst := some 48, op := Go.Op.fieldAddr 60 (Go.Operand.tmp 47) 3, type := 0, pos := "soc.go:259", after := #[{ on := 33, ground := Go.Ground.data }, { on := 31, ground := Go.Ground.guard }], guard := some (31, true) }, { dst := some 49, op := Go.Op.load 55 (Go.Operand.tmp 48), type := 55, pos := "soc.go:259", after := #[{ on := 34, ground := Go.Ground.data }, { on := 31, ground := Go.Ground.guard }], guard := some (31, true) }, { dst := some 50, op := Go.Op.move (Go.Operand.tmp 1), type := 28, pos := "soc.go:259", after := #[{ on := 31, ground := Go.Ground.guard }], guard := some (31, true) }, { dst := some 51, op := Go.Op.nilCheck (Go.Operand.tmp 50), type := 0, pos := "soc.go:259", after := #[{ on := 36, ground := Go.Ground.data }, { on := 31, ground := Go.Ground.guard }], guard := some (31, true) }, { dst := some 52, op := Go.Op.fieldAddr 60 (Go.Operand.tmp 51) 3, type := 0, pos := "soc.go:259", after := #[{ on := 37, ground := Go.Ground.data }, { on := 31, ground := Go.Ground.guard }], guard := some (31, true) }, { dst := some 53, op := Go.Op.load 55 (Go.Operand.tmp 52), type := 55, pos := "soc.go:259", after := #[{ on := 38, ground := Go.Ground.data }, { on := 31, ground := Go.Ground.guard }], guard := some (31, true) }, { dst := some 54, op := Go.Op.call { callee := Go.Callee.value (Go.Operand.func 44), args := #[Go.Operand.tmp 49, Go.Operand.tmp 53], argTypes := #[55, 55] }, type := 4, pos := "soc.go:259", after := #[{ on := 35, ground := Go.Ground.data }, { on := 39, ground := Go.Ground.data }, { on := 31, ground := Go.Ground.chain }, { on := 31, ground := Go.Ground.guard }], guard := some (31, true) }, { dst := some 55, op := Go.Op.pick (Go.Operand.tmp 45) (Go.Operand.tmp 54) (Go.Operand.const (.bool false)), type := 4, pos := "soc.go:259", after := #[{ on := 31, ground := Go.Ground.data }, { on := 40, ground := Go.Ground.data }], guard := none }, { dst := some 56, op := Go.Op.move (Go.Operand.tmp 55), type := 4, pos := "soc.go:259", after := #[{ on := 41, ground := Go.Ground.data }, { on := 40, ground := Go.Ground.chain }], guard := none }, { dst := some 57, op := Go.Op.move (Go.Operand.tmp 0), type := 28, pos := "soc.go:259", after := #[{ on := 42, ground := Go.Ground.guard }], guard := some (42, true) }, { dst := some 58, op := Go.Op.nilCheck (Go.Operand.tmp 57), type := 0, pos := "soc.go:259", after := #[{ on := 43, ground := Go.Ground.data }, { on := 42, ground := Go.Ground.guard }], guard := some (42, true) }, { dst := some 59, op := Go.Op.fieldAddr 60 (Go.Operand.tmp 58) 4, type := 0, pos := "soc.go:259", after := #[{ on := 44, ground := Go.Ground.data }, { on := 42, ground := Go.Ground.guard }], guard := some (42, true) }, { dst := some 60, op := Go.Op.load 57 (Go.Operand.tmp 59), type := 57, pos := "soc.go:259", after := #[{ on := 45, ground := Go.Ground.data }, { on := 42, ground := Go.Ground.guard }], guard := some (42, true) }, { dst := some 61, op := Go.Op.move (Go.Operand.tmp 1), type := 28, pos := "soc.go:259", after := #[{ on := 42, ground := Go.Ground.guard }], guard := some (42, true) }, { dst := some 62, op := Go.Op.nilCheck (Go.Operand.tmp 61), type := 0, pos := "soc.go:259", after := #[{ on := 47, ground := Go.Ground.data }, { on := 42, ground := Go.Ground.guard }], guard := some (42, true) }, { dst := some 63, op := Go.Op.fieldAddr 60 (Go.Operand.tmp 62) 4, type := 0, pos := "soc.go:259", after := #[{ on := 48, ground := Go.Ground.data }, { on := 42, ground := Go.Ground.guard }], guard := some (42, true) }, { dst := some 64, op := Go.Op.load 57 (Go.Operand.tmp 63), type := 57, pos := "soc.go:259", after := #[{ on := 49, ground := Go.Ground.data }, { on := 42, ground := Go.Ground.guard }], guard := some (42, true) }, { dst := some 65, op := Go.Op.call { callee := Go.Callee.value (Go.Operand.func 45), args := #[Go.Operand.tmp 60, Go.Operand.tmp 64], argTypes := #[57, 57] }, type := 4, pos := "soc.go:259", after := #[{ on := 46, ground := Go.Ground.data }, { on := 50, ground := Go.Ground.data }, { on := 42, ground := Go.Ground.chain }, { on := 42, ground := Go.Ground.guard }], guard := some (42, true) }, { dst := some 66, op := Go.Op.pick (Go.Operand.tmp 56) (Go.Operand.tmp 65) (Go.Operand.const (.bool false)), type := 4, pos := "soc.go:259", after := #[{ on := 42, ground := Go.Ground.data }, { on := 51, ground := Go.Ground.data }], guard := none }, { dst := some 4, op := Go.Op.assign (Go.Operand.tmp 66), type := 4, pos := "soc.go:259", after := #[{ on := 52, ground := Go.Ground.data }, { on := 51, ground := Go.Ground.chain }, { on := 0, ground := Go.Ground.phase }, { on := 1, ground := Go.Ground.phase }, { on := 2, ground := Go.Ground.phase }, { on := 3, ground := Go.Ground.phase }, { on := 4, ground := Go.Ground.phase }, { on := 5, ground := Go.Ground.phase }, { on := 6, ground := Go.Ground.phase }, { on := 7, ground := Go.Ground.phase }, { on := 8, ground := Go.Ground.phase }, { on := 9, ground := Go.Ground.phase }, { on := 10, ground := Go.Ground.phase }, { on := 11, ground := Go.Ground.phase }, { on := 12, ground := Go.Ground.phase }, { on := 13, ground := Go.Ground.phase }, { on := 14, ground := Go.Ground.phase }, { on := 15, ground := Go.Ground.phase }, { on := 16, ground := Go.Ground.phase }, { on := 17, ground := Go.Ground.phase }, { on := 18, ground := Go.Ground.phase }, { on := 19, ground := Go.Ground.phase }, { on := 20, ground := Go.Ground.phase }, { on := 21, ground := Go.Ground.phase }, { on := 22, ground := Go.Ground.phase }, { on := 23, ground := Go.Ground.phase }, { on := 24, ground := Go.Ground.phase }, { on := 25, ground := Go.Ground.phase }, { on := 26, ground := Go.Ground.phase }, { on := 27, ground := Go.Ground.phase }, { on := 28, ground := Go.Ground.phase }, { on := 29, ground := Go.Ground.phase }, { on := 30, ground := Go.Ground.phase }, { on := 31, ground := Go.Ground.phase }, { on := 32, ground := Go.Ground.phase }, { on := 33, ground := Go.Ground.phase }, { on := 34, ground := Go.Ground.phase }, { on := 35, ground := Go.Ground.phase }, { on := 36, ground := Go.Ground.phase }, { on := 37, ground := Go.Ground.phase }, { on := 38, ground := Go.Ground.phase }, { on := 39, ground := Go.Ground.phase }, { on := 40, ground := Go.Ground.phase }, { on := 41, ground := Go.Ground.phase }, { on := 42, ground := Go.Ground.phase }, { on := 43, ground := Go.Ground.phase }, { on := 44, ground := Go.Ground.phase }, { on := 45, ground := Go.Ground.phase }, { on := 46, ground := Go.Ground.phase }, { on := 47, ground := Go.Ground.phase }, { on := 48, ground := Go.Ground.phase }, { on := 49, ground := Go.Ground.phase }, { on := 50, ground := Go.Ground.phase }, { on := 51, ground := Go.Ground.phase }, { on := 52, ground := Go.Ground.phase }], guard := none }][8]) (fun w10 =>
  (∃ e11 : Bool, (must (
  w10 = .bool e11) (
  (br e11 (
  (nn p0 (fun a12 =>
  (ldP H (a12.add 3) (fun r13 =>
  (nn p1 (fun a14 =>
  (ldP H (a14.add 3) (fun r15 =>
  (cl Tryz.prog m 42 ([.pointer r13, .pointer r15]) H (fun w16 H17 =>
  (∃ e18 : Bool, (must (
  w16 = .bool e18) (
  (br e18 (
  (nn p0 (fun a19 =>
  (ldP H17 (a19.add 4) (fun r20 =>
  (nn p1 (fun a21 =>
  (ldP H17 (a21.add 4) (fun r22 =>
  (cl Tryz.prog m 43 ([.pointer r20, .pointer r22]) H17 (fun w23 H24 =>
  (∃ e25 : Bool, (must (
  w23 = .bool e25) (
  (br e25 (
  (nn p0 (fun a26 =>
  (ldP H24 (a26.add 5) (fun r27 =>
  (nn p1 (fun a28 =>
  (ldP H24 (a28.add 5) (fun r29 =>
  (cl Tryz.prog m 44 ([.pointer r27, .pointer r29]) H24 (fun w30 H31 =>
  (∃ e32 : Bool, (must (
  w30 = .bool e32) (
  (br e32 (
  (nn p0 (fun a33 =>
  (ldP H31 (a33.add 6) (fun r34 =>
  (nn p1 (fun a35 =>
  (ldP H31 (a35.add 6) (fun r36 =>
  (cl Tryz.prog m 45 ([.pointer r34, .pointer r36]) H31 (fun w37 H38 =>
  (∃ e39 : Bool, (must (
  w37 = .bool e39) (
  (K (.bool e39) H38))))))))))))))) (
  (K (.bool false) H31))))))))))))))))) (
  (K (.bool false) H24))))))))))))))))) (
  (K (.bool false) H17))))))))))))))))) (
  (K (.bool false) H))))))))))))))))))))))))))))
theorem W13 (m : Amb) (p0 : Option Addr) (p1 : Option Addr) (H : Hp) (K : Value → Hp → Prop) : funcW Tryz.prog m [] Tryz.f13 [.c (.p p0), .c (.p p1)] H K = t13 m p0 p1 H K := by kernel_rfl
theorem S13 {m : Amb} {p0 : Option Addr} {p1 : Option Addr} {H : Hp} {K : Value → Hp → Prop} (h : t13 m p0 p1 H K) : CallsH Tryz.prog m 13 [.pointer p0, .pointer p1] H K :=
  callsH_of_W (args := [.c (.p p0), .c (.p p1)]) mixed Tryz.func13 ((W13 m p0 p1 H K).mpr h)

/-- switchyard/locks.Same -/
def t44 (m : Amb) (p0 : Option Addr) (p1 : Option Addr) (H : Hp) (K : Value → Hp → Prop) : Prop :=
  (br p0.isNone (
  (ptrEq p0 p1 (fun e0 =>
  (K (.bool e0) H)))) (
  (br p1.isNone (
  (ptrEq p0 p1 (fun e1 =>
  (K (.bool e1) H)))) (
  (nn p0 (fun a2 =>
  (ldI .i64 H (a2.add 0) (fun i3 =>
  (nn p1 (fun a4 =>
  (ldI .i64 H (a4.add 0) (fun i5 =>
  (br (i3 == i5) (
  (nn p0 (fun a6 =>
  (ldI .i64 H (a6.add 1) (fun i7 =>
  (nn p1 (fun a8 =>
  (ldI .i64 H (a8.add 1) (fun i9 =>
  (br (i7 == i9) (
  (nn p0 (fun a10 =>
  (ldI .i64 H ((a10.add 2).add 0) (fun i11 =>
  (ldI .i64 H ((a10.add 2).add 1) (fun i12 =>
  (ldI .i64 H ((a10.add 2).add 2) (fun i13 =>
  (ldI .i64 H ((a10.add 2).add 3) (fun i14 =>
  (ldI .i64 H ((a10.add 2).add 4) (fun i15 =>
  (ldI .i64 H ((a10.add 2).add 5) (fun i16 =>
  (ldI .i64 H ((a10.add 2).add 6) (fun i17 =>
  (ldI .i64 H ((a10.add 2).add 7) (fun i18 =>
  (ldI .i64 H ((a10.add 2).add 8) (fun i19 =>
  (ldI .i64 H ((a10.add 2).add 9) (fun i20 =>
  (ldI .i64 H ((a10.add 2).add 10) (fun i21 =>
  (ldI .i64 H ((a10.add 2).add 11) (fun i22 =>
  (ldI .i64 H ((a10.add 2).add 12) (fun i23 =>
  (ldI .i64 H ((a10.add 2).add 13) (fun i24 =>
  (ldI .i64 H ((a10.add 2).add 14) (fun i25 =>
  (ldI .i64 H ((a10.add 2).add 15) (fun i26 =>
  (nn p1 (fun a27 =>
  (ldI .i64 H ((a27.add 2).add 0) (fun i28 =>
  (ldI .i64 H ((a27.add 2).add 1) (fun i29 =>
  (ldI .i64 H ((a27.add 2).add 2) (fun i30 =>
  (ldI .i64 H ((a27.add 2).add 3) (fun i31 =>
  (ldI .i64 H ((a27.add 2).add 4) (fun i32 =>
  (ldI .i64 H ((a27.add 2).add 5) (fun i33 =>
  (ldI .i64 H ((a27.add 2).add 6) (fun i34 =>
  (ldI .i64 H ((a27.add 2).add 7) (fun i35 =>
  (ldI .i64 H ((a27.add 2).add 8) (fun i36 =>
  (ldI .i64 H ((a27.add 2).add 9) (fun i37 =>
  (ldI .i64 H ((a27.add 2).add 10) (fun i38 =>
  (ldI .i64 H ((a27.add 2).add 11) (fun i39 =>
  (ldI .i64 H ((a27.add 2).add 12) (fun i40 =>
  (ldI .i64 H ((a27.add 2).add 13) (fun i41 =>
  (ldI .i64 H ((a27.add 2).add 14) (fun i42 =>
  (ldI .i64 H ((a27.add 2).add 15) (fun i43 =>
  (rawP Tryz.prog (Go.execOp (actV [SV.c (Sc.p p0), SV.c (Sc.p p1), SV.t [], SV.t [], SV.c Sc.ff, SV.c (Sc.p p0), SV.c (Sc.b p0.isNone), SV.c Sc.ff, SV.c (Sc.p p1), SV.c (Sc.b p1.isNone), SV.c Sc.ff, SV.t [], SV.t [], SV.t [], SV.c (Sc.p p0), SV.c (Sc.a a2), SV.c (Sc.a (a2.add 0)), SV.c (Sc.i .i64 i3), SV.c (Sc.p p1), SV.c (Sc.a a4), SV.c (Sc.a (a4.add 0)), SV.c (Sc.i .i64 i5), SV.c (Sc.b (i3 == i5)), SV.c Sc.tt, SV.c (Sc.p p0), SV.c (Sc.a a6), SV.c (Sc.a (a6.add 1)), SV.c (Sc.i .i64 i7), SV.c (Sc.p p1), SV.c (Sc.a a8), SV.c (Sc.a (a8.add 1)), SV.c (Sc.i .i64 i9), SV.c (Sc.b (i7 == i9)), SV.c (Sc.b (i7 == i9)), SV.c Sc.tt, SV.c (Sc.p p0), SV.c (Sc.a a10), SV.c (Sc.a (a10.add 2)), SV.g [Sc.i .i64 i11, Sc.i .i64 i12, Sc.i .i64 i13, Sc.i .i64 i14, Sc.i .i64 i15, Sc.i .i64 i16, Sc.i .i64 i17, Sc.i .i64 i18, Sc.i .i64 i19, Sc.i .i64 i20, Sc.i .i64 i21, Sc.i .i64 i22, Sc.i .i64 i23, Sc.i .i64 i24, Sc.i .i64 i25, Sc.i .i64 i26], SV.c (Sc.p p1), SV.c (Sc.a a27), SV.c (Sc.a (a27.add 2)), SV.g [Sc.i .i64 i28, Sc.i .i64 i29, Sc.i .i64 i30, Sc.i .i64 i31, Sc.i .i64 i32, Sc.i .i64 i33, Sc.i .i64 i34, Sc.i .i64 i35, Sc.i .i64 i36, Sc.i .i64 i37, Sc.i .i64 i38, Sc.i .i64 i39, Sc.i .i64 i40, Sc.i .i64 i41, Sc.i .i64 i42, Sc.i .i64 i43], SV.t [], SV.t []]) #[{ dst := some 14, op := Go.Op.move (Go.Operand.tmp 0), type := 55, pos := "locks.go:128", after := #[], guard := none }, { dst := some 15, op := Go.Op.nilCheck (Go.Operand.tmp 14), type := 0, pos := "locks.go:128", after := #[{ on := 0, ground := Go.Ground.data }], guard := none }, { dst := some 16, op := Go.Op.fieldAddr 108 (Go.Operand.tmp 15) 0, type := 0, pos := "locks.go:128", after := #[{ on := 1, ground := Go.Ground.data }], guard := none }, { dst := some 17, op := Go.Op.load 3 (Go.Operand.tmp 16), type := 3, pos := "locks.go:128", after := #[{ on := 2, ground := Go.Ground.data }], guard := none }, { dst := some 18, op := Go.Op.move (Go.Operand.tmp 1), type := 55, pos := "locks.go:128", after := #[], guard := none }, { dst := some 19, op := Go.Op.nilCheck (Go.Operand.tmp 18), type := 0, pos := "locks.go:128", after := #[{ on := 4, ground := Go.Ground.data }], guard := none }, { dst := some 20, op := Go.Op.fieldAddr 108 (Go.Operand.tmp 19) 0, type := 0, pos := "locks.go:128", after := #[{ on := 5, ground := Go.Ground.data }], guard := none }, { dst := some 21, op := Go.Op.load 3 (Go.Operand.tmp 20), type := 3, pos := "locks.go:128", after := #[{ on := 6, ground := Go.Ground.data }], guard := none }, { dst := some 22, op := Go.Op.binOp .eql 3 (Go.Operand.tmp 17) (Go.Operand.tmp 21) 3, type := 4, pos := "locks.go:128", after := #[{ on := 3, ground := Go.Ground.data }, { on := 7, ground := Go.Ground.data }], guard := none }, { dst := some 23, op := Go.Op.move (Go.Operand.tmp 22), type := 4, pos := "locks.go:128", after := #[{ on := 8, ground := Go.Ground.data }], guard := none }, { dst := some 24, op := Go.Op.move (Go.Operand.tmp 0), type := 55, pos := "locks.go:128", after := #[{ on := 9, ground := Go.Ground.guard }], guard := some (9, true) }, { dst := some 25, op := Go.Op.nilCheck (Go.Operand.tmp 24), type := 0, pos := "locks.go:128", after := #[{ on := 10, ground := Go.Ground.data }, { on := 9, ground := Go.Ground.guard }], guard := some (9, true) }, { dst := some 26, op := Go.Op.fieldAddr 108 (Go.Operand.tmp 25) 1, type := 0, pos := "locks.go:128", after := #[{ on := 11, ground := Go.Ground.data }, { on := 9, ground := Go.Ground.guard }], guard := some (9, true) }, { dst := some 27, op := Go.Op.load 3 (Go.Operand.tmp 26), type := 3, pos := "locks.go:128", after := #[{ on := 12, ground := Go.Ground.data }, { on := 9, ground := Go.Ground.guard }], guard := some (9, true) }, { dst := some 28, op := Go.Op.move (Go.Operand.tmp 1), type := 55, pos := "locks.go:128", after := #[{ on := 9, ground := Go.Ground.guard }], guard := some (9, true) }, { dst := some 29, op := Go.Op.nilCheck (Go.Operand.tmp 28), type := 0, pos := "locks.go:128", after := #[{ on := 14, ground := Go.Ground.data }, { on := 9, ground := Go.Ground.guard }], guard := some (9, true) }, { dst := some 30, op := Go.Op.fieldAddr 108 (Go.Operand.tmp 29) 1, type := 0, pos := "locks.go:128", after := #[{ on := 15, ground := Go.Ground.data }, { on := 9, ground := Go.Ground.guard }], guard := some (9, true) }, { dst := some 31, op := Go.Op.load 3 (Go.Operand.tmp 30), type := 3, pos := "locks.go:128", after := #[{ on := 16, ground := Go.Ground.data }, { on := 9, ground := Go.Ground.guard }], guard := some (9, true) }, { dst := some 32, op := Go.Op.binOp .eql 3 (Go.Operand.tmp 27) (Go.Operand.tmp 31) 3, type := 4, pos := "locks.go:128", after := #[{ on := 13, ground := Go.Ground.data }, { on := 17, ground := Go.Ground.data }, { on := 9, ground := Go.Ground.guard }], guard := some (9, true) }, { dst := some 33, op := Go.Op.pick (Go.Operand.tmp 23) (Go.Operand.tmp 32) (Go.Operand.const (.bool false)), type := 4, pos := "locks.go:128", after := #[{ on := 9, ground := Go.Ground.data }, { on := 18, ground := Go.Ground.data }], guard := none }, { dst := some 34, op := Go.Op.move (Go.Operand.tmp 33), type := 4, pos := "locks.go:128", after := #[{ on := 19, ground := Go.Ground.data }, { on := 9, ground := Go.Ground.chain }], guard := none }, { dst := some 35, op := Go.Op.move (Go.Operand.tmp 0), type := 55, pos := "locks.go:128", after := #[{ on := 20, ground := Go.Ground.guard }], guard := some (20, true) }, { dst := some 36, op := Go.Op.nilCheck (Go.Operand.tmp 35), type := 0, pos := "locks.go:128", after := #[{ on := 21, ground := Go.Ground.data }, { on := 20, ground := Go.Ground.guard }], guard := some (20, true) }, { dst := some 37, op := Go.Op.fieldAddr 108 (Go.Operand.tmp 36) 2, type := 0, pos := "locks.go:128", after := #[{ on := 22, ground := Go.Ground.data }, { on := 20, ground := Go.Ground.guard }], guard := some (20, true) }, { dst := some 38, op := Go.Op.load 106 (Go.Operand.tmp 37), type := 106, pos := "locks.go:128", after := #[{ on := 23, ground := Go.Ground.data }, { on := 20, ground := Go.Ground.guard }], guard := some (20, true) }, { dst := some 39, op := Go.Op.move (Go.Operand.tmp 1), type := 55, pos := "locks.go:128", after := #[{ on := 20, ground := Go.Ground.guard }], guard := some (20, true) }, { dst := some 40, op := Go.Op.nilCheck (Go.Operand.tmp 39), type := 0, pos := "locks.go:128", after := #[{ on := 25, ground := Go.Ground.data }, { on := 20, ground := Go.Ground.guard }], guard := some (20, true) }, { dst := some 41, op := Go.Op.fieldAddr 108 (Go.Operand.tmp 40) 2, type := 0, pos := "locks.go:128", after := #[{ on := 26, ground := Go.Ground.data }, { on := 20, ground := Go.Ground.guard }], guard := some (20, true) }, { dst := some 42, op := Go.Op.load 106 (Go.Operand.tmp 41), type := 106, pos := "locks.go:128", after := #[{ on := 27, ground := Go.Ground.data }, { on := 20, ground := Go.Ground.guard }], guard := some (20, true) }, { dst := some 43, op := Go.Op.binOp .eql 106 (Go.Operand.tmp 38) (Go.Operand.tmp 42) 106, type := 4, pos := "locks.go:128", after := #[{ on := 24, ground := Go.Ground.data }, { on := 28, ground := Go.Ground.data }, { on := 20, ground := Go.Ground.guard }], guard := some (20, true) }, { dst := some 44, op := Go.Op.pick (Go.Operand.tmp 34) (Go.Operand.tmp 43) (Go.Operand.const (.bool false)), type := 4, pos := "locks.go:128", after := #[{ on := 20, ground := Go.Ground.data }, { on := 29, ground := Go.Ground.data }], guard := none }, { dst := some 4, op := Go.Op.assign (Go.Operand.tmp 44), type := 4, pos := "locks.go:128", after := #[{ on := 30, ground := Go.Ground.data }, { on := 20, ground := Go.Ground.chain }, { on := 0, ground := Go.Ground.phase }, { on := 1, ground := Go.Ground.phase }, { on := 2, ground := Go.Ground.phase }, { on := 3, ground := Go.Ground.phase }, { on := 4, ground := Go.Ground.phase }, { on := 5, ground := Go.Ground.phase }, { on := 6, ground := Go.Ground.phase }, { on := 7, ground := Go.Ground.phase }, { on := 8, ground := Go.Ground.phase }, { on := 9, ground := Go.Ground.phase }, { on := 10, ground := Go.Ground.phase }, { on := 11, ground := Go.Ground.phase }, { on := 12, ground := Go.Ground.phase }, { on := 13, ground := Go.Ground.phase }, { on := 14, ground := Go.Ground.phase }, { on := 15, ground := Go.Ground.phase }, { on := 16, ground := Go.Ground.phase }, { on := 17, ground := Go.Ground.phase }, { on := 18, ground := Go.Ground.phase }, { on := 19, ground := Go.Ground.phase }, { on := 20, ground := Go.Ground.phase }, { on := 21, ground := Go.Ground.phase }, { on := 22, ground := Go.Ground.phase }, { on := 23, ground := Go.Ground.phase }, { on := 24, ground := Go.Ground.phase }, { on := 25, ground := Go.Ground.phase }, { on := 26, ground := Go.Ground.phase }, { on := 27, ground := Go.Ground.phase }, { on := 28, ground := Go.Ground.phase }, { on := 29, ground := Go.Ground.phase }, { on := 30, ground := Go.Ground.phase }], guard := none }][29]) (fun w44 =>
  (∃ e45 : Bool, (must (
  w44 = .bool e45) (
  (K (.bool e45) H))))))))))))))))))))))))))))))))))))))))))))))))))))))))))))))))))))))))))) (
  (K (.bool false) H)))))))))))) (
  (K (.bool false) H)))))))))))))))
theorem W44 (m : Amb) (p0 : Option Addr) (p1 : Option Addr) (H : Hp) (K : Value → Hp → Prop) : funcW Tryz.prog m [] Tryz.f44 [.c (.p p0), .c (.p p1)] H K = t44 m p0 p1 H K := by kernel_rfl
theorem S44 {m : Amb} {p0 : Option Addr} {p1 : Option Addr} {H : Hp} {K : Value → Hp → Prop} (h : t44 m p0 p1 H K) : CallsH Tryz.prog m 44 [.pointer p0, .pointer p1] H K :=
  callsH_of_W (args := [.c (.p p0), .c (.p p1)]) mixed Tryz.func44 ((W44 m p0 p1 H K).mpr h)

/-- switchyard/switchyardlaw14.alive -/
def t5 (m : Amb) (H : Hp) (K : Value → Hp → Prop) : Prop :=
  (nw H ([.int .i64 5, .int .i64 6]) 3 (fun a0 H1 =>
  (cl Tryz.prog m 19 ([.slice (some a0) 2 2, .slice none 0 0]) H1 (fun w2 H3 =>
  (∃ r4 : Option Addr, (must (
  w2 = .pointer r4) (
  (cl Tryz.prog m 20 ([.pointer r4, .int .i64 1, .int .i64 65537]) H3 (fun w5 H6 =>
  (must (
  w5 = .tuple #[]) (
  (cl Tryz.prog m 21 ([.pointer r4, .int .i64 1]) H6 (fun w7 H8 =>
  (∃ i9 : Int, (must (
  w7 = .int .i64 i9) (
  (br (i9 == 1) (
  (cl Tryz.prog m 21 ([.pointer r4, .int .i64 2]) H8 (fun w10 H11 =>
  (∃ i12 : Int, (must (
  w10 = .int .i64 i12) (
  (br (i12 == 0) (
  (cl Tryz.prog m 21 ([.pointer r4, .int .i64 0]) H11 (fun w13 H14 =>
  (∃ i15 : Int, (must (
  w13 = .int .i64 i15) (
  (K (.bool (i15 == 5)) H14))))))) (
  (K (.bool false) H11))))))))) (
  (K (.bool false) H8)))))))))))))))))))
theorem W5 (m : Amb) (H : Hp) (K : Value → Hp → Prop) : funcW Tryz.prog m [] Tryz.f5 [] H K = t5 m H K := by kernel_rfl
theorem S5 {m : Amb} {H : Hp} {K : Value → Hp → Prop} (h : t5 m H K) : CallsH Tryz.prog m 5 [] H K :=
  callsH_of_W (args := []) mixed Tryz.func5 ((W5 m H K).mpr h)

/-- switchyard/port.OfWords -/
def t19 (m : Amb) (q0 : Option Addr) (n0 : Nat) (c0 : Nat) (q1 : Option Addr) (n1 : Nat) (c1 : Nat) (H : Hp) (K : Value → Hp → Prop) : Prop :=
  (cl Tryz.prog m 50 ([.slice q0 n0 c0]) H (fun w0 H1 =>
  (∃ r2 : Option Addr, (∃ l3 : Nat, (∃ l4 : Nat, (must (
  w0 = .slice r2 l3 l4) (
  (cl Tryz.prog m 50 ([.slice q1 n1 c1]) H1 (fun w5 H6 =>
  (∃ r7 : Option Addr, (∃ l8 : Nat, (∃ l9 : Nat, (must (
  w5 = .slice r7 l8 l9) (
  (nw H6 ([.slice r2 l3 l4, .slice r7 l8 l9, .slice none 0 0]) 115 (fun a10 H11 =>
  (K (.pointer (some a10)) H11)))))))))))))))))
theorem W19 (m : Amb) (q0 : Option Addr) (n0 : Nat) (c0 : Nat) (q1 : Option Addr) (n1 : Nat) (c1 : Nat) (H : Hp) (K : Value → Hp → Prop) : funcW Tryz.prog m [] Tryz.f19 [.c (.sl q0 n0 c0), .c (.sl q1 n1 c1)] H K = t19 m q0 n0 c0 q1 n1 c1 H K := by kernel_rfl
theorem S19 {m : Amb} {q0 : Option Addr} {n0 : Nat} {c0 : Nat} {q1 : Option Addr} {n1 : Nat} {c1 : Nat} {H : Hp} {K : Value → Hp → Prop} (h : t19 m q0 n0 c0 q1 n1 c1 H K) : CallsH Tryz.prog m 19 [.slice q0 n0 c0, .slice q1 n1 c1] H K :=
  callsH_of_W (args := [.c (.sl q0 n0 c0), .c (.sl q1 n1 c1)]) mixed Tryz.func19 ((W19 m q0 n0 c0 q1 n1 c1 H K).mpr h)

/-- (switchyard/port.Plain).Store -/
def t20 (m : Amb) (p0 : Option Addr) (x1 : Int) (x2 : Int) (H : Hp) (K : Value → Hp → Prop) : Prop :=
  (br (!p0.isNone) (
  (nn p0 (fun a0 =>
  (ldS H (a0.add 0) (fun r1 l2 l3 =>
  (cl Tryz.prog m 51 ([.slice r1 l2 l3, .int .i64 x1]) H (fun w4 H5 =>
  (∃ e6 : Bool, (must (
  w4 = .bool e6) (
  (br e6 (
  (nn p0 (fun a7 =>
  (ldS H5 (a7.add 0) (fun r8 l9 l10 =>
  (cl Tryz.prog m 35 ([.int .i64 x2]) H5 (fun w11 H12 =>
  (∃ i13 : Int, (must (
  w11 = .int .i64 i13) (
  (must (
  (cont H12 (a7.add 0) (.slice r8 l9 l10))) (
  (ixS r8 x1 l9 (fun a14 =>
  (st H12 (a14.add (x1.toNat * 1)) (.int .i64 i13) (fun H15 =>
  (K (.tuple #[]) H15))))))))))))))))) (
  (K (.tuple #[]) H5))))))))))))) (
  (K (.tuple #[]) H)))
theorem W20 (m : Amb) (p0 : Option Addr) (x1 : Int) (x2 : Int) (H : Hp) (K : Value → Hp → Prop) : funcW Tryz.prog m [] Tryz.f20 [.c (.p p0), .c (.i .i64 x1), .c (.i .i64 x2)] H K = t20 m p0 x1 x2 H K := by kernel_rfl
theorem S20 {m : Amb} {p0 : Option Addr} {x1 : Int} {x2 : Int} {H : Hp} {K : Value → Hp → Prop} (h : t20 m p0 x1 x2 H K) : CallsH Tryz.prog m 20 [.pointer p0, .int .i64 x1, .int .i64 x2] H K :=
  callsH_of_W (args := [.c (.p p0), .c (.i .i64 x1), .c (.i .i64 x2)]) mixed Tryz.func20 ((W20 m p0 x1 x2 H K).mpr h)

/-- (switchyard/port.Plain).Load -/
def t21 (m : Amb) (p0 : Option Addr) (x1 : Int) (H : Hp) (K : Value → Hp → Prop) : Prop :=
  (br p0.isNone (
  (K (.int .i64 0) H)) (
  (nn p0 (fun a0 =>
  (ldS H (a0.add 0) (fun r1 l2 l3 =>
  (cl Tryz.prog m 51 ([.slice r1 l2 l3, .int .i64 x1]) H (fun w4 H5 =>
  (∃ e6 : Bool, (must (
  w4 = .bool e6) (
  (br (!e6) (
  (K (.int .i64 0) H5)) (
  (nn p0 (fun a7 =>
  (ldS H5 (a7.add 0) (fun r8 l9 l10 =>
  (ixS r8 x1 l9 (fun a11 =>
  (ldI .i64 H5 (a11.add (x1.toNat * 1)) (fun i12 =>
  (K (.int .i64 i12) H5))))))))))))))))))))))
theorem W21 (m : Amb) (p0 : Option Addr) (x1 : Int) (H : Hp) (K : Value → Hp → Prop) : funcW Tryz.prog m [] Tryz.f21 [.c (.p p0), .c (.i .i64 x1)] H K = t21 m p0 x1 H K := by kernel_rfl
theorem S21 {m : Amb} {p0 : Option Addr} {x1 : Int} {H : Hp} {K : Value → Hp → Prop} (h : t21 m p0 x1 H K) : CallsH Tryz.prog m 21 [.pointer p0, .int .i64 x1] H K :=
  callsH_of_W (args := [.c (.p p0), .c (.i .i64 x1)]) mixed Tryz.func21 ((W21 m p0 x1 H K).mpr h)

/-- switchyard/port.words -/
def t50 (m : Amb) (q0 : Option Addr) (n0 : Nat) (c0 : Nat) (H : Hp) (K : Value → Hp → Prop) : Prop :=
  (cl Tryz.prog m 97 ([.slice q0 n0 c0]) H (fun w0 H1 =>
  (∃ r2 : Option Addr, (∃ l3 : Nat, (∃ l4 : Nat, (must (
  w0 = .slice r2 l3 l4) (
  (∃ I5 : Int → Hp → Prop, (∃ I6 : Int → Hp → Nat, ((I5 0 H1) ∧
  (∀ i7 : Int, (∀ H8 : Hp, (∀ l9 : Nat, (∀ j10 : Nat → Value, (((I5 i7 H8)) → 
  ((I6 i7 H8 = l9) → 
  (br (decide (i7 < (l3 : Int))) (
  (ixS r2 i7 l3 (fun a11 =>
  (ldI .i64 H8 (a11.add (i7.toNat * 1)) (fun i12 =>
  (cl Tryz.prog m 35 ([.int .i64 i12]) H8 (fun w13 H14 =>
  (∃ i15 : Int, (must (
  w13 = .int .i64 i15) (
  (ixS r2 i7 l3 (fun a16 =>
  (st H14 (a16.add (i7.toNat * 1)) (.int .i64 i15) (fun H17 =>
  ((I5 (wr .i64 (i7 + 1)) H17) ∧
  ((I6 (wr .i64 (i7 + 1)) H17).succ.le l9)))))))))))))))) (
  (K (.slice r2 l3 l4) H8)))))))))))))))))))
theorem W50 (m : Amb) (q0 : Option Addr) (n0 : Nat) (c0 : Nat) (H : Hp) (K : Value → Hp → Prop) : funcW Tryz.prog m [⟨true, 4, [(10, (.i .i64))]⟩] Tryz.f50 [.c (.sl q0 n0 c0)] H K = t50 m q0 n0 c0 H K := by kernel_rfl
theorem S50 {m : Amb} {q0 : Option Addr} {n0 : Nat} {c0 : Nat} {H : Hp} {K : Value → Hp → Prop} (h : t50 m q0 n0 c0 H K) : CallsH Tryz.prog m 50 [.slice q0 n0 c0] H K :=
  callsH_of_W (args := [.c (.sl q0 n0 c0)]) mixed Tryz.func50 ((W50 m q0 n0 c0 H K).mpr h)

/-- switchyard/port.has -/
def t51 (m : Amb) (q0 : Option Addr) (n0 : Nat) (c0 : Nat) (x1 : Int) (H : Hp) (K : Value → Hp → Prop) : Prop :=
  (br (decide (x1 ≥ 0)) (
  (K (.bool (decide (x1 < (n0 : Int)))) H)) (
  (K (.bool false) H)))
theorem W51 (m : Amb) (q0 : Option Addr) (n0 : Nat) (c0 : Nat) (x1 : Int) (H : Hp) (K : Value → Hp → Prop) : funcW Tryz.prog m [] Tryz.f51 [.c (.sl q0 n0 c0), .c (.i .i64 x1)] H K = t51 m q0 n0 c0 x1 H K := by kernel_rfl
theorem S51 {m : Amb} {q0 : Option Addr} {n0 : Nat} {c0 : Nat} {x1 : Int} {H : Hp} {K : Value → Hp → Prop} (h : t51 m q0 n0 c0 x1 H K) : CallsH Tryz.prog m 51 [.slice q0 n0 c0, .int .i64 x1] H K :=
  callsH_of_W (args := [.c (.sl q0 n0 c0), .c (.i .i64 x1)]) mixed Tryz.func51 ((W51 m q0 n0 c0 x1 H K).mpr h)

end Go.Proofs.YtoddfageecbkcaaGreat
