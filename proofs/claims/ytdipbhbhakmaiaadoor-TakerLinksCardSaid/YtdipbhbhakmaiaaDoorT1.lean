/-
  SHALLOW TEXTS: of each Go function named below: what its code asks of its continuation, as the engine reckons it (written by a program of ours; each is checked by the kernel against the code).
-/
import Derived.Test.YtdipbhbhakmaiaaDoorT0
namespace Go.Proofs.YtdipbhbhakmaiaaDoor
open Go Go.Eng
set_option maxRecDepth 100000
set_option linter.unusedVariables false

/-- switchyard/switchyardlaw17.TakerLinks -/
def t4 (m : Amb) (x0 : Int) (x1 : Int) (x2 : Int) (H : Hp) (K : Value → Hp → Prop) : Prop :=
  (nw H ([.int .i64 x0]) 3 (fun a0 H1 =>
  (ldI .i64 H1 a0 (fun i2 =>
  (cl Tryd.prog m 17 ([.int .i64 i2]) H1 (fun w3 H4 =>
  (∃ e5 : Bool, (must (
  w3 = .bool e5) (
  (br (!e5) (
  (cl Tryd.prog m 16 ([]) H4 (fun w6 H7 =>
  (∃ e8 : Bool, (must (
  w6 = .bool e8) (
  (K (.bool e8) H7))))))) (
  (ldI .i64 H4 a0 (fun i9 =>
  (br (decide (i9 > 16)) (
  (cl Tryd.prog m 16 ([]) H4 (fun w10 H11 =>
  (∃ e12 : Bool, (must (
  w10 = .bool e12) (
  (K (.bool e12) H11))))))) (
  (br (decide (x1 < 1)) (
  (cl Tryd.prog m 16 ([]) H4 (fun w13 H14 =>
  (∃ e15 : Bool, (must (
  w13 = .bool e15) (
  (K (.bool e15) H14))))))) (
  (br (decide (x1 > 65535)) (
  (cl Tryd.prog m 16 ([]) H4 (fun w16 H17 =>
  (∃ e18 : Bool, (must (
  w16 = .bool e18) (
  (K (.bool e18) H17))))))) (
  (br (decide (x2 < 0)) (
  (cl Tryd.prog m 16 ([]) H4 (fun w19 H20 =>
  (∃ e21 : Bool, (must (
  w19 = .bool e21) (
  (K (.bool e21) H20))))))) (
  (br (decide (x2 > 65535)) (
  (cl Tryd.prog m 16 ([]) H4 (fun w22 H23 =>
  (∃ e24 : Bool, (must (
  w22 = .bool e24) (
  (K (.bool e24) H23))))))) (
  (br (x2 == x1) (
  (cl Tryd.prog m 16 ([]) H4 (fun w25 H26 =>
  (∃ e27 : Bool, (must (
  w25 = .bool e27) (
  (K (.bool e27) H26))))))) (
  (ldI .i64 H4 a0 (fun i28 =>
  (cl Tryd.prog m 18 ([.agg #[.int .i64 0, .int .i64 i28, .int .i64 2, .int .i64 1, .int .i64 0]]) H4 (fun w29 H30 =>
  (∃ r31 : Option Addr, (must (
  w29 = .pointer r31) (
  (br r31.isNone (
  (K (.bool false) H30)) (
  (ldI .i64 H30 a0 (fun i32 =>
  (cl Tryd.prog m 21 ([.int .i64 i32]) H30 (fun w33 H34 =>
  (∃ i35 : Int, (must (
  w33 = .int .i64 i35) (
  (mkS Tryd.prog 3 1 8 H34 i35 i35 (fun r36 l37 l38 H39 =>
  (nw H39 ([.int .i64 0, .int .i64 0, .int .i64 0]) 3 (fun a40 H41 =>
  (cl Tryd.prog m 7 ([.slice r36 l37 l38, .slice (some a40) 3 3]) H41 (fun w42 H43 =>
  (∃ r44 : Option Addr, (must (
  w42 = .pointer r44) (
  (cl Tryd.prog m 19 ([.int .i64 3, .pointer (some a0)]) H43 (fun w45 H46 =>
  (∃ i47 : Int, (must (
  w45 = .int .i64 i47) (
  (cl Tryd.prog m 22 ([.pointer r44, .int .i64 i47, .int .i64 1]) H46 (fun w48 H49 =>
  (must (
  w48 = .tuple #[]) (
  (cl Tryd.prog m 10 ([.pointer r31]) H49 (fun w50 H51 =>
  (∃ i52 : Int, (must (
  w50 = .int .i64 i52) (
  (br (i52 != 0) (
  (K (.bool false) H51)) (
  (cl Tryd.prog m 23 ([.pointer r31, .iface 26 (.pointer r44)]) H51 (fun w53 H54 =>
  (∃ i55 : Int, (must (
  w53 = .int .i64 i55) (
  (br (i55 != 0) (
  (K (.bool false) H54)) (
  (cl Tryd.prog m 8 ([.pointer r31]) H54 (fun w56 H57 =>
  (∃ r58 : Option Addr, (∃ l59 : Nat, (∃ l60 : Nat, (∃ i61 : Int, (must (
  w56 = .tuple #[.slice r58 l59 l60, .int .i64 i61]) (
  (cl Tryd.prog m 24 ([.pointer r44]) H57 (fun w62 H63 =>
  (∃ r64 : Option Addr, (∃ l65 : Nat, (∃ l66 : Nat, (must (
  w62 = .slice r64 l65 l66) (
  (nw H63 ([.int .i64 0, .int .i64 x1, .int .i64 0]) 3 (fun a67 H68 =>
  (cl Tryd.prog m 7 ([.slice r64 l65 l66, .slice (some a67) 3 3]) H68 (fun w69 H70 =>
  (∃ r71 : Option Addr, (must (
  w69 = .pointer r71) (
  (cl Tryd.prog m 11 ([.pointer r31, .int .i64 i61]) H70 (fun w72 H73 =>
  (∃ i74 : Int, (must (
  w72 = .int .i64 i74) (
  (br (i74 != 0) (
  (K (.bool false) H73)) (
  (cl Tryd.prog m 23 ([.pointer r31, .iface 26 (.pointer r71)]) H73 (fun w75 H76 =>
  (∃ i77 : Int, (must (
  w75 = .int .i64 i77) (
  (br (i77 != 8) (
  (K (.bool false) H76)) (
  (cl Tryd.prog m 13 ([.pointer r31]) H76 (fun w78 H79 =>
  (∃ e80 : Bool, (must (
  w78 = .bool e80) (
  (br e80 (
  (K (.bool false) H79)) (
  (cl Tryd.prog m 14 ([.pointer r31]) H79 (fun w81 H82 =>
  (∃ r83 : Option Addr, (∃ l84 : Nat, (∃ l85 : Nat, (must (
  w81 = .slice r83 l84 l85) (
  (br ((l84 : Int) != 0) (
  (K (.bool false) H82)) (
  (cl Tryd.prog m 11 ([.pointer r31, .int .i64 i61]) H82 (fun w86 H87 =>
  (∃ i88 : Int, (must (
  w86 = .int .i64 i88) (
  (br (i88 != 7) (
  (K (.bool false) H87)) (
  (cl Tryd.prog m 19 ([.int .i64 4, .pointer (some a0)]) H87 (fun w89 H90 =>
  (∃ i91 : Int, (must (
  w89 = .int .i64 i91) (
  (cl Tryd.prog m 25 ([.pointer r71, .int .i64 i91]) H90 (fun w92 H93 =>
  (∃ i94 : Int, (must (
  w92 = .int .i64 i94) (
  (br (i94 != 0) (
  (K (.bool false) H93)) (
  (cl Tryd.prog m 19 ([.int .i64 2, .pointer (some a0)]) H93 (fun w95 H96 =>
  (∃ i97 : Int, (must (
  w95 = .int .i64 i97) (
  (cl Tryd.prog m 25 ([.pointer r71, .int .i64 i97]) H96 (fun w98 H99 =>
  (∃ i100 : Int, (must (
  w98 = .int .i64 i100) (
  (br (i100 != x1) (
  (K (.bool false) H99)) (
  (cl Tryd.prog m 19 ([.int .i64 1, .pointer (some a0)]) H99 (fun w101 H102 =>
  (∃ i103 : Int, (must (
  w101 = .int .i64 i103) (
  (cl Tryd.prog m 22 ([.pointer r71, .int .i64 i103, .int .i64 x2]) H102 (fun w104 H105 =>
  (must (
  w104 = .tuple #[]) (
  (cl Tryd.prog m 10 ([.pointer r31]) H105 (fun w106 H107 =>
  (∃ i108 : Int, (must (
  w106 = .int .i64 i108) (
  (br (i108 != 0) (
  (K (.bool false) H107)) (
  (cl Tryd.prog m 23 ([.pointer r31, .iface 26 (.pointer r71)]) H107 (fun w109 H110 =>
  (∃ i111 : Int, (must (
  w109 = .int .i64 i111) (
  (br (i111 != 9) (
  (K (.bool false) H110)) (
  (cl Tryd.prog m 19 ([.int .i64 1, .pointer (some a0)]) H110 (fun w112 H113 =>
  (∃ i114 : Int, (must (
  w112 = .int .i64 i114) (
  (cl Tryd.prog m 22 ([.pointer r71, .int .i64 i114, .int .i64 x1]) H113 (fun w115 H116 =>
  (must (
  w115 = .tuple #[]) (
  (cl Tryd.prog m 10 ([.pointer r31]) H116 (fun w117 H118 =>
  (∃ i119 : Int, (must (
  w117 = .int .i64 i119) (
  (br (i119 != 0) (
  (K (.bool false) H118)) (
  (cl Tryd.prog m 23 ([.pointer r31, .iface 26 (.pointer r71)]) H118 (fun w120 H121 =>
  (∃ i122 : Int, (must (
  w120 = .int .i64 i122) (
  (br (i122 != 0) (
  (K (.bool false) H121)) (
  (cl Tryd.prog m 8 ([.pointer r31]) H121 (fun w123 H124 =>
  (∃ r125 : Option Addr, (∃ l126 : Nat, (∃ l127 : Nat, (∃ i128 : Int, (must (
  w123 = .tuple #[.slice r125 l126 l127, .int .i64 i128]) (
  (cl Tryd.prog m 9 ([.pointer r31, .int .i64 i128]) H124 (fun w129 H130 =>
  (∃ i131 : Int, (∃ e132 : Bool, (must (
  w129 = .tuple #[.int .i64 i131, .bool e132]) (
  (br e132 (
  (br (i131 == 0) (
  (cl Tryd.prog m 14 ([.pointer r31]) H130 (fun w133 H134 =>
  (∃ r135 : Option Addr, (∃ l136 : Nat, (∃ l137 : Nat, (must (
  w133 = .slice r135 l136 l137) (
  (nw H134 ([.int .i64 0]) 3 (fun a138 H139 =>
  (cl Tryd.prog m 26 ([.slice r135 l136 l137, .slice (some a138) 1 1]) H139 (fun w140 H141 =>
  (∃ e142 : Bool, (must (
  w140 = .bool e142) (
  (br e142 (
  (cl Tryd.prog m 16 ([]) H141 (fun w143 H144 =>
  (∃ e145 : Bool, (must (
  w143 = .bool e145) (
  (K (.bool e145) H144))))))) (
  (K (.bool false) H141)))))))))))))))))) (
  (K (.bool false) H130)))) (
  (K (.bool false) H130)))))))))))))))))))))))))))))))))))))))))))))))))))))))))))))))))))))))))))))))))))))))))))))))))))))))))))))))))))))))))))))))))))))))))))))))))))))))))))))))))))))))))))))))))))))))))))))))))))))))))))))))))))))))))))
theorem W4 (m : Amb) (x0 : Int) (x1 : Int) (x2 : Int) (H : Hp) (K : Value → Hp → Prop) : funcW Tryd.prog m [] Tryd.f4 [.c (.i .i64 x0), .c (.i .i64 x1), .c (.i .i64 x2)] H K = t4 m x0 x1 x2 H K := by kernel_rfl
theorem S4 {m : Amb} {x0 : Int} {x1 : Int} {x2 : Int} {H : Hp} {K : Value → Hp → Prop} (h : t4 m x0 x1 x2 H K) : CallsH Tryd.prog m 4 [.int .i64 x0, .int .i64 x1, .int .i64 x2] H K :=
  callsH_of_W (args := [.c (.i .i64 x0), .c (.i .i64 x1), .c (.i .i64 x2)]) mixed Tryd.func4 ((W4 m x0 x1 x2 H K).mpr h)

/-- switchyard/switchyardref13.Ring -/
def t17 (m : Amb) (x0 : Int) (H : Hp) (K : Value → Hp → Prop) : Prop :=
  (∃ I0 : Int → Hp → Prop, (∃ I1 : Int → Hp → Nat, ((I0 2 H) ∧
  (∀ i2 : Int, (∀ H3 : Hp, (∀ l4 : Nat, (∀ j5 : Nat → Value, (((I0 i2 H3)) → 
  ((I1 i2 H3 = l4) → 
  (br (decide (i2 ≤ 64)) (
  (br (i2 == x0) (
  (K (.bool true) H3)) (
  ((I0 (wr .i64 (2 * i2)) H3) ∧
  ((I1 (wr .i64 (2 * i2)) H3).succ.le l4))))) (
  (K (.bool false) H3))))))))))))
theorem W17 (m : Amb) (x0 : Int) (H : Hp) (K : Value → Hp → Prop) : funcW Tryd.prog m [⟨true, 3, [(3, (.i .i64))]⟩] Tryd.f17 [.c (.i .i64 x0)] H K = t17 m x0 H K := by kernel_rfl
theorem S17 {m : Amb} {x0 : Int} {H : Hp} {K : Value → Hp → Prop} (h : t17 m x0 H K) : CallsH Tryd.prog m 17 [.int .i64 x0] H K :=
  callsH_of_W (args := [.c (.i .i64 x0)]) mixed Tryd.func17 ((W17 m x0 H K).mpr h)

/-- switchyard/switchyardlaw17.TakerLinks$1 -/
def t19 (m : Amb) (x0 : Int) (z1 : Addr) (H : Hp) (K : Value → Hp → Prop) : Prop :=
  (ldI .i64 H z1 (fun i0 =>
  (cl Tryd.prog m 20 ([.int .i64 0, .int .i64 i0, .int .i64 x0, .int .i64 0, .int .i64 0]) H (fun w1 H2 =>
  (∃ i3 : Int, (∃ e4 : Bool, (must (
  w1 = .tuple #[.int .i64 i3, .bool e4]) (
  (K (.int .i64 i3) H2)))))))))
theorem W19 (m : Amb) (x0 : Int) (z1 : Addr) (H : Hp) (K : Value → Hp → Prop) : funcW Tryd.prog m [] Tryd.f19 [.c (.i .i64 x0), .c (.a z1)] H K = t19 m x0 z1 H K := by kernel_rfl
theorem S19 {m : Amb} {x0 : Int} {z1 : Addr} {H : Hp} {K : Value → Hp → Prop} (h : t19 m x0 z1 H K) : CallsH Tryd.prog m 19 [.int .i64 x0, .pointer (some z1)] H K :=
  callsH_of_W (args := [.c (.i .i64 x0), .c (.a z1)]) mixed Tryd.func19 ((W19 m x0 z1 H K).mpr h)

/-- switchyard/switchyardref13.At -/
def t20 (m : Amb) (x0 : Int) (x1 : Int) (x2 : Int) (x3 : Int) (x4 : Int) (H : Hp) (K : Value → Hp → Prop) : Prop :=
  (∃ I0 : Int → Int → Hp → Prop, (∃ I1 : Int → Int → Hp → Nat, ((I0 x0 1 H) ∧
  (∀ i2 : Int, (∀ i3 : Int, (∀ H4 : Hp, (∀ l5 : Nat, (∀ j6 : Nat → Value, (((I0 i2 i3 H4)) → 
  ((I1 i2 i3 H4 = l5) → 
  (br (decide (i3 ≤ 8)) (
  (br (decide (i3 ≥ 5)) (
  (br (i3 == 8) (
  (∃ I7 : Int → Int → Hp → Prop, (∃ I8 : Int → Int → Hp → Nat, ((I7 i2 0 H4) ∧
  (∀ i9 : Int, (∀ i10 : Int, (∀ H11 : Hp, (∀ l12 : Nat, (∀ j13 : Nat → Value, (((I7 i9 i10 H11)) → 
  ((I8 i9 i10 H11 = l12) → 
  (br (decide (i10 < x1)) (
  (∃ I14 : Int → Int → Hp → Prop, (∃ I15 : Int → Int → Hp → Nat, ((I14 i9 0 H11) ∧
  (∀ i16 : Int, (∀ i17 : Int, (∀ H18 : Hp, (∀ l19 : Nat, (∀ j20 : Nat → Value, (((I14 i16 i17 H18)) → 
  ((I15 i16 i17 H18 = l19) → 
  (br (decide (i17 < 8)) (
  (br (i3 == x2) (
  (br (i10 == x3) (
  (br (i17 == x4) (
  (K (.tuple #[.int .i64 i16, .bool true]) H18)) (
  ((I14 (wr .i64 (i16 + 1)) (wr .i64 (i17 + 1)) H18) ∧
  ((I15 (wr .i64 (i16 + 1)) (wr .i64 (i17 + 1)) H18).succ.le l19))))) (
  ((I14 (wr .i64 (i16 + 1)) (wr .i64 (i17 + 1)) H18) ∧
  ((I15 (wr .i64 (i16 + 1)) (wr .i64 (i17 + 1)) H18).succ.le l19))))) (
  ((I14 (wr .i64 (i16 + 1)) (wr .i64 (i17 + 1)) H18) ∧
  ((I15 (wr .i64 (i16 + 1)) (wr .i64 (i17 + 1)) H18).succ.le l19))))) (
  ((I7 i16 (wr .i64 (i10 + 1)) H18) ∧
  ((I8 i16 (wr .i64 (i10 + 1)) H18).succ.le l12))))))))))))))) (
  ((I0 i9 (wr .i64 (i3 + 1)) H11) ∧
  ((I1 i9 (wr .i64 (i3 + 1)) H11).succ.le l5))))))))))))))) (
  (∃ I21 : Int → Int → Hp → Prop, (∃ I22 : Int → Int → Hp → Nat, ((I21 i2 0 H4) ∧
  (∀ i23 : Int, (∀ i24 : Int, (∀ H25 : Hp, (∀ l26 : Nat, (∀ j27 : Nat → Value, (((I21 i23 i24 H25)) → 
  ((I22 i23 i24 H25 = l26) → 
  (br (decide (i24 < x1)) (
  (∃ I28 : Int → Int → Hp → Prop, (∃ I29 : Int → Int → Hp → Nat, ((I28 i23 0 H25) ∧
  (∀ i30 : Int, (∀ i31 : Int, (∀ H32 : Hp, (∀ l33 : Nat, (∀ j34 : Nat → Value, (((I28 i30 i31 H32)) → 
  ((I29 i30 i31 H32 = l33) → 
  (br (decide (i31 < 1)) (
  (br (i3 == x2) (
  (br (i24 == x3) (
  (br (i31 == x4) (
  (K (.tuple #[.int .i64 i30, .bool true]) H32)) (
  ((I28 (wr .i64 (i30 + 1)) (wr .i64 (i31 + 1)) H32) ∧
  ((I29 (wr .i64 (i30 + 1)) (wr .i64 (i31 + 1)) H32).succ.le l33))))) (
  ((I28 (wr .i64 (i30 + 1)) (wr .i64 (i31 + 1)) H32) ∧
  ((I29 (wr .i64 (i30 + 1)) (wr .i64 (i31 + 1)) H32).succ.le l33))))) (
  ((I28 (wr .i64 (i30 + 1)) (wr .i64 (i31 + 1)) H32) ∧
  ((I29 (wr .i64 (i30 + 1)) (wr .i64 (i31 + 1)) H32).succ.le l33))))) (
  ((I21 i30 (wr .i64 (i24 + 1)) H32) ∧
  ((I22 i30 (wr .i64 (i24 + 1)) H32).succ.le l26))))))))))))))) (
  ((I0 i23 (wr .i64 (i3 + 1)) H25) ∧
  ((I1 i23 (wr .i64 (i3 + 1)) H25).succ.le l5))))))))))))))))) (
  (br (i3 == 8) (
  (∃ I35 : Int → Int → Hp → Prop, (∃ I36 : Int → Int → Hp → Nat, ((I35 i2 0 H4) ∧
  (∀ i37 : Int, (∀ i38 : Int, (∀ H39 : Hp, (∀ l40 : Nat, (∀ j41 : Nat → Value, (((I35 i37 i38 H39)) → 
  ((I36 i37 i38 H39 = l40) → 
  (br (decide (i38 < 1)) (
  (∃ I42 : Int → Int → Hp → Prop, (∃ I43 : Int → Int → Hp → Nat, ((I42 i37 0 H39) ∧
  (∀ i44 : Int, (∀ i45 : Int, (∀ H46 : Hp, (∀ l47 : Nat, (∀ j48 : Nat → Value, (((I42 i44 i45 H46)) → 
  ((I43 i44 i45 H46 = l47) → 
  (br (decide (i45 < 8)) (
  (br (i3 == x2) (
  (br (i38 == x3) (
  (br (i45 == x4) (
  (K (.tuple #[.int .i64 i44, .bool true]) H46)) (
  ((I42 (wr .i64 (i44 + 1)) (wr .i64 (i45 + 1)) H46) ∧
  ((I43 (wr .i64 (i44 + 1)) (wr .i64 (i45 + 1)) H46).succ.le l47))))) (
  ((I42 (wr .i64 (i44 + 1)) (wr .i64 (i45 + 1)) H46) ∧
  ((I43 (wr .i64 (i44 + 1)) (wr .i64 (i45 + 1)) H46).succ.le l47))))) (
  ((I42 (wr .i64 (i44 + 1)) (wr .i64 (i45 + 1)) H46) ∧
  ((I43 (wr .i64 (i44 + 1)) (wr .i64 (i45 + 1)) H46).succ.le l47))))) (
  ((I35 i44 (wr .i64 (i38 + 1)) H46) ∧
  ((I36 i44 (wr .i64 (i38 + 1)) H46).succ.le l40))))))))))))))) (
  ((I0 i37 (wr .i64 (i3 + 1)) H39) ∧
  ((I1 i37 (wr .i64 (i3 + 1)) H39).succ.le l5))))))))))))))) (
  (∃ I49 : Int → Int → Hp → Prop, (∃ I50 : Int → Int → Hp → Nat, ((I49 i2 0 H4) ∧
  (∀ i51 : Int, (∀ i52 : Int, (∀ H53 : Hp, (∀ l54 : Nat, (∀ j55 : Nat → Value, (((I49 i51 i52 H53)) → 
  ((I50 i51 i52 H53 = l54) → 
  (br (decide (i52 < 1)) (
  (∃ I56 : Int → Int → Hp → Prop, (∃ I57 : Int → Int → Hp → Nat, ((I56 i51 0 H53) ∧
  (∀ i58 : Int, (∀ i59 : Int, (∀ H60 : Hp, (∀ l61 : Nat, (∀ j62 : Nat → Value, (((I56 i58 i59 H60)) → 
  ((I57 i58 i59 H60 = l61) → 
  (br (decide (i59 < 1)) (
  (br (i3 == x2) (
  (br (i52 == x3) (
  (br (i59 == x4) (
  (K (.tuple #[.int .i64 i58, .bool true]) H60)) (
  ((I56 (wr .i64 (i58 + 1)) (wr .i64 (i59 + 1)) H60) ∧
  ((I57 (wr .i64 (i58 + 1)) (wr .i64 (i59 + 1)) H60).succ.le l61))))) (
  ((I56 (wr .i64 (i58 + 1)) (wr .i64 (i59 + 1)) H60) ∧
  ((I57 (wr .i64 (i58 + 1)) (wr .i64 (i59 + 1)) H60).succ.le l61))))) (
  ((I56 (wr .i64 (i58 + 1)) (wr .i64 (i59 + 1)) H60) ∧
  ((I57 (wr .i64 (i58 + 1)) (wr .i64 (i59 + 1)) H60).succ.le l61))))) (
  ((I49 i58 (wr .i64 (i52 + 1)) H60) ∧
  ((I50 i58 (wr .i64 (i52 + 1)) H60).succ.le l54))))))))))))))) (
  ((I0 i51 (wr .i64 (i3 + 1)) H53) ∧
  ((I1 i51 (wr .i64 (i3 + 1)) H53).succ.le l5))))))))))))))))))) (
  (K (.tuple #[.int .i64 0, .bool false]) H4)))))))))))))
theorem W20 (m : Amb) (x0 : Int) (x1 : Int) (x2 : Int) (x3 : Int) (x4 : Int) (H : Hp) (K : Value → Hp → Prop) : funcW Tryd.prog m [⟨true, 4, [(12, (.i .i64)), (13, (.i .i64))]⟩, ⟨true, 12, [(12, (.i .i64)), (16, (.i .i64))]⟩, ⟨true, 15, [(12, (.i .i64)), (17, (.i .i64))]⟩] Tryd.f20 [.c (.i .i64 x0), .c (.i .i64 x1), .c (.i .i64 x2), .c (.i .i64 x3), .c (.i .i64 x4)] H K = t20 m x0 x1 x2 x3 x4 H K := by kernel_rfl
theorem S20 {m : Amb} {x0 : Int} {x1 : Int} {x2 : Int} {x3 : Int} {x4 : Int} {H : Hp} {K : Value → Hp → Prop} (h : t20 m x0 x1 x2 x3 x4 H K) : CallsH Tryd.prog m 20 [.int .i64 x0, .int .i64 x1, .int .i64 x2, .int .i64 x3, .int .i64 x4] H K :=
  callsH_of_W (args := [.c (.i .i64 x0), .c (.i .i64 x1), .c (.i .i64 x2), .c (.i .i64 x3), .c (.i .i64 x4)]) mixed Tryd.func20 ((W20 m x0 x1 x2 x3 x4 H K).mpr h)

/-- switchyard/switchyardref03.Same -/
def t26 (m : Amb) (q0 : Option Addr) (n0 : Nat) (c0 : Nat) (q1 : Option Addr) (n1 : Nat) (c1 : Nat) (H : Hp) (K : Value → Hp → Prop) : Prop :=
  (br ((n0 : Int) != (n1 : Int)) (
  (K (.bool false) H)) (
  (∃ I0 : Int → Hp → Prop, (∃ I1 : Int → Hp → Nat, ((I0 0 H) ∧
  (∀ i2 : Int, (∀ H3 : Hp, (∀ l4 : Nat, (∀ j5 : Nat → Value, (((I0 i2 H3)) → 
  ((I1 i2 H3 = l4) → 
  (br (decide (i2 < (n0 : Int))) (
  (ixS q0 i2 n0 (fun a6 =>
  (ldI .i64 H3 (a6.add (i2.toNat * 1)) (fun i7 =>
  (ixS q1 i2 n1 (fun a8 =>
  (ldI .i64 H3 (a8.add (i2.toNat * 1)) (fun i9 =>
  (br (i7 != i9) (
  (K (.bool false) H3)) (
  ((I0 (wr .i64 (i2 + 1)) H3) ∧
  ((I1 (wr .i64 (i2 + 1)) H3).succ.le l4))))))))))))) (
  (K (.bool true) H3))))))))))))))
theorem W26 (m : Amb) (q0 : Option Addr) (n0 : Nat) (c0 : Nat) (q1 : Option Addr) (n1 : Nat) (c1 : Nat) (H : Hp) (K : Value → Hp → Prop) : funcW Tryd.prog m [⟨true, 5, [(5, (.i .i64))]⟩] Tryd.f26 [.c (.sl q0 n0 c0), .c (.sl q1 n1 c1)] H K = t26 m q0 n0 c0 q1 n1 c1 H K := by kernel_rfl
theorem S26 {m : Amb} {q0 : Option Addr} {n0 : Nat} {c0 : Nat} {q1 : Option Addr} {n1 : Nat} {c1 : Nat} {H : Hp} {K : Value → Hp → Prop} (h : t26 m q0 n0 c0 q1 n1 c1 H K) : CallsH Tryd.prog m 26 [.slice q0 n0 c0, .slice q1 n1 c1] H K :=
  callsH_of_W (args := [.c (.sl q0 n0 c0), .c (.sl q1 n1 c1)]) mixed Tryd.func26 ((W26 m q0 n0 c0 q1 n1 c1 H K).mpr h)

/-- slices.Clone[[]switchyard/port.Touch,switchyard/port.Touch] -/
def t67 (m : Amb) (q0 : Option Addr) (n0 : Nat) (c0 : Nat) (H : Hp) (K : Value → Hp → Prop) : Prop :=
  (br q0.isNone (
  (K (.slice none 0 0) H)) (
  (nw H ([]) 76 (fun a0 H1 =>
  (rd H1 q0 (n0 * 3) (fun cs2 =>
  (ap Tryd.prog 76 3 24 H1 (some a0) 0 0 cs2 n0 (fun r3 l4 l5 H6 =>
  (K (.slice r3 l4 l5) H6)))))))))
theorem W67 (m : Amb) (q0 : Option Addr) (n0 : Nat) (c0 : Nat) (H : Hp) (K : Value → Hp → Prop) : funcW Tryd.prog m [] Tryd.f67 [.c (.sl q0 n0 c0)] H K = t67 m q0 n0 c0 H K := by kernel_rfl
theorem S67 {m : Amb} {q0 : Option Addr} {n0 : Nat} {c0 : Nat} {H : Hp} {K : Value → Hp → Prop} (h : t67 m q0 n0 c0 H K) : CallsH Tryd.prog m 67 [.slice q0 n0 c0] H K :=
  callsH_of_W (args := [.c (.sl q0 n0 c0)]) mixed Tryd.func67 ((W67 m q0 n0 c0 H K).mpr h)

end Go.Proofs.YtdipbhbhakmaiaaDoor
