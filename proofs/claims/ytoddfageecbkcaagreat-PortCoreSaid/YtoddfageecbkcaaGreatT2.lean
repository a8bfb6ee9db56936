/-
  SHALLOW TEXTS: of each Go function named below: what its code asks of its continuation, as the engine reckons it (written by a program of ours; each is checked by the kernel against the code).
-/
import Derived.Test.YtoddfageecbkcaaGreatT0
namespace Go.Proofs.YtoddfageecbkcaaGreat
open Go Go.Eng
set_option maxRecDepth 100000
set_option linter.unusedVariables false

/-- switchyard/switchyardlaw14.PortCore -/
def t3 (m : Amb) (x0 : Int) (x1 : Int) (x2 : Int) (x3 : Int) (q4 : Option Addr) (n4 : Nat) (c4 : Nat) (x5 : Int) (q6 : Option Addr) (n6 : Nat) (c6 : Nat) (H : Hp) (K : Value → Hp → Prop) : Prop :=
  (nw H ([.int .i64 x0, .int .i64 x1, .int .i64 x2]) 23 (fun a0 H1 =>
  (nw H1 ([.int .i64 x5, .slice q6 n6 c6]) 27 (fun a2 H3 =>
  (ldI .i64 H3 (a0.add 0) (fun i4 =>
  (ldI .i64 H3 (a0.add 1) (fun i5 =>
  (ldI .i64 H3 (a0.add 2) (fun i6 =>
  (cl Tryz.prog m 4 ([.agg #[.int .i64 i4, .int .i64 i5, .int .i64 i6], .int .i64 x3]) H3 (fun w7 H8 =>
  (∃ r9 : Option Addr, (∃ i10 : Int, (must (
  w7 = .tuple #[.pointer r9, .int .i64 i10]) (
  (br r9.isNone (
  (cl Tryz.prog m 5 ([]) H8 (fun w11 H12 =>
  (∃ e13 : Bool, (must (
  w11 = .bool e13) (
  (K (.bool e13) H12))))))) (
  (br (i10 != 0) (
  (cl Tryz.prog m 5 ([]) H8 (fun w14 H15 =>
  (∃ e16 : Bool, (must (
  w14 = .bool e16) (
  (K (.bool e16) H15))))))) (
  (ldI .i64 H8 (a0.add 1) (fun i17 =>
  (br (decide (i17 > 100)) (
  (cl Tryz.prog m 5 ([]) H8 (fun w18 H19 =>
  (∃ e20 : Bool, (must (
  w18 = .bool e20) (
  (K (.bool e20) H19))))))) (
  (br (decide ((n4 : Int) > 40)) (
  (cl Tryz.prog m 5 ([]) H8 (fun w21 H22 =>
  (∃ e23 : Bool, (must (
  w21 = .bool e23) (
  (K (.bool e23) H22))))))) (
  (ldS H8 (a2.add 1) (fun r24 l25 l26 =>
  (br (decide ((l25 : Int) > 40)) (
  (cl Tryz.prog m 5 ([]) H8 (fun w27 H28 =>
  (∃ e29 : Bool, (must (
  w27 = .bool e29) (
  (K (.bool e29) H28))))))) (
  (∃ I30 : Int → Hp → Prop, (∃ I31 : Int → Hp → Nat, ((I30 0 H8) ∧
  (∀ i32 : Int, (∀ H33 : Hp, (∀ l34 : Nat, (∀ j35 : Nat → Value, (((I30 i32 H33)) → 
  ((I31 i32 H33 = l34) → 
  (br (decide (i32 < (n4 : Int))) (
  (ixS q4 i32 n4 (fun a36 =>
  (ldI .i64 H33 ((a36.add (i32.toNat * 4)).add 0) (fun i37 =>
  (ldI .i64 H33 ((a36.add (i32.toNat * 4)).add 1) (fun i38 =>
  (ldI .i64 H33 ((a36.add (i32.toNat * 4)).add 2) (fun i39 =>
  (ldI .i64 H33 ((a36.add (i32.toNat * 4)).add 3) (fun i40 =>
  (nw H33 (zc Tryz.prog 34) 34 (fun a41 H42 =>
  (st H42 (a41.add 0) (.int .i64 i37) (fun H43 =>
  (st H43 (a41.add 1) (.int .i64 i38) (fun H44 =>
  (st H44 (a41.add 2) (.int .i64 i39) (fun H45 =>
  (st H45 (a41.add 3) (.int .i64 i40) (fun H46 =>
  (ldI .i64 H46 (a41.add 0) (fun i47 =>
  (ldI .i64 H46 (a41.add 1) (fun i48 =>
  (ldI .i64 H46 (a41.add 2) (fun i49 =>
  (ldI .i64 H46 (a41.add 3) (fun i50 =>
  (cl Tryz.prog m 6 ([.pointer r9, .agg #[.int .i64 i47, .int .i64 i48, .int .i64 i49, .int .i64 i50]]) H46 (fun w51 H52 =>
  (∃ i53 : Int, (∃ i54 : Int, (must (
  w51 = .tuple #[.int .i64 i53, .int .i64 i54]) (
  ((I30 (wr .i64 (i32 + 1)) H52) ∧
  ((I31 (wr .i64 (i32 + 1)) H52).succ.le l34))))))))))))))))))))))))))))))))))))) (
  (cl Tryz.prog m 7 ([.pointer r9]) H33 (fun w55 H56 =>
  (∃ r57 : Option Addr, (must (
  w55 = .pointer r57) (
  (ldI .i64 H56 (a2.add 0) (fun i58 =>
  (cl Tryz.prog m 8 ([.pointer r9, .int .i64 i58]) H56 (fun w59 H60 =>
  (∃ r61 : Option Addr, (must (
  w59 = .pointer r61) (
  (ldS H60 (a2.add 1) (fun r62 l63 l64 =>
  (∃ I65 : Int → Hp → Prop, (∃ I66 : Int → Hp → Nat, ((I65 0 H60) ∧
  (∀ i67 : Int, (∀ H68 : Hp, (∀ l69 : Nat, (∀ j70 : Nat → Value, (((I65 i67 H68)) → 
  ((I66 i67 H68 = l69) → 
  (br (decide (i67 < (l63 : Int))) (
  (ixS r62 i67 l63 (fun a71 =>
  (ldI .i64 H68 ((a71.add (i67.toNat * 3)).add 0) (fun i72 =>
  (ldI .i64 H68 ((a71.add (i67.toNat * 3)).add 1) (fun i73 =>
  (ldI .i64 H68 ((a71.add (i67.toNat * 3)).add 2) (fun i74 =>
  (nw H68 (zc Tryz.prog 41) 41 (fun a75 H76 =>
  (st H76 (a75.add 0) (.int .i64 i72) (fun H77 =>
  (st H77 (a75.add 1) (.int .i64 i73) (fun H78 =>
  (st H78 (a75.add 2) (.int .i64 i74) (fun H79 =>
  (ldI .i64 H79 (a75.add 1) (fun i80 =>
  (br (decide (i80 ≥ 0)) (
  (ldI .i64 H79 (a75.add 1) (fun i81 =>
  (ldI .i64 H79 (a0.add 1) (fun i82 =>
  (∃ I83 : Int → Hp → Prop, ((ldI .i64 H79 (a75.add 0) (fun i84 =>
  (br (i84 == 1) (
  (br (decide (i81 < i82)) (
  (ldI .i64 H79 (a2.add 0) (fun i85 =>
  (ldI .i64 H79 (a75.add 1) (fun i86 =>
  (cl Tryz.prog m 9 ([.pointer r57, .int .i64 i85, .int .i64 i86]) H79 (fun w87 H88 =>
  (∃ i89 : Int, (∃ i90 : Int, (must (
  w87 = .tuple #[.int .i64 i89, .int .i64 i90]) (
  (I83 i89 H88)))))))))))) (
  (ldI .i64 H79 (a75.add 0) (fun i91 =>
  (br (i91 == 2) (
  (br (decide (i81 < i82)) (
  (ldI .i64 H79 (a2.add 0) (fun i92 =>
  (ldI .i64 H79 (a75.add 1) (fun i93 =>
  (ldI .i64 H79 (a75.add 2) (fun i94 =>
  (cl Tryz.prog m 10 ([.pointer r57, .int .i64 i92, .int .i64 i93, .int .i64 i94]) H79 (fun w95 H96 =>
  (∃ i97 : Int, (must (
  w95 = .int .i64 i97) (
  (I83 0 H96))))))))))))) (
  (ldI .i64 H79 (a75.add 0) (fun i98 =>
  (br (i98 == 3) (
  (ldI .i64 H79 (a2.add 0) (fun i99 =>
  (cl Tryz.prog m 11 ([.pointer r57, .int .i64 i99]) H79 (fun w100 H101 =>
  (∃ i102 : Int, (∃ i103 : Int, (must (
  w100 = .tuple #[.int .i64 i102, .int .i64 i103]) (
  (I83 0 H101)))))))))) (
  (ldI .i64 H79 (a75.add 0) (fun i104 =>
  (br (i104 == 4) (
  (ldI .i64 H79 (a75.add 1) (fun i105 =>
  (br (decide (i105 ≥ 0)) (
  (ldI .i64 H79 (a75.add 1) (fun i106 =>
  (ldI .i64 H79 (a0.add 0) (fun i107 =>
  (br (decide (i106 < i107)) (
  (ldI .i64 H79 (a2.add 0) (fun i108 =>
  (ldI .i64 H79 (a75.add 1) (fun i109 =>
  (cl Tryz.prog m 9 ([.pointer r57, .int .i64 i108, .int .i64 (wr .i64 (66048 + i109))]) H79 (fun w110 H111 =>
  (∃ i112 : Int, (∃ i113 : Int, (must (
  w110 = .tuple #[.int .i64 i112, .int .i64 i113]) (
  (I83 i112 H111)))))))))))) (
  (ldI .i64 H79 (a75.add 0) (fun i114 =>
  (br (i114 == 5) (
  (ldI .i64 H79 (a75.add 1) (fun i115 =>
  (br (decide (i115 ≥ 0)) (
  (ldI .i64 H79 (a75.add 1) (fun i116 =>
  (ldI .i64 H79 (a0.add 0) (fun i117 =>
  (br (decide (i116 < i117)) (
  (ldI .i64 H79 (a2.add 0) (fun i118 =>
  (ldI .i64 H79 (a75.add 1) (fun i119 =>
  (ldI .i64 H79 (a2.add 0) (fun i120 =>
  (cl Tryz.prog m 10 ([.pointer r57, .int .i64 i118, .int .i64 (wr .i64 (wr .i64 (65536 + wr .i64 (16 * i119)) + 2)), .int .i64 i120]) H79 (fun w121 H122 =>
  (∃ i123 : Int, (must (
  w121 = .int .i64 i123) (
  (I83 0 H122))))))))))))) (
  (I83 0 H79)))))))) (
  (I83 0 H79)))))) (
  (I83 0 H79)))))))))))) (
  (ldI .i64 H79 (a75.add 0) (fun i124 =>
  (br (i124 == 5) (
  (ldI .i64 H79 (a75.add 1) (fun i125 =>
  (br (decide (i125 ≥ 0)) (
  (ldI .i64 H79 (a75.add 1) (fun i126 =>
  (ldI .i64 H79 (a0.add 0) (fun i127 =>
  (br (decide (i126 < i127)) (
  (ldI .i64 H79 (a2.add 0) (fun i128 =>
  (ldI .i64 H79 (a75.add 1) (fun i129 =>
  (ldI .i64 H79 (a2.add 0) (fun i130 =>
  (cl Tryz.prog m 10 ([.pointer r57, .int .i64 i128, .int .i64 (wr .i64 (wr .i64 (65536 + wr .i64 (16 * i129)) + 2)), .int .i64 i130]) H79 (fun w131 H132 =>
  (∃ i133 : Int, (must (
  w131 = .int .i64 i133) (
  (I83 0 H132))))))))))))) (
  (I83 0 H79)))))))) (
  (I83 0 H79)))))) (
  (I83 0 H79)))))))))) (
  (ldI .i64 H79 (a75.add 0) (fun i134 =>
  (br (i134 == 5) (
  (ldI .i64 H79 (a75.add 1) (fun i135 =>
  (br (decide (i135 ≥ 0)) (
  (ldI .i64 H79 (a75.add 1) (fun i136 =>
  (ldI .i64 H79 (a0.add 0) (fun i137 =>
  (br (decide (i136 < i137)) (
  (ldI .i64 H79 (a2.add 0) (fun i138 =>
  (ldI .i64 H79 (a75.add 1) (fun i139 =>
  (ldI .i64 H79 (a2.add 0) (fun i140 =>
  (cl Tryz.prog m 10 ([.pointer r57, .int .i64 i138, .int .i64 (wr .i64 (wr .i64 (65536 + wr .i64 (16 * i139)) + 2)), .int .i64 i140]) H79 (fun w141 H142 =>
  (∃ i143 : Int, (must (
  w141 = .int .i64 i143) (
  (I83 0 H142))))))))))))) (
  (I83 0 H79)))))))) (
  (I83 0 H79)))))) (
  (I83 0 H79)))))))))))))))) (
  (ldI .i64 H79 (a75.add 0) (fun i144 =>
  (br (i144 == 3) (
  (ldI .i64 H79 (a2.add 0) (fun i145 =>
  (cl Tryz.prog m 11 ([.pointer r57, .int .i64 i145]) H79 (fun w146 H147 =>
  (∃ i148 : Int, (∃ i149 : Int, (must (
  w146 = .tuple #[.int .i64 i148, .int .i64 i149]) (
  (I83 0 H147)))))))))) (
  (ldI .i64 H79 (a75.add 0) (fun i150 =>
  (br (i150 == 4) (
  (ldI .i64 H79 (a75.add 1) (fun i151 =>
  (br (decide (i151 ≥ 0)) (
  (ldI .i64 H79 (a75.add 1) (fun i152 =>
  (ldI .i64 H79 (a0.add 0) (fun i153 =>
  (br (decide (i152 < i153)) (
  (ldI .i64 H79 (a2.add 0) (fun i154 =>
  (ldI .i64 H79 (a75.add 1) (fun i155 =>
  (cl Tryz.prog m 9 ([.pointer r57, .int .i64 i154, .int .i64 (wr .i64 (66048 + i155))]) H79 (fun w156 H157 =>
  (∃ i158 : Int, (∃ i159 : Int, (must (
  w156 = .tuple #[.int .i64 i158, .int .i64 i159]) (
  (I83 i158 H157)))))))))))) (
  (ldI .i64 H79 (a75.add 0) (fun i160 =>
  (br (i160 == 5) (
  (ldI .i64 H79 (a75.add 1) (fun i161 =>
  (br (decide (i161 ≥ 0)) (
  (ldI .i64 H79 (a75.add 1) (fun i162 =>
  (ldI .i64 H79 (a0.add 0) (fun i163 =>
  (br (decide (i162 < i163)) (
  (ldI .i64 H79 (a2.add 0) (fun i164 =>
  (ldI .i64 H79 (a75.add 1) (fun i165 =>
  (ldI .i64 H79 (a2.add 0) (fun i166 =>
  (cl Tryz.prog m 10 ([.pointer r57, .int .i64 i164, .int .i64 (wr .i64 (wr .i64 (65536 + wr .i64 (16 * i165)) + 2)), .int .i64 i166]) H79 (fun w167 H168 =>
  (∃ i169 : Int, (must (
  w167 = .int .i64 i169) (
  (I83 0 H168))))))))))))) (
  (I83 0 H79)))))))) (
  (I83 0 H79)))))) (
  (I83 0 H79)))))))))))) (
  (ldI .i64 H79 (a75.add 0) (fun i170 =>
  (br (i170 == 5) (
  (ldI .i64 H79 (a75.add 1) (fun i171 =>
  (br (decide (i171 ≥ 0)) (
  (ldI .i64 H79 (a75.add 1) (fun i172 =>
  (ldI .i64 H79 (a0.add 0) (fun i173 =>
  (br (decide (i172 < i173)) (
  (ldI .i64 H79 (a2.add 0) (fun i174 =>
  (ldI .i64 H79 (a75.add 1) (fun i175 =>
  (ldI .i64 H79 (a2.add 0) (fun i176 =>
  (cl Tryz.prog m 10 ([.pointer r57, .int .i64 i174, .int .i64 (wr .i64 (wr .i64 (65536 + wr .i64 (16 * i175)) + 2)), .int .i64 i176]) H79 (fun w177 H178 =>
  (∃ i179 : Int, (must (
  w177 = .int .i64 i179) (
  (I83 0 H178))))))))))))) (
  (I83 0 H79)))))))) (
  (I83 0 H79)))))) (
  (I83 0 H79)))))))))) (
  (ldI .i64 H79 (a75.add 0) (fun i180 =>
  (br (i180 == 5) (
  (ldI .i64 H79 (a75.add 1) (fun i181 =>
  (br (decide (i181 ≥ 0)) (
  (ldI .i64 H79 (a75.add 1) (fun i182 =>
  (ldI .i64 H79 (a0.add 0) (fun i183 =>
  (br (decide (i182 < i183)) (
  (ldI .i64 H79 (a2.add 0) (fun i184 =>
  (ldI .i64 H79 (a75.add 1) (fun i185 =>
  (ldI .i64 H79 (a2.add 0) (fun i186 =>
  (cl Tryz.prog m 10 ([.pointer r57, .int .i64 i184, .int .i64 (wr .i64 (wr .i64 (65536 + wr .i64 (16 * i185)) + 2)), .int .i64 i186]) H79 (fun w187 H188 =>
  (∃ i189 : Int, (must (
  w187 = .int .i64 i189) (
  (I83 0 H188))))))))))))) (
  (I83 0 H79)))))))) (
  (I83 0 H79)))))) (
  (I83 0 H79)))))))))))))))))))) (
  (ldI .i64 H79 (a75.add 0) (fun i190 =>
  (br (i190 == 2) (
  (br (decide (i81 < i82)) (
  (ldI .i64 H79 (a2.add 0) (fun i191 =>
  (ldI .i64 H79 (a75.add 1) (fun i192 =>
  (ldI .i64 H79 (a75.add 2) (fun i193 =>
  (cl Tryz.prog m 10 ([.pointer r57, .int .i64 i191, .int .i64 i192, .int .i64 i193]) H79 (fun w194 H195 =>
  (∃ i196 : Int, (must (
  w194 = .int .i64 i196) (
  (I83 0 H195))))))))))))) (
  (ldI .i64 H79 (a75.add 0) (fun i197 =>
  (br (i197 == 3) (
  (ldI .i64 H79 (a2.add 0) (fun i198 =>
  (cl Tryz.prog m 11 ([.pointer r57, .int .i64 i198]) H79 (fun w199 H200 =>
  (∃ i201 : Int, (∃ i202 : Int, (must (
  w199 = .tuple #[.int .i64 i201, .int .i64 i202]) (
  (I83 0 H200)))))))))) (
  (ldI .i64 H79 (a75.add 0) (fun i203 =>
  (br (i203 == 4) (
  (ldI .i64 H79 (a75.add 1) (fun i204 =>
  (br (decide (i204 ≥ 0)) (
  (ldI .i64 H79 (a75.add 1) (fun i205 =>
  (ldI .i64 H79 (a0.add 0) (fun i206 =>
  (br (decide (i205 < i206)) (
  (ldI .i64 H79 (a2.add 0) (fun i207 =>
  (ldI .i64 H79 (a75.add 1) (fun i208 =>
  (cl Tryz.prog m 9 ([.pointer r57, .int .i64 i207, .int .i64 (wr .i64 (66048 + i208))]) H79 (fun w209 H210 =>
  (∃ i211 : Int, (∃ i212 : Int, (must (
  w209 = .tuple #[.int .i64 i211, .int .i64 i212]) (
  (I83 i211 H210)))))))))))) (
  (ldI .i64 H79 (a75.add 0) (fun i213 =>
  (br (i213 == 5) (
  (ldI .i64 H79 (a75.add 1) (fun i214 =>
  (br (decide (i214 ≥ 0)) (
  (ldI .i64 H79 (a75.add 1) (fun i215 =>
  (ldI .i64 H79 (a0.add 0) (fun i216 =>
  (br (decide (i215 < i216)) (
  (ldI .i64 H79 (a2.add 0) (fun i217 =>
  (ldI .i64 H79 (a75.add 1) (fun i218 =>
  (ldI .i64 H79 (a2.add 0) (fun i219 =>
  (cl Tryz.prog m 10 ([.pointer r57, .int .i64 i217, .int .i64 (wr .i64 (wr .i64 (65536 + wr .i64 (16 * i218)) + 2)), .int .i64 i219]) H79 (fun w220 H221 =>
  (∃ i222 : Int, (must (
  w220 = .int .i64 i222) (
  (I83 0 H221))))))))))))) (
  (I83 0 H79)))))))) (
  (I83 0 H79)))))) (
  (I83 0 H79)))))))))))) (
  (ldI .i64 H79 (a75.add 0) (fun i223 =>
  (br (i223 == 5) (
  (ldI .i64 H79 (a75.add 1) (fun i224 =>
  (br (decide (i224 ≥ 0)) (
  (ldI .i64 H79 (a75.add 1) (fun i225 =>
  (ldI .i64 H79 (a0.add 0) (fun i226 =>
  (br (decide (i225 < i226)) (
  (ldI .i64 H79 (a2.add 0) (fun i227 =>
  (ldI .i64 H79 (a75.add 1) (fun i228 =>
  (ldI .i64 H79 (a2.add 0) (fun i229 =>
  (cl Tryz.prog m 10 ([.pointer r57, .int .i64 i227, .int .i64 (wr .i64 (wr .i64 (65536 + wr .i64 (16 * i228)) + 2)), .int .i64 i229]) H79 (fun w230 H231 =>
  (∃ i232 : Int, (must (
  w230 = .int .i64 i232) (
  (I83 0 H231))))))))))))) (
  (I83 0 H79)))))))) (
  (I83 0 H79)))))) (
  (I83 0 H79)))))))))) (
  (ldI .i64 H79 (a75.add 0) (fun i233 =>
  (br (i233 == 5) (
  (ldI .i64 H79 (a75.add 1) (fun i234 =>
  (br (decide (i234 ≥ 0)) (
  (ldI .i64 H79 (a75.add 1) (fun i235 =>
  (ldI .i64 H79 (a0.add 0) (fun i236 =>
  (br (decide (i235 < i236)) (
  (ldI .i64 H79 (a2.add 0) (fun i237 =>
  (ldI .i64 H79 (a75.add 1) (fun i238 =>
  (ldI .i64 H79 (a2.add 0) (fun i239 =>
  (cl Tryz.prog m 10 ([.pointer r57, .int .i64 i237, .int .i64 (wr .i64 (wr .i64 (65536 + wr .i64 (16 * i238)) + 2)), .int .i64 i239]) H79 (fun w240 H241 =>
  (∃ i242 : Int, (must (
  w240 = .int .i64 i242) (
  (I83 0 H241))))))))))))) (
  (I83 0 H79)))))))) (
  (I83 0 H79)))))) (
  (I83 0 H79)))))))))))))))) (
  (ldI .i64 H79 (a75.add 0) (fun i243 =>
  (br (i243 == 3) (
  (ldI .i64 H79 (a2.add 0) (fun i244 =>
  (cl Tryz.prog m 11 ([.pointer r57, .int .i64 i244]) H79 (fun w245 H246 =>
  (∃ i247 : Int, (∃ i248 : Int, (must (
  w245 = .tuple #[.int .i64 i247, .int .i64 i248]) (
  (I83 0 H246)))))))))) (
  (ldI .i64 H79 (a75.add 0) (fun i249 =>
  (br (i249 == 4) (
  (ldI .i64 H79 (a75.add 1) (fun i250 =>
  (br (decide (i250 ≥ 0)) (
  (ldI .i64 H79 (a75.add 1) (fun i251 =>
  (ldI .i64 H79 (a0.add 0) (fun i252 =>
  (br (decide (i251 < i252)) (
  (ldI .i64 H79 (a2.add 0) (fun i253 =>
  (ldI .i64 H79 (a75.add 1) (fun i254 =>
  (cl Tryz.prog m 9 ([.pointer r57, .int .i64 i253, .int .i64 (wr .i64 (66048 + i254))]) H79 (fun w255 H256 =>
  (∃ i257 : Int, (∃ i258 : Int, (must (
  w255 = .tuple #[.int .i64 i257, .int .i64 i258]) (
  (I83 i257 H256)))))))))))) (
  (ldI .i64 H79 (a75.add 0) (fun i259 =>
  (br (i259 == 5) (
  (ldI .i64 H79 (a75.add 1) (fun i260 =>
  (br (decide (i260 ≥ 0)) (
  (ldI .i64 H79 (a75.add 1) (fun i261 =>
  (ldI .i64 H79 (a0.add 0) (fun i262 =>
  (br (decide (i261 < i262)) (
  (ldI .i64 H79 (a2.add 0) (fun i263 =>
  (ldI .i64 H79 (a75.add 1) (fun i264 =>
  (ldI .i64 H79 (a2.add 0) (fun i265 =>
  (cl Tryz.prog m 10 ([.pointer r57, .int .i64 i263, .int .i64 (wr .i64 (wr .i64 (65536 + wr .i64 (16 * i264)) + 2)), .int .i64 i265]) H79 (fun w266 H267 =>
  (∃ i268 : Int, (must (
  w266 = .int .i64 i268) (
  (I83 0 H267))))))))))))) (
  (I83 0 H79)))))))) (
  (I83 0 H79)))))) (
  (I83 0 H79)))))))))))) (
  (ldI .i64 H79 (a75.add 0) (fun i269 =>
  (br (i269 == 5) (
  (ldI .i64 H79 (a75.add 1) (fun i270 =>
  (br (decide (i270 ≥ 0)) (
  (ldI .i64 H79 (a75.add 1) (fun i271 =>
  (ldI .i64 H79 (a0.add 0) (fun i272 =>
  (br (decide (i271 < i272)) (
  (ldI .i64 H79 (a2.add 0) (fun i273 =>
  (ldI .i64 H79 (a75.add 1) (fun i274 =>
  (ldI .i64 H79 (a2.add 0) (fun i275 =>
  (cl Tryz.prog m 10 ([.pointer r57, .int .i64 i273, .int .i64 (wr .i64 (wr .i64 (65536 + wr .i64 (16 * i274)) + 2)), .int .i64 i275]) H79 (fun w276 H277 =>
  (∃ i278 : Int, (must (
  w276 = .int .i64 i278) (
  (I83 0 H277))))))))))))) (
  (I83 0 H79)))))))) (
  (I83 0 H79)))))) (
  (I83 0 H79)))))))))) (
  (ldI .i64 H79 (a75.add 0) (fun i279 =>
  (br (i279 == 5) (
  (ldI .i64 H79 (a75.add 1) (fun i280 =>
  (br (decide (i280 ≥ 0)) (
  (ldI .i64 H79 (a75.add 1) (fun i281 =>
  (ldI .i64 H79 (a0.add 0) (fun i282 =>
  (br (decide (i281 < i282)) (
  (ldI .i64 H79 (a2.add 0) (fun i283 =>
  (ldI .i64 H79 (a75.add 1) (fun i284 =>
  (ldI .i64 H79 (a2.add 0) (fun i285 =>
  (cl Tryz.prog m 10 ([.pointer r57, .int .i64 i283, .int .i64 (wr .i64 (wr .i64 (65536 + wr .i64 (16 * i284)) + 2)), .int .i64 i285]) H79 (fun w286 H287 =>
  (∃ i288 : Int, (must (
  w286 = .int .i64 i288) (
  (I83 0 H287))))))))))))) (
  (I83 0 H79)))))))) (
  (I83 0 H79)))))) (
  (I83 0 H79))))))))))))))))))))) ∧
  (∀ i289 : Int, (∀ H290 : Hp, (∀ j291 : Nat → Value, (((I83 i289 H290)) → 
  (ldI .i64 H290 (a75.add 0) (fun i292 =>
  (ldI .i64 H290 (a75.add 1) (fun i293 =>
  (ldI .i64 H290 (a75.add 2) (fun i294 =>
  (cl Tryz.prog m 12 ([.iface 38 (.pointer r61), .agg #[.int .i64 i292, .int .i64 i293, .int .i64 i294]]) H290 (fun w295 H296 =>
  (∃ i297 : Int, (must (
  w295 = .int .i64 i297) (
  (br (i297 != i289) (
  (K (.bool false) H296)) (
  (cl Tryz.prog m 13 ([.pointer r9, .pointer r57]) H296 (fun w298 H299 =>
  (∃ e300 : Bool, (must (
  w298 = .bool e300) (
  (br (!e300) (
  (K (.bool false) H299)) (
  ((I65 (wr .i64 (i67 + 1)) H299) ∧
  ((I66 (wr .i64 (i67 + 1)) H299).succ.le l69))))))))))))))))))))))))))))))))) (
  (∃ I301 : Int → Hp → Prop, ((ldI .i64 H79 (a75.add 0) (fun i302 =>
  (br (i302 == 1) (
  (ldI .i64 H79 (a75.add 0) (fun i303 =>
  (br (i303 == 2) (
  (ldI .i64 H79 (a75.add 0) (fun i304 =>
  (br (i304 == 3) (
  (ldI .i64 H79 (a2.add 0) (fun i305 =>
  (cl Tryz.prog m 11 ([.pointer r57, .int .i64 i305]) H79 (fun w306 H307 =>
  (∃ i308 : Int, (∃ i309 : Int, (must (
  w306 = .tuple #[.int .i64 i308, .int .i64 i309]) (
  (I301 0 H307)))))))))) (
  (ldI .i64 H79 (a75.add 0) (fun i310 =>
  (br (i310 == 4) (
  (ldI .i64 H79 (a75.add 1) (fun i311 =>
  (br (decide (i311 ≥ 0)) (
  (ldI .i64 H79 (a75.add 1) (fun i312 =>
  (ldI .i64 H79 (a0.add 0) (fun i313 =>
  (br (decide (i312 < i313)) (
  (ldI .i64 H79 (a2.add 0) (fun i314 =>
  (ldI .i64 H79 (a75.add 1) (fun i315 =>
  (cl Tryz.prog m 9 ([.pointer r57, .int .i64 i314, .int .i64 (wr .i64 (66048 + i315))]) H79 (fun w316 H317 =>
  (∃ i318 : Int, (∃ i319 : Int, (must (
  w316 = .tuple #[.int .i64 i318, .int .i64 i319]) (
  (I301 i318 H317)))))))))))) (
  (ldI .i64 H79 (a75.add 0) (fun i320 =>
  (br (i320 == 5) (
  (ldI .i64 H79 (a75.add 1) (fun i321 =>
  (br (decide (i321 ≥ 0)) (
  (ldI .i64 H79 (a75.add 1) (fun i322 =>
  (ldI .i64 H79 (a0.add 0) (fun i323 =>
  (br (decide (i322 < i323)) (
  (ldI .i64 H79 (a2.add 0) (fun i324 =>
  (ldI .i64 H79 (a75.add 1) (fun i325 =>
  (ldI .i64 H79 (a2.add 0) (fun i326 =>
  (cl Tryz.prog m 10 ([.pointer r57, .int .i64 i324, .int .i64 (wr .i64 (wr .i64 (65536 + wr .i64 (16 * i325)) + 2)), .int .i64 i326]) H79 (fun w327 H328 =>
  (∃ i329 : Int, (must (
  w327 = .int .i64 i329) (
  (I301 0 H328))))))))))))) (
  (I301 0 H79)))))))) (
  (I301 0 H79)))))) (
  (I301 0 H79)))))))))))) (
  (ldI .i64 H79 (a75.add 0) (fun i330 =>
  (br (i330 == 5) (
  (ldI .i64 H79 (a75.add 1) (fun i331 =>
  (br (decide (i331 ≥ 0)) (
  (ldI .i64 H79 (a75.add 1) (fun i332 =>
  (ldI .i64 H79 (a0.add 0) (fun i333 =>
  (br (decide (i332 < i333)) (
  (ldI .i64 H79 (a2.add 0) (fun i334 =>
  (ldI .i64 H79 (a75.add 1) (fun i335 =>
  (ldI .i64 H79 (a2.add 0) (fun i336 =>
  (cl Tryz.prog m 10 ([.pointer r57, .int .i64 i334, .int .i64 (wr .i64 (wr .i64 (65536 + wr .i64 (16 * i335)) + 2)), .int .i64 i336]) H79 (fun w337 H338 =>
  (∃ i339 : Int, (must (
  w337 = .int .i64 i339) (
  (I301 0 H338))))))))))))) (
  (I301 0 H79)))))))) (
  (I301 0 H79)))))) (
  (I301 0 H79)))))))))) (
  (ldI .i64 H79 (a75.add 0) (fun i340 =>
  (br (i340 == 5) (
  (ldI .i64 H79 (a75.add 1) (fun i341 =>
  (br (decide (i341 ≥ 0)) (
  (ldI .i64 H79 (a75.add 1) (fun i342 =>
  (ldI .i64 H79 (a0.add 0) (fun i343 =>
  (br (decide (i342 < i343)) (
  (ldI .i64 H79 (a2.add 0) (fun i344 =>
  (ldI .i64 H79 (a75.add 1) (fun i345 =>
  (ldI .i64 H79 (a2.add 0) (fun i346 =>
  (cl Tryz.prog m 10 ([.pointer r57, .int .i64 i344, .int .i64 (wr .i64 (wr .i64 (65536 + wr .i64 (16 * i345)) + 2)), .int .i64 i346]) H79 (fun w347 H348 =>
  (∃ i349 : Int, (must (
  w347 = .int .i64 i349) (
  (I301 0 H348))))))))))))) (
  (I301 0 H79)))))))) (
  (I301 0 H79)))))) (
  (I301 0 H79)))))))))))))) (
  (ldI .i64 H79 (a75.add 0) (fun i350 =>
  (br (i350 == 3) (
  (ldI .i64 H79 (a2.add 0) (fun i351 =>
  (cl Tryz.prog m 11 ([.pointer r57, .int .i64 i351]) H79 (fun w352 H353 =>
  (∃ i354 : Int, (∃ i355 : Int, (must (
  w352 = .tuple #[.int .i64 i354, .int .i64 i355]) (
  (I301 0 H353)))))))))) (
  (ldI .i64 H79 (a75.add 0) (fun i356 =>
  (br (i356 == 4) (
  (ldI .i64 H79 (a75.add 1) (fun i357 =>
  (br (decide (i357 ≥ 0)) (
  (ldI .i64 H79 (a75.add 1) (fun i358 =>
  (ldI .i64 H79 (a0.add 0) (fun i359 =>
  (br (decide (i358 < i359)) (
  (ldI .i64 H79 (a2.add 0) (fun i360 =>
  (ldI .i64 H79 (a75.add 1) (fun i361 =>
  (cl Tryz.prog m 9 ([.pointer r57, .int .i64 i360, .int .i64 (wr .i64 (66048 + i361))]) H79 (fun w362 H363 =>
  (∃ i364 : Int, (∃ i365 : Int, (must (
  w362 = .tuple #[.int .i64 i364, .int .i64 i365]) (
  (I301 i364 H363)))))))))))) (
  (ldI .i64 H79 (a75.add 0) (fun i366 =>
  (br (i366 == 5) (
  (ldI .i64 H79 (a75.add 1) (fun i367 =>
  (br (decide (i367 ≥ 0)) (
  (ldI .i64 H79 (a75.add 1) (fun i368 =>
  (ldI .i64 H79 (a0.add 0) (fun i369 =>
  (br (decide (i368 < i369)) (
  (ldI .i64 H79 (a2.add 0) (fun i370 =>
  (ldI .i64 H79 (a75.add 1) (fun i371 =>
  (ldI .i64 H79 (a2.add 0) (fun i372 =>
  (cl Tryz.prog m 10 ([.pointer r57, .int .i64 i370, .int .i64 (wr .i64 (wr .i64 (65536 + wr .i64 (16 * i371)) + 2)), .int .i64 i372]) H79 (fun w373 H374 =>
  (∃ i375 : Int, (must (
  w373 = .int .i64 i375) (
  (I301 0 H374))))))))))))) (
  (I301 0 H79)))))))) (
  (I301 0 H79)))))) (
  (I301 0 H79)))))))))))) (
  (ldI .i64 H79 (a75.add 0) (fun i376 =>
  (br (i376 == 5) (
  (ldI .i64 H79 (a75.add 1) (fun i377 =>
  (br (decide (i377 ≥ 0)) (
  (ldI .i64 H79 (a75.add 1) (fun i378 =>
  (ldI .i64 H79 (a0.add 0) (fun i379 =>
  (br (decide (i378 < i379)) (
  (ldI .i64 H79 (a2.add 0) (fun i380 =>
  (ldI .i64 H79 (a75.add 1) (fun i381 =>
  (ldI .i64 H79 (a2.add 0) (fun i382 =>
  (cl Tryz.prog m 10 ([.pointer r57, .int .i64 i380, .int .i64 (wr .i64 (wr .i64 (65536 + wr .i64 (16 * i381)) + 2)), .int .i64 i382]) H79 (fun w383 H384 =>
  (∃ i385 : Int, (must (
  w383 = .int .i64 i385) (
  (I301 0 H384))))))))))))) (
  (I301 0 H79)))))))) (
  (I301 0 H79)))))) (
  (I301 0 H79)))))))))) (
  (ldI .i64 H79 (a75.add 0) (fun i386 =>
  (br (i386 == 5) (
  (ldI .i64 H79 (a75.add 1) (fun i387 =>
  (br (decide (i387 ≥ 0)) (
  (ldI .i64 H79 (a75.add 1) (fun i388 =>
  (ldI .i64 H79 (a0.add 0) (fun i389 =>
  (br (decide (i388 < i389)) (
  (ldI .i64 H79 (a2.add 0) (fun i390 =>
  (ldI .i64 H79 (a75.add 1) (fun i391 =>
  (ldI .i64 H79 (a2.add 0) (fun i392 =>
  (cl Tryz.prog m 10 ([.pointer r57, .int .i64 i390, .int .i64 (wr .i64 (wr .i64 (65536 + wr .i64 (16 * i391)) + 2)), .int .i64 i392]) H79 (fun w393 H394 =>
  (∃ i395 : Int, (must (
  w393 = .int .i64 i395) (
  (I301 0 H394))))))))))))) (
  (I301 0 H79)))))))) (
  (I301 0 H79)))))) (
  (I301 0 H79)))))))))))))))))) (
  (ldI .i64 H79 (a75.add 0) (fun i396 =>
  (br (i396 == 2) (
  (ldI .i64 H79 (a75.add 0) (fun i397 =>
  (br (i397 == 3) (
  (ldI .i64 H79 (a2.add 0) (fun i398 =>
  (cl Tryz.prog m 11 ([.pointer r57, .int .i64 i398]) H79 (fun w399 H400 =>
  (∃ i401 : Int, (∃ i402 : Int, (must (
  w399 = .tuple #[.int .i64 i401, .int .i64 i402]) (
  (I301 0 H400)))))))))) (
  (ldI .i64 H79 (a75.add 0) (fun i403 =>
  (br (i403 == 4) (
  (ldI .i64 H79 (a75.add 1) (fun i404 =>
  (br (decide (i404 ≥ 0)) (
  (ldI .i64 H79 (a75.add 1) (fun i405 =>
  (ldI .i64 H79 (a0.add 0) (fun i406 =>
  (br (decide (i405 < i406)) (
  (ldI .i64 H79 (a2.add 0) (fun i407 =>
  (ldI .i64 H79 (a75.add 1) (fun i408 =>
  (cl Tryz.prog m 9 ([.pointer r57, .int .i64 i407, .int .i64 (wr .i64 (66048 + i408))]) H79 (fun w409 H410 =>
  (∃ i411 : Int, (∃ i412 : Int, (must (
  w409 = .tuple #[.int .i64 i411, .int .i64 i412]) (
  (I301 i411 H410)))))))))))) (
  (ldI .i64 H79 (a75.add 0) (fun i413 =>
  (br (i413 == 5) (
  (ldI .i64 H79 (a75.add 1) (fun i414 =>
  (br (decide (i414 ≥ 0)) (
  (ldI .i64 H79 (a75.add 1) (fun i415 =>
  (ldI .i64 H79 (a0.add 0) (fun i416 =>
  (br (decide (i415 < i416)) (
  (ldI .i64 H79 (a2.add 0) (fun i417 =>
  (ldI .i64 H79 (a75.add 1) (fun i418 =>
  (ldI .i64 H79 (a2.add 0) (fun i419 =>
  (cl Tryz.prog m 10 ([.pointer r57, .int .i64 i417, .int .i64 (wr .i64 (wr .i64 (65536 + wr .i64 (16 * i418)) + 2)), .int .i64 i419]) H79 (fun w420 H421 =>
  (∃ i422 : Int, (must (
  w420 = .int .i64 i422) (
  (I301 0 H421))))))))))))) (
  (I301 0 H79)))))))) (
  (I301 0 H79)))))) (
  (I301 0 H79)))))))))))) (
  (ldI .i64 H79 (a75.add 0) (fun i423 =>
  (br (i423 == 5) (
  (ldI .i64 H79 (a75.add 1) (fun i424 =>
  (br (decide (i424 ≥ 0)) (
  (ldI .i64 H79 (a75.add 1) (fun i425 =>
  (ldI .i64 H79 (a0.add 0) (fun i426 =>
  (br (decide (i425 < i426)) (
  (ldI .i64 H79 (a2.add 0) (fun i427 =>
  (ldI .i64 H79 (a75.add 1) (fun i428 =>
  (ldI .i64 H79 (a2.add 0) (fun i429 =>
  (cl Tryz.prog m 10 ([.pointer r57, .int .i64 i427, .int .i64 (wr .i64 (wr .i64 (65536 + wr .i64 (16 * i428)) + 2)), .int .i64 i429]) H79 (fun w430 H431 =>
  (∃ i432 : Int, (must (
  w430 = .int .i64 i432) (
  (I301 0 H431))))))))))))) (
  (I301 0 H79)))))))) (
  (I301 0 H79)))))) (
  (I301 0 H79)))))))))) (
  (ldI .i64 H79 (a75.add 0) (fun i433 =>
  (br (i433 == 5) (
  (ldI .i64 H79 (a75.add 1) (fun i434 =>
  (br (decide (i434 ≥ 0)) (
  (ldI .i64 H79 (a75.add 1) (fun i435 =>
  (ldI .i64 H79 (a0.add 0) (fun i436 =>
  (br (decide (i435 < i436)) (
  (ldI .i64 H79 (a2.add 0) (fun i437 =>
  (ldI .i64 H79 (a75.add 1) (fun i438 =>
  (ldI .i64 H79 (a2.add 0) (fun i439 =>
  (cl Tryz.prog m 10 ([.pointer r57, .int .i64 i437, .int .i64 (wr .i64 (wr .i64 (65536 + wr .i64 (16 * i438)) + 2)), .int .i64 i439]) H79 (fun w440 H441 =>
  (∃ i442 : Int, (must (
  w440 = .int .i64 i442) (
  (I301 0 H441))))))))))))) (
  (I301 0 H79)))))))) (
  (I301 0 H79)))))) (
  (I301 0 H79)))))))))))))) (
  (ldI .i64 H79 (a75.add 0) (fun i443 =>
  (br (i443 == 3) (
  (ldI .i64 H79 (a2.add 0) (fun i444 =>
  (cl Tryz.prog m 11 ([.pointer r57, .int .i64 i444]) H79 (fun w445 H446 =>
  (∃ i447 : Int, (∃ i448 : Int, (must (
  w445 = .tuple #[.int .i64 i447, .int .i64 i448]) (
  (I301 0 H446)))))))))) (
  (ldI .i64 H79 (a75.add 0) (fun i449 =>
  (br (i449 == 4) (
  (ldI .i64 H79 (a75.add 1) (fun i450 =>
  (br (decide (i450 ≥ 0)) (
  (ldI .i64 H79 (a75.add 1) (fun i451 =>
  (ldI .i64 H79 (a0.add 0) (fun i452 =>
  (br (decide (i451 < i452)) (
  (ldI .i64 H79 (a2.add 0) (fun i453 =>
  (ldI .i64 H79 (a75.add 1) (fun i454 =>
  (cl Tryz.prog m 9 ([.pointer r57, .int .i64 i453, .int .i64 (wr .i64 (66048 + i454))]) H79 (fun w455 H456 =>
  (∃ i457 : Int, (∃ i458 : Int, (must (
  w455 = .tuple #[.int .i64 i457, .int .i64 i458]) (
  (I301 i457 H456)))))))))))) (
  (ldI .i64 H79 (a75.add 0) (fun i459 =>
  (br (i459 == 5) (
  (ldI .i64 H79 (a75.add 1) (fun i460 =>
  (br (decide (i460 ≥ 0)) (
  (ldI .i64 H79 (a75.add 1) (fun i461 =>
  (ldI .i64 H79 (a0.add 0) (fun i462 =>
  (br (decide (i461 < i462)) (
  (ldI .i64 H79 (a2.add 0) (fun i463 =>
  (ldI .i64 H79 (a75.add 1) (fun i464 =>
  (ldI .i64 H79 (a2.add 0) (fun i465 =>
  (cl Tryz.prog m 10 ([.pointer r57, .int .i64 i463, .int .i64 (wr .i64 (wr .i64 (65536 + wr .i64 (16 * i464)) + 2)), .int .i64 i465]) H79 (fun w466 H467 =>
  (∃ i468 : Int, (must (
  w466 = .int .i64 i468) (
  (I301 0 H467))))))))))))) (
  (I301 0 H79)))))))) (
  (I301 0 H79)))))) (
  (I301 0 H79)))))))))))) (
  (ldI .i64 H79 (a75.add 0) (fun i469 =>
  (br (i469 == 5) (
  (ldI .i64 H79 (a75.add 1) (fun i470 =>
  (br (decide (i470 ≥ 0)) (
  (ldI .i64 H79 (a75.add 1) (fun i471 =>
  (ldI .i64 H79 (a0.add 0) (fun i472 =>
  (br (decide (i471 < i472)) (
  (ldI .i64 H79 (a2.add 0) (fun i473 =>
  (ldI .i64 H79 (a75.add 1) (fun i474 =>
  (ldI .i64 H79 (a2.add 0) (fun i475 =>
  (cl Tryz.prog m 10 ([.pointer r57, .int .i64 i473, .int .i64 (wr .i64 (wr .i64 (65536 + wr .i64 (16 * i474)) + 2)), .int .i64 i475]) H79 (fun w476 H477 =>
  (∃ i478 : Int, (must (
  w476 = .int .i64 i478) (
  (I301 0 H477))))))))))))) (
  (I301 0 H79)))))))) (
  (I301 0 H79)))))) (
  (I301 0 H79)))))))))) (
  (ldI .i64 H79 (a75.add 0) (fun i479 =>
  (br (i479 == 5) (
  (ldI .i64 H79 (a75.add 1) (fun i480 =>
  (br (decide (i480 ≥ 0)) (
  (ldI .i64 H79 (a75.add 1) (fun i481 =>
  (ldI .i64 H79 (a0.add 0) (fun i482 =>
  (br (decide (i481 < i482)) (
  (ldI .i64 H79 (a2.add 0) (fun i483 =>
  (ldI .i64 H79 (a75.add 1) (fun i484 =>
  (ldI .i64 H79 (a2.add 0) (fun i485 =>
  (cl Tryz.prog m 10 ([.pointer r57, .int .i64 i483, .int .i64 (wr .i64 (wr .i64 (65536 + wr .i64 (16 * i484)) + 2)), .int .i64 i485]) H79 (fun w486 H487 =>
  (∃ i488 : Int, (must (
  w486 = .int .i64 i488) (
  (I301 0 H487))))))))))))) (
  (I301 0 H79)))))))) (
  (I301 0 H79)))))) (
  (I301 0 H79))))))))))))))))))))) ∧
  (∀ i489 : Int, (∀ H490 : Hp, (∀ j491 : Nat → Value, (((I301 i489 H490)) → 
  (ldI .i64 H490 (a75.add 0) (fun i492 =>
  (ldI .i64 H490 (a75.add 1) (fun i493 =>
  (ldI .i64 H490 (a75.add 2) (fun i494 =>
  (cl Tryz.prog m 12 ([.iface 38 (.pointer r61), .agg #[.int .i64 i492, .int .i64 i493, .int .i64 i494]]) H490 (fun w495 H496 =>
  (∃ i497 : Int, (must (
  w495 = .int .i64 i497) (
  (br (i497 != i489) (
  (K (.bool false) H496)) (
  (cl Tryz.prog m 13 ([.pointer r9, .pointer r57]) H496 (fun w498 H499 =>
  (∃ e500 : Bool, (must (
  w498 = .bool e500) (
  (br (!e500) (
  (K (.bool false) H499)) (
  ((I65 (wr .i64 (i67 + 1)) H499) ∧
  ((I66 (wr .i64 (i67 + 1)) H499).succ.le l69))))))))))))))))))))))))))))))))))))))))))))))))) (
  (cl Tryz.prog m 5 ([]) H68 (fun w501 H502 =>
  (∃ e503 : Bool, (must (
  w501 = .bool e503) (
  (K (.bool e503) H502))))))))))))))))))))))))))))))))))))))))))))))))))))))))))))))))))))))))
theorem W3 (m : Amb) (x0 : Int) (x1 : Int) (x2 : Int) (x3 : Int) (q4 : Option Addr) (n4 : Nat) (c4 : Nat) (x5 : Int) (q6 : Option Addr) (n6 : Nat) (c6 : Nat) (H : Hp) (K : Value → Hp → Prop) : funcW Tryz.prog m [⟨true, 6, [(50, (.i .i64))]⟩, ⟨true, 13, [(67, (.i .i64))]⟩, ⟨false, 27, [(17, (.i .i64))]⟩] Tryz.f3 [.g [.i .i64 x0, .i .i64 x1, .i .i64 x2], .c (.i .i64 x3), .c (.sl q4 n4 c4), .g [.i .i64 x5, .sl q6 n6 c6]] H K = t3 m x0 x1 x2 x3 q4 n4 c4 x5 q6 n6 c6 H K := by kernel_rfl
theorem S3 {m : Amb} {x0 : Int} {x1 : Int} {x2 : Int} {x3 : Int} {q4 : Option Addr} {n4 : Nat} {c4 : Nat} {x5 : Int} {q6 : Option Addr} {n6 : Nat} {c6 : Nat} {H : Hp} {K : Value → Hp → Prop} (h : t3 m x0 x1 x2 x3 q4 n4 c4 x5 q6 n6 c6 H K) : CallsH Tryz.prog m 3 [.agg #[.int .i64 x0, .int .i64 x1, .int .i64 x2], .int .i64 x3, .slice q4 n4 c4, .agg #[.int .i64 x5, .slice q6 n6 c6]] H K :=
  callsH_of_W (args := [.g [.i .i64 x0, .i .i64 x1, .i .i64 x2], .c (.i .i64 x3), .c (.sl q4 n4 c4), .g [.i .i64 x5, .sl q6 n6 c6]]) mixed Tryz.func3 ((W3 m x0 x1 x2 x3 q4 n4 c4 x5 q6 n6 c6 H K).mpr h)

end Go.Proofs.YtoddfageecbkcaaGreat
