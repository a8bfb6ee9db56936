/-
  CONTRACTS: two socs that are the same are told to be.
-/
import Derived.Test.YtoddfageecbkcaaGreatK22
import Derived.Laws.StructEq
import Derived.ChangeKeysEq
namespace Go.Proofs.YtoddfageecbkcaaGreat
open Go Go.Eng Sy
set_option linter.unusedVariables false
set_option linter.unusedSimpArgs false
set_option maxRecDepth 100000

/-- Parts that are told the same: all is told the same. -/
theorem eqItems_self {P : Program} {d : Nat} {e : TypeId} {c : Nat} {xs : Array Value} {w : World} : ∀ (is : List Nat), (∀ i ∈ is, ∃ v, (part e xs (i * c)).run P w = .ok v w ∧ (Op.equalIn d e v v).run P w = .ok true w) → (Op.eqItems d e c xs xs is).run P w = .ok true w
  | [], _ => by simp [Op.eqItems]
  | i :: is, h => by
    obtain ⟨v, h1, h2⟩ := h i List.mem_cons_self
    have ih := eqItems_self is fun j hj => h j (List.mem_cons_of_mem _ hj)
    simp only [Op.eqItems, Sem.run_bind, h1, h2, Result.andThen_ok, Bool.not_true, Bool.false_eq_true, if_false, ih]
theorem eqFields_self {P : Program} {d : Nat} {xs : Array Value} {w : World} : ∀ (fs : List Field), (∀ f ∈ fs, ∃ v, (part f.type xs f.offset).run P w = .ok v w ∧ (Op.equalIn d f.type v v).run P w = .ok true w) → (Op.eqFields d xs xs fs).run P w = .ok true w
  | [], _ => by simp [Op.eqFields]
  | f :: fs, h => by
    obtain ⟨v, h1, h2⟩ := h f List.mem_cons_self
    have ih := eqFields_self fs fun j hj => h j (List.mem_cons_of_mem _ hj)
    simp only [Op.eqFields]
    split
    · simp only [Sem.run_bind, h1, h2, Result.andThen_ok, Bool.not_true, Bool.false_eq_true, if_false, ih]
    · exact ih

theorem eql_self {P : Program} {o : Oper} {act : Operand → Value} {t yt : TypeId} {x y : Operand} {xs : Array Value} (ho : o.op = .binOp .eql t x y yt) (hx : act x = .agg xs) (hy : act y = .agg xs) (hm : P.eqGuardType P.depth t = false)
    (he : ∀ w, (Op.equalIn 10000 t (.agg xs) (.agg xs)).run P w = .ok true w) : ∀ w, (execOp act o).run P w = .ok (.value (.bool true)) w := by
  intro w
  obtain ⟨dst, op, ty, pos, after, guard⟩ := o
  simp only at ho
  subst ho
  simp only [execOp, hx, hy]
  simp [run_eqGuard_agg _ _ _ _ _ _ _ hm, run_eql_struct, he]

theorem int_self (d : Nat) (n : Int) (w : World) : (Op.equalIn (d + 1) 3 (I n) (I n)).run Tryz.prog w = .ok true w := by
  rw [run_equalIn_int w d 3 .i64 .i64 n n (by kernel_rfl)]; simp
theorem bool_self (d : Nat) (x : Bool) (w : World) : (Op.equalIn (d + 1) 4 (B x) (B x)).run Tryz.prog w = .ok true w := by
  rw [run_equalIn_bool' w d 4 x x (by kernel_rfl)]; simp

section
variable {m : Amb} {r r' : Nat} {ow : Ow} {H : Hp} {K : Value → Hp → Prop} {b b' : Nat} {s : Soc} {cores locks : Int} {owners epochs : List Int} {held : List Bool}

theorem arr16_self (d : Nat) (o0 o1 o2 o3 o4 o5 o6 o7 o8 o9 o10 o11 o12 o13 o14 o15 : Int) (w : World) : (Op.equalIn (d + 2) 106 (.agg #[I o0, I o1, I o2, I o3, I o4, I o5, I o6, I o7, I o8, I o9, I o10, I o11, I o12, I o13, I o14, I o15]) (.agg #[I o0, I o1, I o2, I o3, I o4, I o5, I o6, I o7, I o8, I o9, I o10, I o11, I o12, I o13, I o14, I o15])).run Tryz.prog w = .ok true w := by
  obtain ⟨i, hi⟩ := Option.isSome_iff_exists.1 (show (Tryz.prog.info? 3).isSome = true by kernel_rfl)
  rw [run_equalIn_array w (d + 1) _ _ (by kernel_rfl : Tryz.prog.underlying 106 = some (.array 16 3)) hi]
  refine eqItems_self _ fun j hj => ?_
  have hj16 : j < 16 := by simpa using hj
  rcases c16 hj16 with rfl | rfl | rfl | rfl | rfl | rfl | rfl | rfl | rfl | rfl | rfl | rfl | rfl | rfl | rfl | rfl
  · exact ⟨I o0, by kernel_rfl, int_self d o0 w⟩
  · exact ⟨I o1, by kernel_rfl, int_self d o1 w⟩
  · exact ⟨I o2, by kernel_rfl, int_self d o2 w⟩
  · exact ⟨I o3, by kernel_rfl, int_self d o3 w⟩
  · exact ⟨I o4, by kernel_rfl, int_self d o4 w⟩
  · exact ⟨I o5, by kernel_rfl, int_self d o5 w⟩
  · exact ⟨I o6, by kernel_rfl, int_self d o6 w⟩
  · exact ⟨I o7, by kernel_rfl, int_self d o7 w⟩
  · exact ⟨I o8, by kernel_rfl, int_self d o8 w⟩
  · exact ⟨I o9, by kernel_rfl, int_self d o9 w⟩
  · exact ⟨I o10, by kernel_rfl, int_self d o10 w⟩
  · exact ⟨I o11, by kernel_rfl, int_self d o11 w⟩
  · exact ⟨I o12, by kernel_rfl, int_self d o12 w⟩
  · exact ⟨I o13, by kernel_rfl, int_self d o13 w⟩
  · exact ⟨I o14, by kernel_rfl, int_self d o14 w⟩
  · exact ⟨I o15, by kernel_rfl, int_self d o15 w⟩

theorem arr8_self (d : Nat) (q0 q1 q2 q3 q4 q5 q6 q7 : Int) (w : World) : (Op.equalIn (d + 2) 109 (.agg #[I q0, I q1, I q2, I q3, I q4, I q5, I q6, I q7]) (.agg #[I q0, I q1, I q2, I q3, I q4, I q5, I q6, I q7])).run Tryz.prog w = .ok true w := by
  obtain ⟨i, hi⟩ := Option.isSome_iff_exists.1 (show (Tryz.prog.info? 3).isSome = true by kernel_rfl)
  rw [run_equalIn_array w (d + 1) _ _ (by kernel_rfl : Tryz.prog.underlying 109 = some (.array 8 3)) hi]
  refine eqItems_self _ fun j hj => ?_
  have hj16 : j < 8 := by simpa using hj
  have hc : j = 0 ∨ j = 1 ∨ j = 2 ∨ j = 3 ∨ j = 4 ∨ j = 5 ∨ j = 6 ∨ j = 7 := by omega
  rcases hc with rfl | rfl | rfl | rfl | rfl | rfl | rfl | rfl
  · exact ⟨I q0, by kernel_rfl, int_self d q0 w⟩
  · exact ⟨I q1, by kernel_rfl, int_self d q1 w⟩
  · exact ⟨I q2, by kernel_rfl, int_self d q2 w⟩
  · exact ⟨I q3, by kernel_rfl, int_self d q3 w⟩
  · exact ⟨I q4, by kernel_rfl, int_self d q4 w⟩
  · exact ⟨I q5, by kernel_rfl, int_self d q5 w⟩
  · exact ⟨I q6, by kernel_rfl, int_self d q6 w⟩
  · exact ⟨I q7, by kernel_rfl, int_self d q7 w⟩

theorem arrB_self (d : Nat) (p0 p1 p2 p3 p4 p5 p6 p7 : Bool) (w : World) : (Op.equalIn (d + 2) 110 (.agg #[B p0, B p1, B p2, B p3, B p4, B p5, B p6, B p7]) (.agg #[B p0, B p1, B p2, B p3, B p4, B p5, B p6, B p7])).run Tryz.prog w = .ok true w := by
  obtain ⟨i, hi⟩ := Option.isSome_iff_exists.1 (show (Tryz.prog.info? 4).isSome = true by kernel_rfl)
  rw [run_equalIn_array w (d + 1) _ _ (by kernel_rfl : Tryz.prog.underlying 110 = some (.array 8 4)) hi]
  refine eqItems_self _ fun j hj => ?_
  have hj16 : j < 8 := by simpa using hj
  have hc : j = 0 ∨ j = 1 ∨ j = 2 ∨ j = 3 ∨ j = 4 ∨ j = 5 ∨ j = 6 ∨ j = 7 := by omega
  rcases hc with rfl | rfl | rfl | rfl | rfl | rfl | rfl | rfl
  · exact ⟨B p0, by kernel_rfl, bool_self d p0 w⟩
  · exact ⟨B p1, by kernel_rfl, bool_self d p1 w⟩
  · exact ⟨B p2, by kernel_rfl, bool_self d p2 w⟩
  · exact ⟨B p3, by kernel_rfl, bool_self d p3 w⟩
  · exact ⟨B p4, by kernel_rfl, bool_self d p4 w⟩
  · exact ⟨B p5, by kernel_rfl, bool_self d p5 w⟩
  · exact ⟨B p6, by kernel_rfl, bool_self d p6 w⟩
  · exact ⟨B p7, by kernel_rfl, bool_self d p7 w⟩

theorem C44 (h1 : LocksR r ow H b cores locks owners) (h2 : LocksR r' ow H b' cores locks owners) (ho : owners.length = 16) (h : K (B true) H) : CallsH Tryz.prog m 44 [Pt b, Pt b'] H K := by
  obtain ⟨o0, o1, o2, o3, o4, o5, o6, o7, o8, o9, o10, o11, o12, o13, o14, o15, rfl⟩ := list16 ho
  refine S44 (br_f (br_f (nn_r ?_)))
  refine ldI_r (x := cores) h1.2 rfl (nn_r ?_)
  refine ldI_r (x := cores) h2.2 rfl (br_yes (by simp) (nn_r ?_))
  refine ldI_r (x := locks) h1.2 rfl (nn_r ?_)
  refine ldI_r (x := locks) h2.2 rfl (br_yes (by simp) (nn_r ?_))
  refine ldI_r (x := o0) h1.2 rfl ?_
  refine ldI_r (x := o1) h1.2 rfl ?_
  refine ldI_r (x := o2) h1.2 rfl ?_
  refine ldI_r (x := o3) h1.2 rfl ?_
  refine ldI_r (x := o4) h1.2 rfl ?_
  refine ldI_r (x := o5) h1.2 rfl ?_
  refine ldI_r (x := o6) h1.2 rfl ?_
  refine ldI_r (x := o7) h1.2 rfl ?_
  refine ldI_r (x := o8) h1.2 rfl ?_
  refine ldI_r (x := o9) h1.2 rfl ?_
  refine ldI_r (x := o10) h1.2 rfl ?_
  refine ldI_r (x := o11) h1.2 rfl ?_
  refine ldI_r (x := o12) h1.2 rfl ?_
  refine ldI_r (x := o13) h1.2 rfl ?_
  refine ldI_r (x := o14) h1.2 rfl ?_
  refine ldI_r (x := o15) h1.2 rfl ?_
  refine nn_r ?_
  refine ldI_r (x := o0) h2.2 rfl ?_
  refine ldI_r (x := o1) h2.2 rfl ?_
  refine ldI_r (x := o2) h2.2 rfl ?_
  refine ldI_r (x := o3) h2.2 rfl ?_
  refine ldI_r (x := o4) h2.2 rfl ?_
  refine ldI_r (x := o5) h2.2 rfl ?_
  refine ldI_r (x := o6) h2.2 rfl ?_
  refine ldI_r (x := o7) h2.2 rfl ?_
  refine ldI_r (x := o8) h2.2 rfl ?_
  refine ldI_r (x := o9) h2.2 rfl ?_
  refine ldI_r (x := o10) h2.2 rfl ?_
  refine ldI_r (x := o11) h2.2 rfl ?_
  refine ldI_r (x := o12) h2.2 rfl ?_
  refine ldI_r (x := o13) h2.2 rfl ?_
  refine ldI_r (x := o14) h2.2 rfl ?_
  refine ldI_r (x := o15) h2.2 rfl ?_
  refine ⟨.bool true, ?_, true, rfl, h⟩
  exact eql_self (t := 106) (xs := #[I o0, I o1, I o2, I o3, I o4, I o5, I o6, I o7, I o8, I o9, I o10, I o11, I o12, I o13, I o14, I o15]) rfl rfl rfl (by kernel_rfl) (arr16_self 9998 o0 o1 o2 o3 o4 o5 o6 o7 o8 o9 o10 o11 o12 o13 o14 o15)

theorem gate_self (d : Nat) (c : Int) (q0 q1 q2 q3 q4 q5 q6 q7 : Int) (p0 p1 p2 p3 p4 p5 p6 p7 : Bool) (w : World) : (Op.equalIn (d + 3) 112 (.agg #[I c, I q0, I q1, I q2, I q3, I q4, I q5, I q6, I q7, B p0, B p1, B p2, B p3, B p4, B p5, B p6, B p7]) (.agg #[I c, I q0, I q1, I q2, I q3, I q4, I q5, I q6, I q7, B p0, B p1, B p2, B p3, B p4, B p5, B p6, B p7])).run Tryz.prog w = .ok true w := by
  rw [run_equalIn_agg w (d + 2) 112 _ _ (by kernel_rfl) (by kernel_rfl)]
  have hall : ((Tryz.prog.fieldsOf 112).toList.all fun f => (f.type == 3 && f.offset == 0) || (f.type == 109 && f.offset == 1) || (f.type == 110 && f.offset == 9)) = true := by kernel_rfl
  refine eqFields_self _ fun f hfm => ?_
  have hf := List.all_eq_true.1 hall f hfm
  simp only [Bool.or_eq_true, Bool.and_eq_true, beq_iff_eq] at hf
  rcases hf with (⟨t0, o0⟩ | ⟨t0, o0⟩) | ⟨t0, o0⟩
  · rw [t0, o0]; exact ⟨I c, by kernel_rfl, int_self (d + 1) c w⟩
  · rw [t0, o0]; exact ⟨.agg #[I q0, I q1, I q2, I q3, I q4, I q5, I q6, I q7], by kernel_rfl, arr8_self d q0 q1 q2 q3 q4 q5 q6 q7 w⟩
  · rw [t0, o0]; exact ⟨.agg #[B p0, B p1, B p2, B p3, B p4, B p5, B p6, B p7], by kernel_rfl, arrB_self d p0 p1 p2 p3 p4 p5 p6 p7 w⟩

theorem C45 (h1 : GateR r ow H b cores epochs held) (h2 : GateR r' ow H b' cores epochs held) (he : epochs.length = 8) (hh : held.length = 8) (h : K (B true) H) : CallsH Tryz.prog m 45 [Pt b, Pt b'] H K := by
  obtain ⟨q0, q1, q2, q3, q4, q5, q6, q7, rfl⟩ := list8 he
  obtain ⟨p0, p1, p2, p3, p4, p5, p6, p7, rfl⟩ := list8 hh
  refine S45 (br_f (br_f (nn_r ?_)))
  refine ldI_r (x := cores) h1.2 rfl ?_
  refine ldI_r (x := q0) h1.2 rfl ?_
  refine ldI_r (x := q1) h1.2 rfl ?_
  refine ldI_r (x := q2) h1.2 rfl ?_
  refine ldI_r (x := q3) h1.2 rfl ?_
  refine ldI_r (x := q4) h1.2 rfl ?_
  refine ldI_r (x := q5) h1.2 rfl ?_
  refine ldI_r (x := q6) h1.2 rfl ?_
  refine ldI_r (x := q7) h1.2 rfl ?_
  refine ldB_r (x := p0) h1.2 rfl ?_
  refine ldB_r (x := p1) h1.2 rfl ?_
  refine ldB_r (x := p2) h1.2 rfl ?_
  refine ldB_r (x := p3) h1.2 rfl ?_
  refine ldB_r (x := p4) h1.2 rfl ?_
  refine ldB_r (x := p5) h1.2 rfl ?_
  refine ldB_r (x := p6) h1.2 rfl ?_
  refine ldB_r (x := p7) h1.2 rfl ?_
  refine nn_r ?_
  refine ldI_r (x := cores) h2.2 rfl ?_
  refine ldI_r (x := q0) h2.2 rfl ?_
  refine ldI_r (x := q1) h2.2 rfl ?_
  refine ldI_r (x := q2) h2.2 rfl ?_
  refine ldI_r (x := q3) h2.2 rfl ?_
  refine ldI_r (x := q4) h2.2 rfl ?_
  refine ldI_r (x := q5) h2.2 rfl ?_
  refine ldI_r (x := q6) h2.2 rfl ?_
  refine ldI_r (x := q7) h2.2 rfl ?_
  refine ldB_r (x := p0) h2.2 rfl ?_
  refine ldB_r (x := p1) h2.2 rfl ?_
  refine ldB_r (x := p2) h2.2 rfl ?_
  refine ldB_r (x := p3) h2.2 rfl ?_
  refine ldB_r (x := p4) h2.2 rfl ?_
  refine ldB_r (x := p5) h2.2 rfl ?_
  refine ldB_r (x := p6) h2.2 rfl ?_
  refine ldB_r (x := p7) h2.2 rfl ?_
  refine ⟨.bool true, ?_, true, rfl, h⟩
  exact eql_self (t := 112) (xs := #[I cores, I q0, I q1, I q2, I q3, I q4, I q5, I q6, I q7, B p0, B p1, B p2, B p3, B p4, B p5, B p6, B p7]) rfl rfl rfl (by kernel_rfl) (gate_self 9997 cores q0 q1 q2 q3 q4 q5 q6 q7 p0 p1 p2 p3 p4 p5 p6 p7)

theorem plan_self (d : Nat) (x y z : Int) (w : World) : (Op.equalIn (d + 2) 23 (.agg #[I x, I y, I z]) (.agg #[I x, I y, I z])).run Tryz.prog w = .ok true w := by
  rw [run_equalIn_agg w (d + 1) 23 _ _ (by kernel_rfl) (by kernel_rfl)]
  have hall : ((Tryz.prog.fieldsOf 23).toList.all fun f => (f.type == 3 && f.offset == 0) || (f.type == 3 && f.offset == 1) || (f.type == 3 && f.offset == 2)) = true := by kernel_rfl
  refine eqFields_self _ fun f hfm => ?_
  have hf := List.all_eq_true.1 hall f hfm
  simp only [Bool.or_eq_true, Bool.and_eq_true, beq_iff_eq] at hf
  rcases hf with (⟨t0, o0⟩ | ⟨t0, o0⟩) | ⟨t0, o0⟩
  · rw [t0, o0]; exact ⟨I x, by kernel_rfl, int_self d x w⟩
  · rw [t0, o0]; exact ⟨I y, by kernel_rfl, int_self d y w⟩
  · rw [t0, o0]; exact ⟨I z, by kernel_rfl, int_self d z w⟩

theorem C13 (hr : 0 < r) (hr' : 0 < r') (h1 : SocR r ow H b s) (h2 : SocR r' ow H b' s) (ok : s.Ok) (h : ∀ ow' H', Upd Tno ow H ow' H' → K (B true) H') : CallsH Tryz.prog m 13 [Pt b, Pt b'] H K := by
  have h8 := right_imp ok.right
  have l1 : s.bufs.length ≤ 8 := by rw [ok.bufs]; omega
  have l2 : s.box.length ≤ 8 := by rw [ok.box]; omega
  obtain ⟨bb, bx, bl, bg, a1, a2, a3, a4, a5⟩ := h1
  obtain ⟨bb', bx', bl', bg', d1, d2, d3, d4, d5⟩ := h2
  refine S13 (br_f (br_f (nn_r (ldI_r (x := s.cores) a1.2 rfl (ldI_r (x := s.words) a1.2 rfl (ldI_r (x := s.locks) a1.2 rfl (nn_r (ldI_r (x := s.cores) d1.2 rfl (ldI_r (x := s.words) d1.2 rfl (ldI_r (x := s.locks) d1.2 rfl ?_))))))))))
  refine ⟨.bool true, eql_self (t := 23) (xs := #[I s.cores, I s.words, I s.locks]) rfl rfl rfl (by kernel_rfl) (plan_self 9998 s.cores s.words s.locks), true, rfl, br_t ?_⟩
  refine nn_r (ldP_r (x := at0 bb) a1.2 rfl (nn_r (ldP_r (x := at0 bb') d1.2 rfl (C42 a2 d2 (Soc.Ok.bus ok) l1 ?_))))
  intro ow1 H1 u1
  have a1 := a1.upd u1 id
  have d1 := d1.upd u1 id
  refine ⟨_, rfl, br_t (nn_r (ldP_r (x := at0 bx) a1.2 rfl (nn_r (ldP_r (x := at0 bx') d1.2 rfl (C43 hr hr' (a3.upd u1 Off.no) (d3.upd u1 Off.no) l2 ?_)))))⟩
  intro ow2 H2 u2
  have a1 := a1.upd u2 id
  have d1 := d1.upd u2 id
  refine ⟨_, rfl, br_t (nn_r (ldP_r (x := at0 bl) a1.2 rfl (nn_r (ldP_r (x := at0 bl') d1.2 rfl (C44 ((a4.upd u1 id).upd u2 id) ((d4.upd u1 id).upd u2 id) ok.owners ?_)))))⟩
  refine ⟨_, rfl, br_t (nn_r (ldP_r (x := at0 bg) a1.2 rfl (nn_r (ldP_r (x := at0 bg') d1.2 rfl (C45 ((a5.upd u1 id).upd u2 id) ((d5.upd u1 id).upd u2 id) ok.epochs ok.held ?_)))))⟩
  exact ⟨_, rfl, h ow2 H2 (u1.trans u2)⟩
end
end Go.Proofs.YtoddfageecbkcaaGreat
