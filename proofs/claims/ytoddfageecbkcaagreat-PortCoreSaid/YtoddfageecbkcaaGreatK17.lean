/-
  CONTRACTS: the soc: reads, fences, drains, starts; made and cloned.
-/
import Derived.Test.YtoddfageecbkcaaGreatK16
namespace Go.Proofs.YtoddfageecbkcaaGreat
open Go Go.Eng Sy
set_option linter.unusedVariables false
set_option linter.unusedSimpArgs false
set_option maxRecDepth 100000

theorem noL {r lo hi : Nat} (hh : hi < 11 ∨ 11 < lo) : Off r lo hi (TLock r) := by rintro τ e1 e2 e3 rfl; simp at e2 e3; omega
theorem noG {r lo hi : Nat} (hh : hi < 12 ∨ 12 < lo) : Off r lo hi (TGate r) := by rintro τ e1 e2 e3 rfl; simp at e2 e3; omega
theorem noB {r lo hi j : Nat} (hh : hi < 8 ∨ 10 < lo) : Off r lo hi (TBx r j) := by rintro τ e1 e2 e3 (rfl | rfl | rfl) <;> (simp at e2 e3; omega)
theorem noU {r lo hi j : Nat} (hh : 6 < lo) : Off r lo hi (TBus r j) := by
  rintro τ e1 e2 e3 ⟨_, h | ⟨h | h, _⟩⟩ <;> omega
theorem lockS {r : Nat} : ∀ τ, TLock r τ → TSoc r τ := by rintro τ rfl; exact ⟨rfl, by simp⟩
theorem gateS {r : Nat} : ∀ τ, TGate r τ → TSoc r τ := by rintro τ rfl; exact ⟨rfl, by simp⟩
theorem boxS {r j : Nat} : ∀ τ, TBx r j τ → TSoc r τ := by rintro τ (rfl | rfl | rfl) <;> exact ⟨rfl, by simp⟩
theorem busS {r j : Nat} : ∀ τ, TBus r j τ → TSoc r τ := by rintro τ ⟨h0, h | ⟨h | h, _⟩⟩ <;> exact ⟨h0, by omega⟩

theorem wrong_has {s : Soc} {c : Int} (h : s.wrong c = 0) : 0 ≤ c ∧ c < s.cores := by
  unfold Soc.wrong at h
  by_cases hh : s.has c = false
  · rw [if_pos hh] at h; cases h
  · exact has_iff.1 (by simpa using hh)

theorem dec_ram {cores words locks a : Int} {t : Int × Int × Int} (h : dec cores words locks a = some t) :
    (t.1 = 1 → 0 ≤ a ∧ a < words) ∧ (t.1 = 2 → (0 ≤ t.2.1 ∧ t.2.1 < cores) ∧ 0 ≤ t.2.2 ∧ t.2.2 < 3) ∧ (t.1 = 3 → 0 ≤ t.2.1 ∧ t.2.1 < locks) ∧ (t.1 = 4 → 0 ≤ t.2.1 ∧ t.2.1 < cores) ∧ (t.1 = 1 ∨ t.1 = 2 ∨ t.1 = 3 ∨ t.1 = 4) := by
  unfold dec at h
  split at h
  · rename_i hs
    cases h
    have hk := gs_kind a
    refine ⟨fun e => ?_, fun e => ?_, fun e => ?_, fun e => ?_, hk⟩
    · rw [enc, if_pos e] at hs
      have ha : (gs a).2.2 = a := by
        unfold gs at e ⊢
        split at e
        · rename_i h1; rw [if_pos h1]
        · split at e
          · cases e
          · split at e <;> cases e
      rw [ha] at hs
      split at hs
      · rename_i h1; exact h1.2
      · cases hs
    · rw [enc, e, if_neg (by decide), if_pos rfl] at hs
      split at hs
      · rename_i h1; exact h1
      · cases hs
    · rw [enc, e, if_neg (by decide), if_neg (by decide), if_pos rfl] at hs
      split at hs
      · rename_i h1; exact h1.1
      · cases hs
    · rw [enc, e, if_neg (by decide), if_neg (by decide), if_neg (by decide)] at hs
      split at hs
      · rename_i h1; exact h1.1
      · cases hs
  · cases h

section
variable {m : Amb} {r : Nat} {ow : Ow} {H : Hp} {K : Value → Hp → Prop} {b : Nat} {s : Soc}

/-- What a soc's fence of a core leaves. -/
theorem C32s (hr0 : 0 < r) {bb bx bl bg : Nat} {s : Soc} (ok : s.Ok) (h1 : Has ow H (r, 0, 0, 0) b [I s.cores, I s.words, I s.locks, Pt bb, Pt bx, Pt bl, Pt bg]) (hS : SocR r ow H b s) {c : Nat} (hc : (c : Int) < s.cores)
    (h : ∀ ow' H', Upd (TSoc r) ow H ow' H' → SocR r ow' H' b (s.flush c) → Has ow' H' (r, 0, 0, 0) b [I s.cores, I s.words, I s.locks, Pt bb, Pt bx, Pt bl, Pt bg] → (∀ x cs, Has ow H T0 x cs → Has ow' H' T0 x cs) → K (.tuple #[I (s.buf c).length, I 0]) H') : CallsH Tryz.prog m 32 [Pt bb, I c] H K := by
  obtain ⟨bb', bx', bl', bg', g1, g2, g3, g4, g5⟩ := hS
  have e := h1.2.symm.trans g1.2
  simp only [Option.some.injEq, List.cons.injEq, Value.pointer.injEq, Addr.mk.injEq, and_true, true_and] at e
  obtain ⟨rfl, rfl, rfl, rfl⟩ := e
  have hcb : c < s.bufs.length := by rw [ok.bufs]; omega
  have hb : s.buf c = s.bufs[c] := by
    unfold Soc.buf; rw [Int.toNat_natCast, List.getD_eq_getElem?_getD, List.getElem?_eq_getElem hcb]; rfl
  refine C32 hr0 g2 (Soc.Ok.bus ok) hcb ?_
  intro ow' H' u B'
  have := h ow' H' (u.mono busS) ?_ (g1.upd u (by simp [TBus])) (fun x cs hx => hx.upd u (bus_T0 hr0))
  · rw [hb] at this; exact this
  · unfold Soc.flush
    rw [hb, Int.toNat_natCast]
    exact ⟨bb, bx, bl, bg, g1.upd u (by simp [TBus]), B', g3.upd u (noU (by decide)), g4.upd u (by simp [TBus]), g5.upd u (by simp [TBus])⟩

theorem flush_ok {c : Nat} (ok : s.Ok) : (s.flush c).Ok := by
  have hset : ∀ (l : List (Int × Int)) (ram : List Int), (∀ p ∈ l, 0 ≤ p.2 ∧ p.2 < 65536) → (∀ w ∈ ram, 0 ≤ w ∧ w < 65536) → ∀ w ∈ l.foldl setRam ram, 0 ≤ w ∧ w < 65536 := by
    intro l
    induction l with
    | nil => intro ram _ h; exact h
    | cons p l ih =>
      intro ram hp h
      refine ih _ (fun q hq => hp q (List.mem_cons_of_mem _ hq)) ?_
      unfold setRam
      split
      · intro w hw
        rcases List.mem_or_eq_of_mem_set hw with h' | rfl
        · exact h w h'
        · exact hp p List.mem_cons_self
      · exact h
  have hmem : ∀ p ∈ s.buf c, 0 ≤ p.2 ∧ p.2 < 65536 := by
    intro p hp
    unfold Soc.buf at hp
    rw [Int.toNat_natCast, List.getD_eq_getElem?_getD] at hp
    cases hh : s.bufs[c]? with
    | none => rw [hh] at hp; cases hp
    | some l => rw [hh] at hp; exact (ok.bufw l (List.mem_of_getElem? hh) p hp).2
  refine ⟨ok.right, ok.most, by show ((s.buf c).foldl setRam s.ram).length = _; rw [foldRam_len]; exact ok.ram, hset _ _ hmem ok.ramw, by show (s.bufs.set _ _).length = _; rw [List.length_set]; exact ok.bufs, ?_, ?_, ok.box, ok.boxl, ok.owners, ok.ownersw, ok.epochs, ok.epochsw, ok.held, ok.boxw⟩
  · intro l hl
    rcases List.mem_or_eq_of_mem_set hl with h' | rfl
    · exact ok.bufl l h'
    · have h1 := ok.most.1
      show (((([] : List (Int × Int)).length : Nat)) : Int) ≤ s.most
      simp; omega
  · intro l hl
    rcases List.mem_or_eq_of_mem_set hl with h' | rfl
    · exact ok.bufw l h'
    · intro p hp; cases hp

theorem C9 (hr0 : 0 < r) (hS : SocR r ow H b s) (ok : s.Ok) {c a : Int} (ha : i64 a)
    (h : ∀ ow' H', Upd (TSoc r) ow H ow' H' → SocR r ow' H' b (s.read c a).1 → K (.tuple #[I (s.read c a).2.1, I (s.read c a).2.2]) H') : CallsH Tryz.prog m 9 [Pt b, I c, I a] H K := by
  have hr := right_imp ok.right
  refine S9 (C30 hr0 hS ok ha ?_)
  intro ow1 H1 u1
  have hS1 := hS.upd u1 Off.no
  have go : ∀ (x y z : Int) (K'' : Addr → Hp → Prop), (∀ ow' H' b4, Upd Tno ow H ow' H' → Has ow' H' T0 b4 [I x, I y, I z] → K'' ⟨b4, 0, none⟩ H') →
      nw H1 (zc Tryz.prog 77) 77 fun a21 H22 => st H22 (a21.add 0) (I x) fun H23 => st H23 (a21.add 1) (I y) fun H24 => st H24 (a21.add 2) (I z) (K'' a21) := by
    intro x y z K'' hK
    rw [zc77]
    refine nw_t (ow := ow1) T0 ?_
    intro ow3 H3 b4 u3 hb4 g4
    have hA : H.size ≤ b4 := by have := u1.size; omega
    refine st_t g4 rfl (by decide) fun H4 s4 g4 => st_t g4 rfl (by simp) fun H5 s5 g4 => st_t g4 rfl (by simp) fun H6 s6 g4 => ?_
    exact hK ow3 H6 b4 ((((u1.trans u3).set s4 (.inr hA)).set s5 (.inr hA)).set s6 (.inr hA)) g4
  have U1 : ∀ {ow' H'}, Upd Tno ow H ow' H' → Upd (TSoc r) ow H ow' H' := fun u => u.mono fun _ h => h.elim
  unfold atV
  unfold Soc.read at h
  by_cases hw : s.wrong c = 0
  · rw [if_neg (by simpa using hw)]
    rw [if_neg (by simpa using hw), spot_dec ok] at h
    obtain ⟨n, rfl⟩ := nat_of (wrong_has hw).1
    have hn := (wrong_has hw).2
    cases hd : dec s.cores s.words s.locks a with
    | none =>
      rw [hd] at h
      refine ⟨0, 0, 0, 4, rfl, go 0 0 0 _ fun ow' H' b4 u g4 => br_t ?_⟩
      exact h ow' H' (U1 u) (hS.upd u Off.no)
    | some t =>
      rw [hd] at h
      obtain ⟨k, i, rg⟩ := t
      obtain ⟨d1, d2, d3, d4, d5⟩ := dec_ram hd
      simp only at d1 d2 d3 d4 d5
      refine ⟨k, i, rg, 0, rfl, go k i rg _ fun ow' H' b4 u g4 => br_f (ldI_r (x := k) g4.2 rfl ?_)⟩
      have hS4 := hS.upd u Off.no
      have hS40 := hS4
      obtain ⟨bb, bx, bl, bg, h1, h2, h3, h4, h5⟩ := hS4
      have flushed : ∀ (x : Spot), spotOf (some (k, i, rg)) = x → (k = 2 ∨ k = 3 ∨ k = 4) → (k = 2 → i = n ∧ 0 ≤ rg ∧ rg < 3) → (∀ ow'' H'', Upd (TSoc r) ow H ow'' H'' → SocR r ow'' H'' b ((s.flush n).register n x).1 → K (.tuple #[I ((s.flush n).register n x).2, I 0]) H'') →
          nn (at0 b) fun a31 => ldP H' (a31.add 3) fun r32 => cl Tryz.prog m 32 [.pointer r32, I n] H' fun w33 H34 => ∃ i35 : Int, ∃ i36 : Int, must (w33 = .tuple #[I i35, I i36]) (ldI .i64 H34 ⟨b4, 0, none⟩ fun i37 => ldI .i64 H34 ⟨b4, 1, none⟩ fun i38 => ldI .i64 H34 ⟨b4, 2, none⟩ fun i39 => cl Tryz.prog m 33 [Pt b, I n, .agg #[I i37, I i38, I i39]] H34 fun w40 H41 => ∃ i42 : Int, must (w40 = I i42) (K (.tuple #[I i42, I 0]) H41)) := by
        intro x hx hk hin hK
        refine nn_r (ldP_r (x := at0 bb) h1.2 rfl (C32s hr0 ok h1 hS40 hn ?_))
        intro ow2 H2 u2 S2 k1 kT
        have g4 := kT _ _ g4
        refine ⟨_, _, rfl, ldI_r (x := k) g4.2 rfl (ldI_r (x := i) g4.2 rfl (ldI_r (x := rg) g4.2 rfl ?_))⟩
        refine C33 hr0 S2 (flush_ok ok) hn hx hk ⟨hin, fun e => d3 e, fun e => d4 e⟩ ?_
        intro ow3 H3 u3 S3
        exact ⟨_, rfl, hK ow3 H3 (((U1 u).trans u2).trans u3) S3⟩
      rcases d5 with rfl | rfl | rfl | rfl
      · -- the memory
        have hcb : n < s.bufs.length := by rw [ok.bufs]; omega
        have hb : s.buf n = s.bufs[n] := by
          unfold Soc.buf; rw [Int.toNat_natCast, List.getD_eq_getElem?_getD, List.getElem?_eq_getElem hcb]; rfl
        refine br_t (nn_r (ldP_r (x := at0 bb) h1.2 rfl (C31 hr0 h2 (Soc.Ok.bus ok) hcb (by rw [ok.ram]; have := d1 rfl; omega) ?_)))
        intro ow2 H2 u2
        refine ⟨_, _, rfl, ?_⟩
        have hh := h ow2 H2 (U1 (u.trans u2)) (hS.upd (u.trans u2) Off.no)
        simp only [spotOf, if_pos, Soc.load, hb] at hh
        exact hh
      · -- a mailbox
        refine br_f (br_t (ldI_r (x := i) g4.2 rfl ?_))
        have e2 : spotOf (some ((2 : Int), i, rg)) = .mail i rg := rfl
        rw [e2] at h
        by_cases hin : i = n
        · refine br_no (by simp [hin]) (flushed _ rfl (.inl rfl) (fun _ => ⟨hin, (d2 rfl).2⟩) ?_)
          intro ow'' H'' u' S'
          have hh := h ow'' H'' u'
          simp only [hin, ne_eq, not_true_eq_false, if_false] at hh
          subst hin
          exact hh S'
        · refine br_yes (by simpa using hin) ?_
          have hh := h ow' H' (U1 u) 
          simp only [ne_eq, hin, not_false_eq_true, if_true] at hh
          exact hh hS40
      · have e2 : spotOf (some ((3 : Int), i, rg)) = .lock i := rfl
        rw [e2] at h
        exact br_f (br_f (flushed _ rfl (.inr (.inl rfl)) (fun e => by cases e) fun ow'' H'' u' S' => h ow'' H'' u' S'))
      · have e2 : spotOf (some ((4 : Int), i, rg)) = .gate i := rfl
        rw [e2] at h
        exact br_f (br_f (flushed _ rfl (.inr (.inr rfl)) (fun e => by cases e) fun ow'' H'' u' S' => h ow'' H'' u' S'))
  · rw [if_pos hw]
    rw [if_pos hw] at h
    refine ⟨0, 0, 0, _, rfl, go 0 0 0 _ fun ow' H' b4 u g4 => br_yes (by simpa using hw) ?_⟩
    exact h ow' H' (U1 u) (hS.upd u Off.no)
end
end Go.Proofs.YtoddfageecbkcaaGreat
