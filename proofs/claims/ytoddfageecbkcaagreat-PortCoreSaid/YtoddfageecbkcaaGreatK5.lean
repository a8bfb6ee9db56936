/-
  CONTRACTS: the bus: fences, stores, drains, swaps, losses.
-/
import Derived.Test.YtoddfageecbkcaaGreatK4
namespace Go.Proofs.YtoddfageecbkcaaGreat
open Go Go.Eng Sy
set_option linter.unusedVariables false
set_option linter.unusedSimpArgs false
set_option maxRecDepth 100000

theorem BOk.pair {ram : List Int} {most : Int} {bufs : List (List (Int × Int))} (h : BOk ram most bufs) {c : Nat} (hc : c < bufs.length) : ∀ p ∈ bufs[c], okP p ∧ p.1 < ram.length := h.pairs _ (List.getElem_mem _)
theorem BOk.short {ram : List Int} {most : Int} {bufs : List (List (Int × Int))} (h : BOk ram most bufs) {c : Nat} (hc : c < bufs.length) : (bufs[c].length : Int) ≤ most := h.room _ (List.getElem_mem _)

section
variable {m : Amb} {r : Nat} {ow : Ow} {H : Hp} {K : Value → Hp → Prop}
variable {b : Nat} {ram : List Int} {most : Int} {bufs : List (List (Int × Int))}

theorem C32 (hr0 : 0 < r) (hB : BusR r ow H b ram most bufs) (ok : BOk ram most bufs) {c : Nat} (hc : c < bufs.length)
    (h : ∀ ow' H', Upd (TBus r c) ow H ow' H' → BusR r ow' H' b (bufs[c].foldl setRam ram) most (bufs.set c []) → K (.tuple #[I bufs[c].length, I 0]) H') : CallsH Tryz.prog m 32 [Pt b, I c] H K := by
  refine S32 ?_
  unfold t32; rw [zc3]
  refine nw_t (ow := ow) T0 ?_
  intro ow1 H1 b1 u1 hb1 g1
  have k1 := g1.lt
  refine nw_t (ow := ow1) T0 ?_
  intro ow2 H2 b2 u2 hb2 g2
  have g1 := g1.upd u2 id
  have u12 := u1.trans u2
  have e1 := u1.size
  have e2 := u2.size
  have B2 := hB.upd u12 Off.no
  obtain ⟨rb, q, n, cp, bs, bc, F⟩ := BusR.at B2 hc
  refine ldP_r (x := at0 b) g1.2 rfl (C63 F.has F.sl F.at_ (by kernel_rfl) ?_)
  refine S67 (ldP_r (x := at0 b) g1.2 rfl (C68 F.has F.ram F.buf ok.len (ok.pair hc) (by have := ok.short hc; have := ok.m16; omega) ?_))
  intro H3 u3 r3 b3
  have g2 := g2.upd u3 (bus_T0 hr0)
  have U3 : Upd (TBus r c) ow H ow2 H3 := (u12.mono fun _ h => h.elim).trans u3
  refine ⟨_, rfl, st_t g2 rfl (by decide) fun H4 s4 g4 => ⟨0, rfl, 0, rfl, ?_⟩⟩
  refine ldI_r (x := bufs[c].length) g4.2 rfl (st_t g4 rfl (by simp) fun H5 s5 g5 => ldI_r (x := bufs[c].length) g5.2 rfl ?_)
  have U5 := (U3.set s4 (.inr (by omega))).set s5 (.inr (by omega))
  have U := (u3.toL.loc s4 g2.1).loc s5 g2.1
  have V : Upd (TL Tno) ow2 H3 ow2 H5 := ((Upd.refl (TL Tno) _ _).loc s4 g2.1).loc s5 g2.1
  exact h ow2 H5 U5 (F.close _ ow2 H5 _ _ U (bus_own hr0) (r3.upd V (TL.off Off.no hr0)) (b3.upd V (TL.no id hr0) (TL.no id hr0)))


/-- The memory and the stores behind a drain. -/
def drR (ram : List Int) : List (Int × Int) → List Int
  | [] => ram
  | p :: _ => setRam ram p

theorem C52n {x : Int} (hr0 : 0 < r) (hB : BusR r ow H b ram most bufs) (hc : ¬ (0 ≤ x ∧ x < bufs.length))
    (h : ∀ ow' H', Upd Tno ow H ow' H' → K (.tuple #[.bool false, I 3]) H') : CallsH Tryz.prog m 52 [Pt b, I x] H K := by
  refine S52 ?_
  unfold t52; rw [zc4]
  refine nw_t (ow := ow) T0 ?_
  intro ow1 H1 b1 u1 hb1 g1
  have k1 := g1.lt
  refine nw_t (ow := ow1) T0 ?_
  intro ow2 H2 b2 u2 hb2 g2
  have g1 := g1.upd u2 id
  have u12 := u1.trans u2
  have e1 := u1.size
  have e2 := u2.size
  obtain ⟨rb, q, n, cp, h1, h2, bs, h3, h4, h5⟩ := hB.upd u12 Off.no
  have hn : bs.length = n := by simpa using h4.len1
  refine ldP_r (x := at0 b) g1.2 rfl (C63n h1 (by omega) ⟨_, rfl, ?_⟩)
  refine ldB_r (x := false) g2.2 rfl (st_t g2 rfl (by decide) fun H5 s5 g5 => ldB_r (x := false) g5.2 rfl ?_)
  exact h ow2 H5 (u12.set s5 (.inr (by omega)))

theorem C52 (hr0 : 0 < r) (hB : BusR r ow H b ram most bufs) (ok : BOk ram most bufs) {c : Nat} (hc : c < bufs.length)
    (h : ∀ ow' H', Upd (TBus r c) ow H ow' H' → BusR r ow' H' b (drR ram bufs[c]) most (bufs.set c bufs[c].tail) → K (.tuple #[.bool (!bufs[c].isEmpty), I 0]) H') : CallsH Tryz.prog m 52 [Pt b, I c] H K := by
  refine S52 ?_
  unfold t52; rw [zc4]
  refine nw_t (ow := ow) T0 ?_
  intro ow1 H1 b1 u1 hb1 g1
  have k1 := g1.lt
  refine nw_t (ow := ow1) T0 ?_
  intro ow2 H2 b2 u2 hb2 g2
  have g1 := g1.upd u2 id
  have u12 := u1.trans u2
  have e1 := u1.size
  have e2 := u2.size
  have B2 := hB.upd u12 Off.no
  have hs := ok.short hc
  have h16 := ok.m16
  have hp := ok.pair hc
  obtain ⟨rb, q, n, cp, bs, bc, F⟩ := BusR.at B2 hc
  refine ldP_r (x := at0 b) g1.2 rfl (C63 F.has F.sl F.at_ (by kernel_rfl) ?_)
  refine S98 (ldP_r (x := at0 b) g1.2 rfl ?_)
  have fin : ∀ (v : Bool) H3, Upd (TBus r c) ow2 H2 ow2 H3 → RamR r ow2 H3 rb (drR ram bufs[c]) → BufR r ow2 H3 c bc most bufs[c].tail → v = (!bufs[c].isEmpty) →
      st H3 ⟨b2, 0, none⟩ (B v) fun H4 => (fun w H' => ∃ i, w = I i ∧ ∃ i7 : Int, must (I i = I i7) (ldB H' ⟨b2, 0, none⟩ fun e8 => st H' ⟨b2, 0, none⟩ (B e8) fun H9 => ldB H9 ⟨b2, 0, none⟩ fun e10 => K (.tuple #[.bool e10, I i7]) H9)) (I 0) H4 := by
    intro v H3 u3 r3 b3 hv
    have g2 := g2.upd u3 (bus_T0 hr0)
    have U3 : Upd (TBus r c) ow H ow2 H3 := (u12.mono fun _ h => h.elim).trans u3
    refine st_t g2 rfl (by decide) fun H4 s4 g4 => ⟨0, rfl, 0, rfl, ?_⟩
    refine ldB_r (x := v) g4.2 rfl (st_t g4 rfl (by simp) fun H5 s5 g5 => ldB_r (x := v) g5.2 rfl ?_)
    have U5 := (U3.set s4 (.inr (by omega))).set s5 (.inr (by omega))
    have U := (u3.toL.loc s4 g2.1).loc s5 g2.1
    have V : Upd (TL Tno) ow2 H3 ow2 H5 := ((Upd.refl (TL Tno) _ _).loc s4 g2.1).loc s5 g2.1
    rw [hv]
    exact h ow2 H5 U5 (F.close _ ow2 H5 _ _ U (bus_own hr0) (r3.upd V (TL.off Off.no hr0)) (b3.upd V (TL.no id hr0) (TL.no id hr0)))
  cases hl : bufs[c] with
  | nil =>
    refine C78e (by rw [← hl]; exact F.buf) ⟨_, rfl, ?_⟩
    exact fin false H2 (Upd.refl _ _ _) (by rw [hl]; exact F.ram) (by rw [hl]; have := F.buf; rw [hl] at this; exact this) (by rw [hl]; rfl)
  | cons p l =>
    rw [hl] at hp hs
    refine C78 F.has F.ram (by rw [← hl]; exact F.buf) ok.len (hp p List.mem_cons_self) (by simp at hs; omega) fun H3 u3 r3 b3 => ⟨_, rfl, ?_⟩
    exact fin true H3 u3 (by rw [hl]; exact r3) (by rw [hl]; exact b3) (by rw [hl]; rfl)

theorem C55 (hr0 : 0 < r) (hB : BusR r ow H b ram most bufs) {c : Nat} (hc : c < bufs.length)
    (h : ∀ ow' H' i, Upd (TBus r c) ow H ow' H' → BusR r ow' H' b ram most (bufs.set c []) → K (.tuple #[I i, I 0]) H') : CallsH Tryz.prog m 55 [Pt b, I c] H K := by
  refine S55 ?_
  unfold t55; rw [zc3]
  refine nw_t (ow := ow) T0 ?_
  intro ow2 H2 b2 u12 hb2 g2
  have k1 := g2.lt
  have e1 := u12.size
  have B2 := hB.upd u12 Off.no
  obtain ⟨rb, q, n, cp, bs, bc, F⟩ := BusR.at B2 hc
  refine C63 F.has F.sl F.at_ (by kernel_rfl) ?_
  refine S102 (C103 F.buf fun H3 u3 b3 => ⟨_, rfl, ?_⟩)
  have u3 := u3.mono (TBuf_bus (r := r) (c := c))
  have g2 := g2.upd u3 (bus_T0 hr0)
  have U3 : Upd (TBus r c) ow H ow2 H3 := (u12.mono fun _ h => h.elim).trans u3
  refine st_t g2 rfl (by decide) fun H4 s4 g4 => ⟨0, rfl, 0, rfl, ?_⟩
  refine ldI_r (x := bufs[c].length) g4.2 rfl (st_t g4 rfl (by simp) fun H5 s5 g5 => ldI_r (x := bufs[c].length) g5.2 rfl ?_)
  have U5 := (U3.set s4 (.inr (by omega))).set s5 (.inr (by omega))
  have U := (u3.toL.loc s4 g2.1).loc s5 g2.1
  have V : Upd (TL Tno) ow2 H3 ow2 H5 := ((Upd.refl (TL Tno) _ _).loc s4 g2.1).loc s5 g2.1
  have W : Upd (TL (TBuf r c)) ow2 H2 ow2 H5 := by
    refine ((Upd.toL (T := TBuf r c) ?_).loc s4 g2.1).loc s5 g2.1
    assumption
  exact h ow2 H5 _ U5 (F.close _ ow2 H5 _ _ U (bus_own hr0) (F.ram.upd W (TL.off (by rintro τ h1 h2 h3 (rfl | rfl) <;> simp at h2 h3) hr0)) (b3.upd V (TL.no id hr0) (TL.no id hr0)))
end
end Go.Proofs.YtoddfageecbkcaaGreat
