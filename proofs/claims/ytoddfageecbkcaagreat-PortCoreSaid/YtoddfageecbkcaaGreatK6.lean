/-
  CONTRACTS: the bus: stores and swaps.
-/
import Derived.Test.YtoddfageecbkcaaGreatK5
namespace Go.Proofs.YtoddfageecbkcaaGreat
open Go Go.Eng Sy
set_option linter.unusedVariables false
set_option linter.unusedSimpArgs false
set_option maxRecDepth 100000

section
variable {m : Amb} {r : Nat} {ow : Ow} {H : Hp} {K : Value → Hp → Prop}
variable {b : Nat} {ram : List Int} {most : Int} {bufs : List (List (Int × Int))}


theorem C75 {rb : Nat} {y : Value} {τ : Tg} {a w : Int} (h1 : Has ow H τ b [Pt rb, y]) (hr : RamR r ow H rb ram) (hl : ram.length ≤ 65536) (ha : 0 ≤ a ∧ a < ram.length) (h : K (I (if w < 0 ∨ w > 65535 then 2 else 0)) H) : CallsH Tryz.prog m 75 [Pt b, I a, I w] H K := by
  refine S75 (nn_r (ldP_r (x := at0 rb) h1.2 rfl (C65 hr hl ha ⟨_, _, rfl, br_f ?_⟩)))
  by_cases e1 : w < 0
  · rw [if_pos (.inl e1)] at h; exact br_yes (by simpa using e1) h
  · refine br_no (by simpa using e1) ?_
    by_cases e2 : w > 65535
    · rw [if_pos (.inr e2)] at h; exact br_yes (by simpa using e2) h
    · rw [if_neg (by omega)] at h; exact br_no (by simpa using e2) h

/-- A core's stores, and the memory, behind a store. -/
def stR (ram : List Int) (most : Int) (l : List (Int × Int)) : List Int := if (l.length : Int) = most then drR ram l else ram
def stL (most : Int) (l : List (Int × Int)) (p : Int × Int) : List (Int × Int) := (if (l.length : Int) = most then l.tail else l) ++ [p]

theorem C36 (hr0 : 0 < r) (hB : BusR r ow H b ram most bufs) (ok : BOk ram most bufs) {c : Nat} (hc : c < bufs.length) {p : Int × Int} (hp : okP p ∧ p.1 < ram.length)
    (h : ∀ ow' H', Upd (TBus r c) ow H ow' H' → BusR r ow' H' b (stR ram most bufs[c]) most (bufs.set c (stL most bufs[c] p)) → K (I 0) H') : CallsH Tryz.prog m 36 [Pt b, I c, I p.1, I p.2] H K := by
  refine S36 ?_
  unfold t36
  refine nw_t (ow := ow) T0 ?_
  intro ow1 H1 b1 u1 hb1 g1
  refine nw_t (ow := ow1) T0 ?_
  intro ow2 H2 b2 u2 hb2 g2
  refine nw_t (ow := ow2) T0 ?_
  intro ow3 H3 b3 u3 hb3 g3
  have g1 := (g1.upd u2 id).upd u3 id
  have g2 := g2.upd u3 id
  have u123 := (u1.trans u2).trans u3
  have B3 := hB.upd u123 Off.no
  have hs := ok.short hc
  have h16 := ok.m16
  have h01 := ok.m1
  have hpp := ok.pair hc
  obtain ⟨rb, q, n, cp, bs, bc, F⟩ := BusR.at B3 hc
  refine ldP_r (x := at0 b) g1.2 rfl (C63 F.has F.sl F.at_ (by kernel_rfl) ?_)
  refine S74 (ldP_r (x := at0 b) g1.2 rfl (ldI_r (x := p.1) g2.2 rfl (ldI_r (x := p.2) g3.2 rfl ?_)))
  refine C75 F.has F.ram ok.len ⟨hp.1.1.1, hp.2⟩ ?_
  rw [if_neg (by have := hp.1.2; omega)]
  refine ⟨_, rfl, br_f (C76 F.buf ⟨_, rfl, C77 F.buf ⟨_, rfl, ?_⟩⟩)⟩
  unfold stR stL at h
  by_cases e : (bufs[c].length : Int) = most
  · rw [if_pos e, if_pos e] at h
    refine br_yes (by simpa using e) (ldP_r (x := at0 b) g1.2 rfl ?_)
    cases hl : bufs[c] with
    | nil => rw [hl] at e; simp at e; omega
    | cons p0 l =>
      rw [hl] at hpp hs e h
      simp only [List.length_cons] at hs e
      refine C78 F.has F.ram (by rw [← hl]; exact F.buf) ok.len (hpp p0 List.mem_cons_self) (by omega) fun H4 u4 r4 b4 => ⟨_, rfl, ?_⟩
      have g2 := g2.upd u4 (bus_T0 hr0)
      have g3 := g3.upd u4 (bus_T0 hr0)
      refine ldI_r (x := p.1) g2.2 rfl (ldI_r (x := p.2) g3.2 rfl (C79 b4 hp.1 (by omega) (by omega) ?_))
      intro ow5 H5 u5 b5
      refine ⟨_, rfl, 0, rfl, 0, rfl, ?_⟩
      have u45 := u4.then u5 (TBuf_bus (r := r) (c := c))
      have U := (u123.mono fun _ h => h.elim).trans u45
      exact h ow5 H5 U (F.close _ ow5 H5 _ _ u45 (fun τ hτ => .inl hτ) (r4.upd u5 (by rintro τ h1 h2 h3 (rfl | rfl) <;> simp at h2 h3)) b5)
  · rw [if_neg e, if_neg e] at h
    refine br_no (by simpa using e) (ldI_r (x := p.1) g2.2 rfl (ldI_r (x := p.2) g3.2 rfl (C79 F.buf hp.1 (by omega) (by omega) ?_)))
    intro ow5 H5 u5 b5
    refine ⟨_, rfl, 0, rfl, 0, rfl, ?_⟩
    have u45 := u5.mono (TBuf_bus (r := r) (c := c))
    have U := (u123.mono fun _ h => h.elim).trans u45
    exact h ow5 H5 U (F.close _ ow5 H5 _ _ u45 (fun τ hτ => .inl hτ) (F.ram.upd u5 (by rintro τ h1 h2 h3 (rfl | rfl) <;> simp at h2 h3)) b5)

theorem C53 (hr0 : 0 < r) (hB : BusR r ow H b ram most bufs) (ok : BOk ram most bufs) {c : Nat} (hc : c < bufs.length) {a w : Int} (ha : 0 ≤ a ∧ a < ram.length)
    (hbad : (w < 0 ∨ w > 65535) → ∀ ow' H', Upd Tno ow H ow' H' → K (.tuple #[I 0, I 2]) H')
    (h : (0 ≤ w ∧ w < 65536) → ∀ ow' H', Upd (TBus r c) ow H ow' H' → BusR r ow' H' b ((bufs[c].foldl setRam ram).set a.toNat w) most (bufs.set c []) → K (.tuple #[I ((bufs[c].foldl setRam ram).getD a.toNat 0), I 0]) H') : CallsH Tryz.prog m 53 [Pt b, I c, I a, I w] H K := by
  refine S53 ?_
  unfold t53; rw [zc3]
  refine nw_t (ow := ow) T0 ?_
  intro ow1 H1 b1 u1 hb1 g1
  refine nw_t (ow := ow1) T0 ?_
  intro ow2 H2 b2 u2 hb2 g2
  refine nw_t (ow := ow2) T0 ?_
  intro ow3 H3 b3 u3 hb3 g3
  have k1 := g1.lt
  have k2 := g2.lt
  have k3 := g3.lt
  refine nw_t (ow := ow3) T0 ?_
  intro ow4 H4 b4 u4 hb4 g4
  have g1 := ((g1.upd u2 id).upd u3 id).upd u4 id
  have g2 := (g2.upd u3 id).upd u4 id
  have g3 := g3.upd u4 id
  have e1 := u1.size
  have e2 := u2.size
  have e3 := u3.size
  have u1234 := ((u1.trans u2).trans u3).trans u4
  have B4 := hB.upd u1234 Off.no
  have hs := ok.short hc
  have h16 := ok.m16
  have hpp := ok.pair hc
  obtain ⟨rb, q, n, cp, bs, bc, F⟩ := BusR.at B4 hc
  refine ldP_r (x := at0 b) g1.2 rfl (C63 F.has F.sl F.at_ (by kernel_rfl) ?_)
  refine S99 (ldP_r (x := at0 b) g1.2 rfl (ldI_r (x := a) g2.2 rfl (ldI_r (x := w) g3.2 rfl ?_)))
  refine C75 F.has F.ram ok.len ha ?_
  by_cases e : w < 0 ∨ w > 65535
  · rw [if_pos e]
    refine ⟨_, rfl, br_t ⟨_, rfl, _, rfl, ?_⟩⟩
    refine ldI_r (x := 0) g4.2 rfl (st_t g4 rfl (by simp) fun H5 s5 g5 => ldI_r (x := 0) g5.2 rfl ?_)
    exact hbad e ow4 H5 (u1234.set s5 (.inr (by omega)))
  · rw [if_neg e]
    refine ⟨_, rfl, br_f (ldP_r (x := at0 b) g1.2 rfl (C68 F.has F.ram F.buf ok.len hpp (by omega) ?_))⟩
    intro H5 u5 r5 b5
    have g1 := g1.upd u5 (bus_T0 hr0)
    have g2 := g2.upd u5 (bus_T0 hr0)
    have g3 := g3.upd u5 (bus_T0 hr0)
    have g4 := g4.upd u5 (bus_T0 hr0)
    have f5 := F.has.upd u5 (by simp [TBus])
    have U5 : Upd (TBus r c) ow H ow4 H5 := (u1234.mono fun _ h => h.elim).trans u5
    refine ⟨_, rfl, ldP_r (x := at0 b) g1.2 rfl (nn_r (ldP_r (x := at0 rb) f5.2 rfl (ldI_r (x := a) g2.2 rfl (C65 r5 (by rw [foldRam_len]; exact ok.len) (by rw [foldRam_len]; exact ha) ⟨_, _, rfl, ?_⟩))))⟩
    refine st_t g4 rfl (by simp) fun H6 s6 g6 => ?_
    have k6 : b1 ≠ b4 := by omega
    have k7 : b2 ≠ b4 := by omega
    have k8 : b3 ≠ b4 := by omega
    have g1 := g1.set s6 k6
    have g2 := g2.set s6 k7
    have g3 := g3.set s6 k8
    have f6 := f5.set' s6 (by rw [g4.1]; simp)
    have V6 : Upd (TL Tno) ow4 H5 ow4 H6 := (Upd.refl (TL Tno) _ _).loc s6 g4.1
    have r6 := r5.upd V6 (TL.off Off.no hr0)
    have b6 := b5.upd V6 (TL.no id hr0) (TL.no id hr0)
    refine ldP_r (x := at0 b) g1.2 rfl (nn_r (ldP_r (x := at0 rb) f6.2 rfl (ldI_r (x := a) g2.2 rfl (ldI_r (x := w) g3.2 rfl (C100 r6 (by rw [foldRam_len]; exact ok.len) (by rw [foldRam_len]; exact ha) (by omega) ?_)))))
    intro H7 u7 r7
    have g7 := g6.upd u7 (by simp [TRam])
    have b7 := b6.upd u7 (by simp [TRam]) (by simp [TRam])
    have u7 := u7.mono (TRam_bus (r := r) (c := c))
    refine ⟨_, rfl, 0, rfl, 0, rfl, ?_⟩
    refine ldI_r (x := (bufs[c].foldl setRam ram).getD a.toNat 0) g7.2 rfl (st_t g7 rfl (by simp) fun H8 s8 g8 => ldI_r (x := (bufs[c].foldl setRam ram).getD a.toNat 0) g8.2 rfl ?_)
    have V8 : Upd (TL Tno) ow4 H7 ow4 H8 := (Upd.refl (TL Tno) _ _).loc s8 g7.1
    have U8 := ((U5.set s6 (.inr (by omega))).trans u7).set s8 (.inr (by omega))
    have U := ((u5.toL.loc s6 g4.1).trans u7.toL).loc s8 g7.1
    exact h (by omega) ow4 H8 U8 (F.close _ ow4 H8 _ _ U (bus_own hr0) (r7.upd V8 (TL.off Off.no hr0)) (b7.upd V8 (TL.no id hr0) (TL.no id hr0)))
end
end Go.Proofs.YtoddfageecbkcaaGreat
