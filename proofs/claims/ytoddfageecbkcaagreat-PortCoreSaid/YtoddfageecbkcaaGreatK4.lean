/-
  CONTRACTS: the bus: loads, stores, drains, fences.
-/
import Derived.Test.YtoddfageecbkcaaGreatK3
namespace Go.Proofs.YtoddfageecbkcaaGreat
open Go Go.Eng Sy
set_option linter.unusedVariables false
set_option linter.unusedSimpArgs false
set_option maxRecDepth 100000

theorem TRam_bus {r c : Nat} : ∀ τ, TRam r τ → TBus r c τ := by rintro τ rfl; exact ⟨rfl, .inl rfl⟩
theorem TBuf_bus {r c : Nat} : ∀ τ, TBuf r c τ → TBus r c τ := by rintro τ (rfl | rfl); exact ⟨rfl, .inr ⟨.inl rfl, rfl⟩⟩; exact ⟨rfl, .inr ⟨.inr rfl, rfl⟩⟩

/-- What always stands of a bus. -/
structure BOk (ram : List Int) (most : Int) (bufs : List (List (Int × Int))) : Prop where
  len : ram.length ≤ 65536
  m1 : 1 ≤ most
  m16 : most ≤ 16
  pairs : ∀ l ∈ bufs, ∀ p ∈ l, okP p ∧ p.1 < ram.length
  room : ∀ l ∈ bufs, (l.length : Int) ≤ most

theorem setRam_in {ram : List Int} {p : Int × Int} (h : okP p ∧ p.1 < ram.length) : setRam ram p = ram.set p.1.toNat p.2 := by
  unfold setRam; rw [if_pos ⟨h.1.1.1, h.2⟩]
theorem setRam_len {ram : List Int} {p : Int × Int} : (setRam ram p).length = ram.length := by
  unfold setRam; split <;> simp
theorem foldRam_len : ∀ {l : List (Int × Int)} {ram : List Int}, (l.foldl setRam ram).length = ram.length
  | [], _ => rfl
  | p :: l, ram => by rw [List.foldl_cons, foldRam_len, setRam_len]

/-- A bus, opened at a core. -/
structure BusAt (r : Nat) (ow : Ow) (H : Hp) (b : Nat) (ram : List Int) (most : Int) (bufs : List (List (Int × Int))) (c : Nat) (rb : Nat) (q : Option Addr) (n cp : Nat) (bs : List Nat) (bc : Nat) (l : List (Int × Int)) : Prop where
  has : Has ow H (r, 1, 0, 0) b [Pt rb, .slice q n cp]
  ram : RamR r ow H rb ram
  sl : SlT 1 ow H (r, 4, 0, 0) q n cp (bs.map Pt)
  len : bs.length = bufs.length
  at_ : bs[c]? = some bc
  l_ : bufs[c]? = some l
  buf : BufR r ow H c bc most l
  close : ∀ T ow' H' ram' l', Upd T ow H ow' H' → (∀ τ, T τ → TBus r c τ ∨ τ.1 ≠ r) → RamR r ow' H' rb ram' → BufR r ow' H' c bc most l' → BusR r ow' H' b ram' most (bufs.set c l')

section
variable {m : Amb} {r : Nat} {ow : Ow} {H : Hp} {K : Value → Hp → Prop}

theorem BusR.at {b : Nat} {ram : List Int} {most : Int} {bufs : List (List (Int × Int))} (h : BusR r ow H b ram most bufs) {c : Nat} (hc : c < bufs.length) : ∃ rb q n cp bs bc, BusAt r ow H b ram most bufs c rb q n cp bs bc bufs[c] := by
  obtain ⟨rb, q, n, cp, h1, h2, bs, h3, h4, h5⟩ := h
  refine ⟨rb, q, n, cp, bs, bs[c]'(by omega), h1, h2, h4, h3, List.getElem?_eq_getElem (by omega), List.getElem?_eq_getElem hc, h5 c (by omega) hc, ?_⟩
  intro T ow' H' ram' l' u hT hr hb
  have nT : ∀ k i j, ¬ TBus r c (r, k, i, j) → ¬ T (r, k, i, j) := fun k i j hn hh => by rcases hT _ hh with h | h; exact hn h; exact h rfl
  refine ⟨rb, q, n, cp, h1.upd u (nT _ _ _ (by simp [TBus])), hr, bs, by simp [h3], h4.upd u (nT _ _ _ (by simp [TBus])), fun i hi hi' => ?_⟩
  by_cases hic : i = c
  · subst hic
    rw [List.getElem_set_self]; exact hb
  · rw [List.getElem_set_ne (by omega)]
    exact (h5 i hi (by simpa using hi')).upd u (nT _ _ _ (by simp [TBus, hic])) (nT _ _ _ (by simp [TBus, hic]))

variable {b : Nat} {ram : List Int} {most : Int} {bufs : List (List (Int × Int))} {c rb : Nat} {q : Option Addr} {n cp : Nat} {bs : List Nat} {bc : Nat} {l : List (Int × Int)}

theorem C78e (hb : BufR r ow H c bc most []) (h : K (B false) H) : CallsH Tryz.prog m 78 [Pt b, Pt bc] H K := by
  exact S78 (C118e hb ⟨_, _, _, rfl, br_f h⟩)

theorem C78 {p : Int × Int} {y : Value} (h1 : Has ow H (r, 1, 0, 0) b [Pt rb, y]) (hr : RamR r ow H rb ram) (hb : BufR r ow H c bc most (p :: l)) (hl : ram.length ≤ 65536) (hp : okP p ∧ p.1 < ram.length) (hm : l.length ≤ 65536)
    (h : ∀ H', Upd (TBus r c) ow H ow H' → RamR r ow H' rb (setRam ram p) → BufR r ow H' c bc most l → K (B true) H') : CallsH Tryz.prog m 78 [Pt b, Pt bc] H K := by
  refine S78 (C118 hb hp.1 hm fun H1 u1 b1 => ⟨_, _, _, rfl, br_t ?_⟩)
  have u1' := u1.mono (TBuf_bus (r := r) (c := c))
  refine nn_r (ldP_r (x := at0 rb) (h1.upd u1' (by simp [TBus])).2 rfl ?_)
  refine C100 (hr.upd u1 ?_) hl ⟨hp.1.1.1, hp.2⟩ hp.1.2 fun H2 u2 r2 => ⟨_, rfl, h H2 (u1'.then u2 TRam_bus) ?_ ?_⟩
  · rintro τ rfl h1 h2 (h3 | h3) <;> rw [h3] at h1 h2 <;> simp at h1 h2
  · rw [setRam_in hp]; exact r2
  · exact b1.upd u2 (by simp [TRam]) (by simp [TRam])

theorem C68 {y : Value} (h1 : Has ow H (r, 1, 0, 0) b [Pt rb, y]) (hr : RamR r ow H rb ram) (hb : BufR r ow H c bc most l) (hl : ram.length ≤ 65536) (hp : ∀ p ∈ l, okP p ∧ p.1 < ram.length) (hm : l.length ≤ 65536)
    (h : ∀ H', Upd (TBus r c) ow H ow H' → RamR r ow H' rb (l.foldl setRam ram) → BufR r ow H' c bc most [] → K (I l.length) H') : CallsH Tryz.prog m 68 [Pt b, Pt bc] H K := by
  refine S68 ⟨fun i A => ∃ k : Nat, i = (k : Int) ∧ k ≤ l.length ∧ Upd (TBus r c) ow H ow A ∧ RamR r ow A rb ((l.take k).foldl setRam ram) ∧ BufR r ow A c bc most (l.drop k), fun i _ => (l.length - i).toNat, ⟨0, rfl, by omega, Upd.refl _ _ _, by simpa using hr, by simpa using hb⟩, ?_⟩
  rintro _ A w _ ⟨k, rfl, hk, u, hr', hb'⟩ hw
  by_cases hlt : k < l.length
  · rw [List.drop_eq_getElem_cons hlt] at hb'
    have hpk := hp l[k] (List.getElem_mem _)
    refine C78 (h1.upd u (by simp [TBus])) hr' hb' (by rw [foldRam_len]; exact hl) (by rw [foldRam_len]; exact hpk) (by simp; omega) fun H2 u2 r2 b2 => ?_
    refine ⟨_, rfl, br_t ⟨⟨k + 1, wr_i64 (by omega) (by omega), by omega, u.trans u2, ?_, b2⟩, ?_⟩⟩
    · rw [List.take_succ_eq_append_getElem hlt, List.foldl_append]; exact r2
    · rw [wr_i64 (by omega) (by omega)]; subst hw
      show ((l.length : Int) - ((k : Int) + 1)).toNat + 1 ≤ ((l.length : Int) - (k : Int)).toNat
      omega
  · obtain rfl : k = l.length := by omega
    rw [List.drop_length] at hb'
    rw [List.take_length] at hr'
    exact C78e hb' ⟨_, rfl, br_f (h A u hr' hb')⟩

theorem C63n {x : Int} {fv : Value} {y : Value} {τ : Tg} (h1 : Has ow H τ b [y, .slice q n cp]) (hx : ¬ (0 ≤ x ∧ x < n)) (h : K (I 3) H) : CallsH Tryz.prog m 63 [Pt b, I x, fv] H K := by
  refine S63 (br_f ?_)
  by_cases e : x < 0
  · exact br_yes (by simpa using e) h
  · exact br_no (by simpa using e) (nn_r (ldS_r h1.2 rfl (br_yes (by simp; omega) h)))

theorem C63 {f : FuncId} {cap : Array Value} {y : Value} {τ τ' : Tg} (h1 : Has ow H τ b [y, .slice q n cp]) (h2 : SlT 1 ow H τ' q n cp (bs.map Pt)) (hc : bs[c]? = some bc) (hf : callable Tryz.prog f = true)
    (h : CallsH Tryz.prog m f (Pt bc :: cap.toList) H fun w H' => ∃ i, w = I i ∧ K (I i) H') : CallsH Tryz.prog m 63 [Pt b, I c, .func (.func f) #[] cap] H K := by
  obtain ⟨hlt, hbc⟩ := List.getElem?_eq_some_iff.1 hc
  have hn : bs.length = n := by simpa using h2.len1
  refine S63 (br_f (br_no (by simp) (nn_r (ldS_r h1.2 rfl (br_no (by simp; omega) (nn_r (ldS_r h1.2 rfl ?_)))))))
  obtain ⟨bb, o, cs, rfl, g1, g2, g3, g4⟩ := h2.place (by simp; omega)
  refine ⟨_, rfl, ⟨by omega, by omega⟩, ?_⟩
  show ldP H ((⟨bb, o, none⟩ : Addr).add ((c : Int).toNat * 1)) _
  rw [add_mk, Nat.mul_one, Int.toNat_natCast]
  refine ldP_r (x := at0 bc) g1.2 ?_ ?_
  · rw [g2 c (by simpa using hlt), List.getElem?_map, hc]; rfl
  · refine ⟨f, #[], cap, rfl, hf, ?_⟩
    exact h.mono fun w H' ⟨i, e, hk⟩ => ⟨i, e, hk⟩

/-- What is named, and the blocks of one's own. -/
def TL (T : Tg → Prop) : Tg → Prop := fun τ => T τ ∨ τ = T0
theorem TL.off {r lo hi : Nat} {T : Tg → Prop} (h : Off r lo hi T) (hr : 0 < r) : Off r lo hi (TL T) := by
  rintro τ h1 h2 h3 (h4 | rfl)
  · exact h τ h1 h2 h3 h4
  · exact absurd h1 (by show ¬ 0 = r; omega)
theorem TL.no {r k i j : Nat} {T : Tg → Prop} (h : ¬ T (r, k, i, j)) (hr : 0 < r) : ¬ TL T (r, k, i, j) := by
  rintro (h4 | h5)
  · exact h h4
  · cases h5; omega
theorem bus_own {r c : Nat} (hr : 0 < r) : ∀ τ, TL (TBus r c) τ → TBus r c τ ∨ τ.1 ≠ r := by
  rintro τ (h | rfl)
  · exact .inl h
  · exact .inr (by show 0 ≠ r; omega)
theorem bus_T0 {r c : Nat} (hr : 0 < r) : ¬ TBus r c T0 := fun hx => absurd hx.1 (by show ¬ 0 = r; omega)
/-- A block of one's own is written. -/
theorem _root_.Go.Eng.Upd.loc {T : Tg → Prop} {ow ow1 : Ow} {A B C : Hp} {b : Nat} (u : Upd (TL T) ow A ow1 B) (s : Set1 b B C) (h : ow1 b = T0) : Upd (TL T) ow A ow1 C := u.set s (.inl (.inr h))
theorem _root_.Go.Eng.Upd.toL {T : Tg → Prop} {ow ow1 : Ow} {A B : Hp} (u : Upd T ow A ow1 B) : Upd (TL T) ow A ow1 B := u.mono fun _ h => .inl h

theorem nat_of {x : Int} (h : 0 ≤ x) : ∃ c : Nat, x = c := ⟨x.toNat, by omega⟩
end
end Go.Proofs.YtoddfageecbkcaaGreat
