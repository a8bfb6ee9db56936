/-
  THE WALK of the law of the new links.
-/
import Derived.Test.YtdipbhbhakmaiaaDoorL0
namespace Go.Proofs.YtdipbhbhakmaiaaDoor
open Go Go.Eng
set_option linter.unusedVariables false
set_option linter.unusedSimpArgs false
set_option maxRecDepth 100000

def g1 (ring : Int) : Tb := (Tb.new ring).give 0
def g2 (ring : Int) : Tb := { g1 ring with held := (g1 ring).held.set 0 false }
def g3 (ring : Int) : Tb := (g2 ring).clear
def g4 (ring : Int) : Tb := (g3 ring).give 0

theorem g2_ok {ring : Int} (hr : few4 ring) : (g2 ring).ok := by
  refine ⟨by rcases hr with rfl | rfl | rfl | rfl <;> decide, by rcases hr with rfl | rfl | rfl | rfl <;> decide, rfl, rfl, fun i => ?_⟩
  have h : (g2 ring).gens = (List.replicate 64 (0 : Int)).set 0 1 := rfl
  rw [h, List.getD_eq_getElem?_getD, List.getElem?_set]
  split
  · split
    · simp
    · simp
  · have := getD_rep 64 i (0 : Int)
    rw [List.getD_eq_getElem?_getD] at this; rw [this]; omega

theorem slot1 {ring : Int} (hr : few4 ring) : (g1 ring).slotOf 64 = some 0 := by rcases hr with rfl | rfl | rfl | rfl <;> rfl
theorem slot3 {ring : Int} (hr : few4 ring) : (g3 ring).slotOf 64 = none := by rcases hr with rfl | rfl | rfl | rfl <;> rfl
theorem slot4 {ring : Int} (hr : few4 ring) : (g4 ring).slotOf 128 = some 0 := by rcases hr with rfl | rfl | rfl | rfl <;> rfl
theorem held0 {ring : Int} (hr : few4 ring) : (Tb.new ring).heldL = [] := by rcases hr with rfl | rfl | rfl | rfl <;> rfl
theorem held3 {ring : Int} (hr : few4 ring) : (g3 ring).heldL = [] := by rcases hr with rfl | rfl | rfl | rfl <;> rfl
theorem held4 {ring : Int} (hr : few4 ring) : (g4 ring).heldL = [0] := by rcases hr with rfl | rfl | rfl | rfl <;> rfl

def tA (ring : Int) (bg : Nat) : Tk := ⟨0, ring, 2, 1, 0, 0, true, 1, 0, bg, 0, 0, 0, 0, false, none, 0, 0, 64⟩
def tB (ring epoch : Int) (bg : Nat) : Tk := ⟨0, ring, 2, 1, 0, epoch, false, 0, 0, bg, 0, 0, 0, 0, true, none, 0, 0, 0⟩
def tC (ring epoch : Int) (bg : Nat) : Tk := ⟨0, ring, 2, 1, 0, epoch, true, 1, 0, bg, 0, 0, 0, 0, false, none, 0, 0, 128⟩

section
variable {m : Amb} {H : Hp} {K : Value → Hp → Prop}

theorem C4 (g : Gl H) {ring epoch mark : Int} (h : ∀ H', But (fun b => H.size ≤ b) H H' → K (.bool true) H') : CallsH Tryd.prog m 4 [I ring, I epoch, I mark] H K := by
  have alive : ∀ {A : Hp}, Gl A → But (fun b => H.size ≤ b) H A → CallsH Tryd.prog m 16 [] A (fun w B => ∃ e : Bool, must (w = .bool e) (K (.bool e) B)) := by
    intro A gA hA
    refine C16 gA fun B hB => ⟨true, rfl, h B ?_⟩
    exact hA.trans (hB.mono fun b hb => .inl (Nat.le_trans hA.size hb))
  refine S4 ?_
  unfold t4
  refine nw_r ?_
  rintro _ H1 e1 rfl hz1 ca
  have x1 : But (fun b => H.size ≤ b) H H1 := But.of_ext e1
  have gl1 := g.ext e1
  refine ldI_r (x := ring) ca rfl (C17 (.inr (.inr (.inr (.inr trivial)))) fun b hb => ⟨b, rfl, ?_⟩)
  cases b with
  | false => exact br_t (alive gl1 x1)
  | true =>
  have hb6 := hb rfl
  refine br_f (ldI_r (x := ring) ca rfl ?_)
  by_cases h16 : ring > 16
  · exact br_yes (by simpa using h16) (alive gl1 x1)
  refine br_no (by simpa using h16) ?_
  by_cases he1 : epoch < 1
  · exact br_yes (by simpa using he1) (alive gl1 x1)
  refine br_no (by simpa using he1) ?_
  by_cases he2 : epoch > 65535
  · exact br_yes (by simpa using he2) (alive gl1 x1)
  refine br_no (by simpa using he2) ?_
  by_cases hm1 : mark < 0
  · exact br_yes (by simpa using hm1) (alive gl1 x1)
  refine br_no (by simpa using hm1) ?_
  by_cases hm2 : mark > 65535
  · exact br_yes (by simpa using hm2) (alive gl1 x1)
  refine br_no (by simpa using hm2) ?_
  by_cases hme : mark = epoch
  · exact br_yes (by simp [hme]) (alive gl1 x1)
  refine br_no (by simp [hme]) ?_
  have hr : few4 ring := by unfold few4; omega
  have hr1 : 1 ≤ ring ∧ ring ≤ 16 := by omega
  refine ldI_r (x := ring) ca rfl ?_
  refine C18 gl1 hr (by decide) (by decide) (by decide) (by decide) (by decide) ?_
  intro bt bg H2 e2 hbt hbg hne ct cg
  refine ⟨_, rfl, br_f (ldI_r (x := ring) (e2.cells ca) rfl ?_)⟩
  obtain ⟨n, hn⟩ : ∃ n : Nat, 4 + 11 * ring = (n : Int) := ⟨(4 + 11 * ring).toNat, by omega⟩
  refine C21 (gl1.ext e2) hr ⟨_, rfl, ?_⟩
  rw [hn]
  refine mkS_sl (by omega) ?_
  intro q3 H3 e3 s3
  refine nw_r ?_
  rintro _ H4 e4 rfl hz4 c4
  refine C7 (l' := [0, 0, 0]) (N := H2.size) (s3.ext e4) (q' := at0 H3.size) ⟨rfl, .inr ⟨_, [], rfl, e3.size, c4, rfl⟩⟩ (by omega) (by decide) ?_
  intro bp H5 e5 hp
  have e25 : Ext H2 H5 := (e3.trans e4).trans e5
  have x5 : But (fun b => H.size ≤ b) H H5 := But.of_ext (e1.trans (e2.trans e25))
  have hgn : (Tb.new ring).ok := Tb.new_ok hr1.1 (by omega)
  have s0 := cells_lt ct
  have s1 := cells_lt cg
  have s2 := e3.size
  have s4 := e4.size
  obtain ⟨bw, be, L⟩ : ∃ bw be, Lk H H.size bt bg bp bw be ring (Tk.new 0 ring 2 1 0 bg) (Tb.new ring) (wd (List.replicate n 0)) (wd [0, 0, 0]) H5 :=
    Lk.mk' rfl hgn ⟨Nat.le_refl _, by omega, by omega, hne, by omega, by omega⟩ g x5 (e25.cells (e2.cells ca)) (e25.cells ct) (e25.cells cg) hp (by intro hh; have := congrArg List.length hh; simp [wd] at this; omega) (by decide)
  generalize hws : wd (List.replicate n (0 : Int)) = ws at L
  have hlen : ws.length = n := by rw [← hws]; simp [wd]
  have hw : ∀ i, nth ws i = 0 := fun i => by rw [← hws, nth_wd, nth_rep]; rfl
  refine ⟨_, rfl, C19 L.ca (.inr (.inr (.inl rfl))) ⟨_, rfl, L.store22 (x := 3 - 1) (w := 1) (by omega) ?_⟩⟩
  intro H6 L6
  have hx2 : ((3 - 1 : Int)).toNat = 2 := rfl
  have h65 : (1 : Int) % 65536 = 1 := rfl
  rw [hx2, h65] at L6
  have v1 : ∀ i, nth (ws.set 2 1) i = if i = 2 then 1 else 0 := fun i => by rw [nth_set (by omega), hw]; rfl
  refine ⟨rfl, L6.recv rfl fun H7 L7 => ⟨_, rfl, br_f ?_⟩⟩
  refine run_recv L7 hr rfl rfl rfl rfl rfl rfl rfl rfl rfl (held0 hr) rfl (by rw [v1]; rfl) (by rw [v1]; rfl) (by rw [v1]; rfl) (by rw [v1, if_neg (by omega)]) ?_
  intro H8 L8
  replace L8 : Lk H H.size bt bg bp bw be ring (tA ring bg) (g1 ring) (ws.set 2 1) (wd [0, 0, 0]) H8 := L8
  refine ⟨_, rfl, br_f (C8_got (t := tA ring bg) L8.ct rfl (show (64 : Int) ≠ 0 by decide) rfl fun n' c' => ⟨_, _, _, _, rfl, ?_⟩)⟩
  refine L8.words (by rw [List.length_set]; omega) trivial ?_
  intro q9 c9 H9 e9 L9 s9
  refine ⟨_, _, _, rfl, nw_r ?_⟩
  rintro _ H10 e10 rfl hz10 c10
  refine C7 (l' := [0, epoch, 0]) (N := H8.size) (s9.ext e10) (q' := at0 H9.size) ⟨rfl, .inr ⟨_, [], rfl, e9.size, c10, rfl⟩⟩ (by rw [List.length_set]; omega) (by decide) ?_
  intro bp' H11 e11 hp'
  have o9 := L9.ord
  have L11 := (L9.ext e10).ext e11
  have b9 := cells_lt L9.ct
  have b9' := cells_lt L9.cg
  have z10 := e10.size
  obtain ⟨bw', be', M⟩ : ∃ bw' be', Lk H H.size bt bg bp' bw' be' ring (tA ring bg) (g1 ring) (wd (ws.set 2 1)) (wd [0, epoch, 0]) H11 :=
    Lk.mk' rfl L11.gok ⟨Nat.le_refl _, by omega, by omega, hne, by omega, by omega⟩ g L11.but L11.ca L11.ct L11.cg hp' (by intro hh; have h0 := congrArg List.length hh; rw [show (wd (ws.set 2 1)).length = n by simp [wd, hlen]] at h0; have h00 : n = 0 := h0; omega) (by simp [wd])
  have v2 : ∀ i, nth (wd (ws.set 2 1)) i = if i = 2 then 1 else 0 := fun i => by rw [nth_wd, v1]; split <;> rfl
  have hl2 : (wd (ws.set 2 1)).length = n := by simp [wd, hlen]
  generalize hws2 : wd (ws.set 2 1) = ws2 at M v2 hl2
  have ep : epoch % 65536 = epoch := by omega
  have mp : mark % 65536 = mark := by omega
  have vE : nth (wd [0, epoch, 0]) 1 = epoch := by rw [nth_wd]; exact ep
  generalize hes2 : wd [0, epoch, 0] = es2 at M vE
  refine ⟨_, rfl, M.release (hd := 64) (i := 0) rfl (slot1 hr) (g2_ok hr) fun H12 M12 => ⟨_, rfl, br_f ?_⟩⟩
  refine run_reset M12 rfl rfl (by omega) (e := epoch) vE (show epoch ≠ 0 by omega) ?_
  intro H13 M13
  have hset : (ws2.set 3 0).set 1 (((tA ring bg).own + epoch) % 65536 % 65536) = (ws2.set 3 0).set 1 epoch := by
    rw [show ((tA ring bg).own + epoch) % 65536 % 65536 = epoch by show (0 + epoch) % 65536 % 65536 = epoch; omega]
  replace M13 : Lk H H.size bt bg bp' bw' be' ring (tB ring epoch bg) (g3 ring) ((ws2.set 3 0).set 1 (((tA ring bg).own + epoch) % 65536 % 65536)) es2 H13 := M13
  rw [hset] at M13
  have v3 : ∀ i, nth ((ws2.set 3 0).set 1 epoch) i = if i = 1 then epoch else if i = 3 then 0 else if i = 2 then 1 else 0 := fun i => by
    rw [nth_set (by rw [List.length_set]; omega), nth_set (by omega), v2]; rfl
  have hl3 : ((ws2.set 3 0).set 1 epoch).length = n := by simp [hl2]
  generalize hws3 : (ws2.set 3 0).set 1 epoch = ws3 at M13 v3 hl3
  refine ⟨_, rfl, br_f (C13 M13.ct ⟨_, rfl, br_f ?_⟩)⟩
  refine C14 (t := tB ring epoch bg) M13.gok M13.ct M13.cg ?_
  intro q14 c14 H14 e14 _
  have M14 := M13.ext e14
  refine ⟨_, _, _, rfl, br_no (by rw [held3 hr]; rfl) ?_⟩
  refine C11_no (t := tB ring epoch bg) M14.gok M14.ct M14.cg rfl (slot3 hr) ⟨_, rfl, br_f ?_⟩
  refine C19 M14.ca (.inr (.inr (.inr rfl))) ⟨_, rfl, M14.load25 ⟨_, rfl, br_no (by rw [v3]; rfl) ?_⟩⟩
  refine C19 M14.ca (.inr (.inl rfl)) ⟨_, rfl, M14.load25 ⟨_, rfl, br_no (by rw [v3, if_pos (by decide)]; simp) ?_⟩⟩
  refine C19 M14.ca (.inl rfl) ⟨_, rfl, M14.store22 (x := 1 - 1) (w := mark) (by omega) ?_⟩
  intro H15 M15
  have hx0 : ((1 - 1 : Int)).toNat = 0 := rfl
  rw [hx0, mp] at M15
  have v4 : ∀ y i, nth (ws3.set 0 y) i = if i = 0 then y else nth ws3 i := fun y i => by rw [nth_set (by omega)]; rfl
  refine ⟨rfl, M15.recv rfl fun H16 M16 => ⟨_, rfl, br_f ?_⟩⟩
  refine run_down M16 rfl rfl rfl vE (by rw [v4, if_pos rfl]; show mark ≠ (0 + epoch) % 65536; omega) ?_
  intro H17 M17
  refine ⟨_, rfl, br_f (C19 M17.ca (.inl rfl) ⟨_, rfl, M17.store22 (x := 1 - 1) (w := epoch) (by rw [List.length_set]; omega) ?_⟩)⟩
  intro H18 M18
  rw [hx0, ep, List.set_set] at M18
  refine ⟨rfl, M18.recv rfl fun H19 M19 => ⟨_, rfl, br_f ?_⟩⟩
  refine run_recv M19 hr rfl rfl rfl rfl rfl rfl rfl vE rfl (held3 hr) rfl (by rw [v4, if_pos rfl]; show epoch = (0 + epoch) % 65536; omega) (by rw [v4, if_neg (by decide), v3]; rfl) (by rw [v4, if_neg (by decide), v3]; rfl) (by rw [v4, if_neg (by omega), v3, if_neg (by omega), if_neg (by omega), if_neg (by omega)]) ?_
  intro H20 M20
  replace M20 : Lk H H.size bt bg bp' bw' be' ring (tC ring epoch bg) (g4 ring) (ws3.set 0 epoch) es2 H20 := M20
  refine ⟨_, rfl, br_f (C8_got (t := tC ring epoch bg) M20.ct rfl (show (128 : Int) ≠ 0 by decide) rfl fun n' c' => ⟨_, _, _, _, rfl, ?_⟩)⟩
  refine C9 (t := tC ring epoch bg) (g := g4 ring) (hd := 128) M20.gok M20.ct M20.cg ?_
  rw [slot4 hr]
  refine ⟨0, true, rfl, br_t (br_t ?_)⟩
  refine C14 (t := tC ring epoch bg) (g := g4 ring) M20.gok M20.ct M20.cg ?_
  intro q21 c21 H21 e21 s21
  rw [held4 hr] at s21 ⊢
  refine ⟨_, _, _, rfl, nw_r ?_⟩
  rintro _ H22 e22 rfl hz22 c22
  refine C26 (l := [0]) (s21.ext e22) (N' := 0) ⟨rfl, .inr ⟨_, [], rfl, Nat.zero_le _, c22, rfl⟩⟩ (by decide) ⟨true, rfl, br_t ?_⟩
  have M22 := (M20.ext e21).ext e22
  exact alive M22.gla M22.but
end
end Go.Proofs.YtdipbhbhakmaiaaDoor
