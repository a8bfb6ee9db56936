/-
  THE PLAIN SOC STAYS RIGHT, whatever is done with it. Nothing of the program's text stands here.
-/
import Derived.Test.YtoddfageecbkcaaGreatM2
namespace Sy
open Go Go.Eng
set_option linter.unusedVariables false
set_option linter.unusedSimpArgs false

theorem mem_set {α : Type} {l : List α} {n : Nat} {x y : α} (h : y ∈ l.set n x) : y ∈ l ∨ y = x := List.mem_or_eq_of_mem_set h

theorem setRam_length (ram : List Int) (p : Int × Int) : (setRam ram p).length = ram.length := by
  unfold setRam; split <;> simp
theorem setRam_word {ram : List Int} {p : Int × Int} (hp : 0 ≤ p.2 ∧ p.2 < 65536) (h : ∀ w ∈ ram, 0 ≤ w ∧ w < 65536) : ∀ w ∈ setRam ram p, 0 ≤ w ∧ w < 65536 := by
  unfold setRam
  split
  · intro w hw
    rcases mem_set hw with h' | rfl
    · exact h w h'
    · exact hp
  · exact h
theorem foldRam_length (l : List (Int × Int)) : ∀ ram : List Int, (l.foldl setRam ram).length = ram.length := by
  induction l with
  | nil => intro ram; rfl
  | cons p l ih => intro ram; rw [List.foldl_cons, ih, setRam_length]
theorem foldRam_word (l : List (Int × Int)) : ∀ ram : List Int, (∀ p ∈ l, 0 ≤ p.2 ∧ p.2 < 65536) → (∀ w ∈ ram, 0 ≤ w ∧ w < 65536) → ∀ w ∈ l.foldl setRam ram, 0 ≤ w ∧ w < 65536 := by
  induction l with
  | nil => intro ram _ h; exact h
  | cons p l ih => intro ram hp h; exact ih _ (fun q hq => hp q (List.mem_cons_of_mem _ hq)) (setRam_word (hp p List.mem_cons_self) h)

theorem getD_mem {α : Type} {l : List α} {n : Nat} {d x : α} (h : l.getD n d = x) : x ∈ l ∨ x = d := by
  rw [List.getD_eq_getElem?_getD] at h
  cases hh : l[n]? with
  | none => rw [hh] at h; exact .inr h.symm
  | some y => rw [hh] at h; exact .inl (h ▸ List.mem_of_getElem? hh)

section
variable {s : Soc}

theorem Soc.Ok.buf_pair (ok : s.Ok) {c : Int} : ∀ p ∈ s.buf c, (0 ≤ p.1 ∧ p.1 < s.words) ∧ 0 ≤ p.2 ∧ p.2 < 65536 := by
  intro p hp
  rcases getD_mem (l := s.bufs) (n := c.toNat) (d := []) rfl with h | h
  · exact ok.bufw _ h p hp
  · rw [show s.buf c = [] from h] at hp; cases hp
theorem Soc.Ok.buf_len (ok : s.Ok) {c : Int} : ((s.buf c).length : Int) ≤ s.most := by
  rcases getD_mem (l := s.bufs) (n := c.toNat) (d := []) rfl with h | h
  · exact ok.bufl _ h
  · rw [show s.buf c = [] from h]; have := ok.most; simp; omega

/-- Another memory, and other stores of a core. -/
theorem Soc.Ok.set (ok : s.Ok) {ram : List Int} {c : Int} {l : List (Int × Int)} (h1 : ram.length = s.ram.length) (h2 : ∀ w ∈ ram, 0 ≤ w ∧ w < 65536) (h3 : (l.length : Int) ≤ s.most) (h4 : ∀ p ∈ l, (0 ≤ p.1 ∧ p.1 < s.words) ∧ 0 ≤ p.2 ∧ p.2 < 65536) :
    ({ s with ram := ram, bufs := s.bufs.set c.toNat l } : Soc).Ok := by
  refine ⟨ok.right, ok.most, h1.trans ok.ram, h2, by simp [ok.bufs], ?_, ?_, ok.box, ok.boxl, ok.owners, ok.ownersw, ok.epochs, ok.epochsw, ok.held, ok.boxw⟩
  · intro x hx; rcases mem_set hx with h | rfl; exact ok.bufl x h; exact h3
  · intro x hx; rcases mem_set hx with h | rfl; exact ok.bufw x h; exact h4

theorem Soc.Ok.flush (ok : s.Ok) (c : Int) : (s.flush c).Ok :=
  ok.set (foldRam_length _ _) (foldRam_word _ _ (fun p hp => (ok.buf_pair p hp).2) ok.ramw) (by have := ok.most; simp; omega) (fun p hp => by cases hp)

theorem Soc.Ok.drain1 (ok : s.Ok) (c : Int) : (s.drain1 c).Ok := by
  unfold Soc.drain1
  split
  · exact ok
  · rename_i p r hb
    have hl := ok.buf_len (c := c)
    have hp := ok.buf_pair (c := c)
    rw [hb] at hl hp
    refine ok.set (setRam_length _ _) (setRam_word (hp p List.mem_cons_self).2 ok.ramw) ?_ (fun q hq => hp q (List.mem_cons_of_mem _ hq))
    simp at hl; omega

theorem Soc.drain1_buf (c : Int) (hc : c.toNat < s.bufs.length) : (s.drain1 c).buf c = (s.buf c).tail := by
  unfold Soc.drain1
  split
  · rename_i hb; rw [hb]; rfl
  · rename_i p r hb
    unfold Soc.buf at hb ⊢
    rw [hb]
    simp [List.getD_eq_getElem?_getD, hc]

theorem Soc.has_lt (ok : s.Ok) {c : Int} (h : s.has c = true) : c.toNat < s.bufs.length := by
  have : 0 ≤ c ∧ c < s.cores := by simpa [Soc.has] using h
  rw [ok.bufs]; omega

theorem Soc.Ok.store (ok : s.Ok) {c a w : Int} (hc : s.has c = true) (ha : 0 ≤ a ∧ a < s.words) (hw : 0 ≤ w ∧ w < 65536) : (s.store c a w).Ok := by
  have hlt := Soc.has_lt ok hc
  have hl := ok.buf_len (c := c)
  have hp := ok.buf_pair (c := c)
  have hm := ok.most
  unfold Soc.store
  by_cases e : ((s.buf c).length : Int) = s.most
  · simp only [if_pos e]
    have ok1 := ok.drain1 c
    have hb := Soc.drain1_buf (s := s) c hlt
    have hw1 : (s.drain1 c).words = s.words := by unfold Soc.drain1; split <;> rfl
    have hm1 : (s.drain1 c).most = s.most := by unfold Soc.drain1; split <;> rfl
    refine ok1.set rfl ok1.ramw ?_ ?_
    · rw [hb, hm1]; simp; omega
    · rw [hb, hw1]
      intro p hpp
      rcases List.mem_append.1 hpp with h | h
      · exact hp p (List.mem_of_mem_tail h)
      · simp at h; subst h; exact ⟨ha, hw⟩
  · simp only [if_neg e]
    refine ok.set rfl ok.ramw ?_ ?_
    · simp; omega
    · intro p hpp
      rcases List.mem_append.1 hpp with h | h
      · exact hp p h
      · simp at h; subst h; exact ⟨ha, hw⟩

/-- Another mailbox of a core. -/
theorem Soc.Ok.setMail (ok : s.Ok) {c : Int} {x : Int × List Int} (h1 : x.2.length ≤ 16) (h2 : ∀ n ∈ x.2, 0 ≤ n ∧ n < 8 * 65536) : (s.setMail c x).Ok := by
  refine ⟨ok.right, ok.most, ok.ram, ok.ramw, ok.bufs, ok.bufl, ok.bufw, by unfold Soc.setMail; simp [ok.box], ?_, ok.owners, ok.ownersw, ok.epochs, ok.epochsw, ok.held, ?_⟩
  · intro y hy; rcases mem_set hy with h | rfl; exact ok.boxl y h; exact h1
  · intro y hy; rcases mem_set hy with h | rfl; exact ok.boxw y h; exact h2
theorem Soc.Ok.mail_len (ok : s.Ok) (c : Int) : (s.mail c).2.length ≤ 16 := by
  rcases getD_mem (l := s.box) (n := c.toNat) (d := (0, [])) rfl with h | h
  · exact ok.boxl _ h
  · rw [show s.mail c = (0, []) from h]; simp
theorem Soc.Ok.mail_word (ok : s.Ok) (c : Int) : ∀ n ∈ (s.mail c).2, 0 ≤ n ∧ n < 8 * 65536 := by
  rcases getD_mem (l := s.box) (n := c.toNat) (d := (0, [])) rfl with h | h
  · exact ok.boxw _ h
  · rw [show s.mail c = (0, []) from h]; simp

theorem Soc.Ok.setOwner (ok : s.Ok) {i : Nat} {x : Int} (h : 0 ≤ x ∧ x ≤ 8) : ({ s with owners := s.owners.set i x } : Soc).Ok := by
  refine ⟨ok.right, ok.most, ok.ram, ok.ramw, ok.bufs, ok.bufl, ok.bufw, ok.box, ok.boxl, by simp [ok.owners], ?_, ok.epochs, ok.epochsw, ok.held, ok.boxw⟩
  intro y hy; rcases mem_set hy with h' | rfl; exact ok.ownersw y h'; exact h

theorem Soc.cores8 (ok : s.Ok) : 1 ≤ s.cores ∧ s.cores ≤ 8 := by
  have := ok.right; unfold rightPlan at this
  simp only [Bool.and_eq_true, decide_eq_true_eq] at this
  exact this.1.1
theorem Soc.words_r (ok : s.Ok) : 1 ≤ s.words ∧ s.words ≤ 65536 := by
  have := ok.right; unfold rightPlan at this
  simp only [Bool.and_eq_true, decide_eq_true_eq] at this
  exact this.1.2

theorem Soc.Ok.register (ok : s.Ok) {c : Int} (hc : 0 ≤ c ∧ c < s.cores) (x : Spot) : (s.register c x).1.Ok := by
  have h8 := Soc.cores8 ok
  unfold Soc.register
  split
  · split
    · exact ok.setOwner (by omega)
    · exact ok
  · exact ok
  · split
    · exact ok
    · split
      · split
        · exact ok
        · rename_i n l hm
          have h1 := ok.mail_len c
          have h2 := ok.mail_word c
          rw [hm] at h1 h2
          exact ok.setMail (by simp at h1; show l.length ≤ 16; omega) (fun n hn => h2 n (List.mem_cons_of_mem _ hn))
      · exact ok
  · exact ok

theorem Soc.wrong_ok {c : Int} (h : s.wrong c = 0) : 0 ≤ c ∧ c < s.cores := by
  unfold Soc.wrong at h
  split at h
  · cases h
  · rename_i hh; simpa [Soc.has] using hh

theorem Soc.Ok.read (ok : s.Ok) (c a : Int) : (s.read c a).1.Ok := by
  unfold Soc.read
  by_cases hw : s.wrong c = 0
  · have hc := Soc.wrong_ok hw
    rw [if_neg (by simpa using hw)]
    split
    · exact ok
    · exact ok
    · split
      · exact ok
      · exact (ok.flush c).register hc _
    · exact (ok.flush c).register hc _
  · rw [if_pos hw]; exact ok

theorem Soc.spot_ram {a : Int} (h : s.spot a = .ram) : 0 ≤ a ∧ a < s.words := by
  unfold Soc.spot at h
  split at h
  · split at h
    · assumption
    · cases h
  · split at h
    · split at h <;> cases h
    · split at h
      · split at h <;> cases h
      · split at h <;> cases h

theorem Soc.Ok.ring (ok : s.Ok) {c i w : Int} (hc : 0 ≤ c ∧ c < s.cores) (hw : 0 ≤ w ∧ w < 65536) : (s.ring c i w).1.Ok := by
  have h8 := Soc.cores8 ok
  have h1 := ok.mail_len i
  have h2 := ok.mail_word i
  unfold Soc.ring
  simp only
  split
  · exact ok.setMail h1 h2
  · refine ok.setMail (by simp; omega) ?_
    intro n hn
    rcases List.mem_append.1 hn with h | h
    · exact h2 n h
    · simp at h; subst h; omega

theorem Soc.Ok.write (ok : s.Ok) (c a w : Int) : (s.write c a w).1.Ok := by
  unfold Soc.write
  by_cases hw : s.wrong c = 0
  · have hc := Soc.wrong_ok hw
    rw [if_neg (by simpa using hw)]
    split
    · exact ok
    · exact ok
    · rename_i hs
      split
      · exact ok
      · rename_i hww
        exact ok.store (by simpa [Soc.has] using hc) (Soc.spot_ram hs) (by have h : w = w % 65536 := Decidable.not_not.1 hww; omega)
    · split
      · exact ok
      · split
        · exact ok
        · exact (ok.flush c).setOwner (by omega)
    · split
      · exact ok
      · split
        · exact ok
        · rename_i hww
          split
          · exact (ok.flush c).setMail ((ok.flush c).mail_len c) ((ok.flush c).mail_word c)
          · exact (ok.flush c).ring hc (by have h : w = w % 65536 := Decidable.not_not.1 hww; omega)
  · rw [if_pos hw]; exact ok

theorem Soc.Ok.fence (ok : s.Ok) (c : Int) : (s.fence c).1.Ok := by
  unfold Soc.fence; split
  · exact ok
  · exact ok.flush c
theorem Soc.Ok.drain (ok : s.Ok) (c : Int) : (s.drain c).1.Ok := by
  unfold Soc.drain; split
  · exact ok
  · exact ok.drain1 c
theorem Soc.Ok.swap (ok : s.Ok) (c a w : Int) : (s.swap c a w).1.Ok := by
  unfold Soc.swap
  split
  · exact ok
  · split
    · split
      · exact ok
      · rename_i hw
        have o := ok.flush c
        refine ⟨o.right, o.most, by simp [o.ram], ?_, o.bufs, o.bufl, o.bufw, o.box, o.boxl, o.owners, o.ownersw, o.epochs, o.epochsw, o.held, o.boxw⟩
        intro y hy; rcases mem_set hy with h | rfl; exact o.ramw y h; omega
    · exact ok

theorem relLocks_ok (o : List Int) (c : Int) (h : ∀ x ∈ o, 0 ≤ x ∧ x ≤ 8) : (relLocks o c).length = o.length ∧ ∀ x ∈ relLocks o c, 0 ≤ x ∧ x ≤ 8 := by
  unfold relLocks
  generalize heldOf o c = l
  induction l generalizing o with
  | nil => exact ⟨rfl, h⟩
  | cons i l ih =>
    rw [List.foldl_cons]
    have := ih (o.set i 0) (by intro x hx; rcases mem_set hx with h' | rfl; exact h x h'; omega)
    exact ⟨by rw [this.1, List.length_set], this.2⟩

theorem Soc.Ok.hold (ok : s.Ok) (c : Int) : (s.hold c).1.Ok := by
  unfold Soc.hold
  split
  · exact ok
  · split
    · exact ok
    · have h := relLocks_ok s.owners c ok.ownersw
      have hm := ok.most
      refine ⟨ok.right, ok.most, ok.ram, ok.ramw, by simp [ok.bufs], ?_, ?_, by simp [ok.box], ?_, h.1.trans ok.owners, h.2, ok.epochs, ok.epochsw, by simp [ok.held], ?_⟩
      · intro x hx; rcases mem_set hx with h | rfl; exact ok.bufl x h; simp; omega
      · intro x hx; rcases mem_set hx with h | rfl; exact ok.bufw x h; simp
      · intro x hx; rcases mem_set hx with h | rfl; exact ok.boxl x h; simp
      · intro x hx; rcases mem_set hx with h | rfl; exact ok.boxw x h; simp
theorem Soc.Ok.start (ok : s.Ok) (c : Int) : (s.start c).1.Ok := by
  unfold Soc.start
  split
  · exact ok
  · split
    · exact ok
    · refine ⟨ok.right, ok.most, ok.ram, ok.ramw, ok.bufs, ok.bufl, ok.bufw, ok.box, ok.boxl, ok.owners, ok.ownersw, by simp [ok.epochs], ?_, by simp [ok.held], ok.boxw⟩
      intro x hx; rcases mem_set hx with h | rfl; exact ok.epochsw x h; omega

theorem Soc.new_ok {cores words locks most : Int} (h : rightPlan cores words locks = true) (hm : 1 ≤ most ∧ most ≤ 16) : (Soc.new cores words locks most).Ok := by
  refine ⟨h, hm, by simp [Soc.new], ?_, by simp [Soc.new], ?_, ?_, by simp [Soc.new], ?_, by simp [Soc.new], ?_, by simp [Soc.new], ?_, by simp [Soc.new], ?_⟩ <;> (intro x hx; have := List.eq_of_mem_replicate hx; subst this)
  · omega
  · show ((([] : List (Int × Int)).length : Nat) : Int) ≤ most; simp; omega
  · intro p hp; cases hp
  · simp
  · omega
  · omega
  · intro n hn; cases hn

theorem Soc.Ok.touch (ok : s.Ok) (c : Int) (t : Touch) : (s.touch c t).1.Ok := by
  unfold Soc.touch
  split
  · split
    · exact ok.read _ _
    · exact ok
  · split
    · exact ok.read _ _
    · exact ok
  · split
    · exact ok.write _ _ _
    · exact ok
  · exact ok.fence _
  · split
    · exact ok.write _ _ _
    · exact ok

/-- A call of the law's own list. -/
def Soc.op (s : Soc) (kind core addr w : Int) : Soc × Int × Int :=
  if kind = 1 then ((s.write core addr w).1, 0, (s.write core addr w).2)
  else if kind = 2 then s.fence core
  else if kind = 3 then ((s.drain core).1, if (s.drain core).2.1 then 1 else 0, (s.drain core).2.2)
  else if kind = 4 then s.swap core addr w
  else if kind = 5 then ((s.hold core).1, 0, (s.hold core).2)
  else if kind = 6 then ((s.start core).1, 0, (s.start core).2)
  else s.read core addr
theorem Soc.Ok.op (ok : s.Ok) (kind core addr w : Int) : (s.op kind core addr w).1.Ok := by
  unfold Soc.op
  split
  · exact ok.write _ _ _
  · split
    · exact ok.fence _
    · split
      · exact ok.drain _
      · split
        · exact ok.swap _ _ _
        · split
          · exact ok.hold _
          · split
            · exact ok.start _
            · exact ok.read _ _
end
end Sy
