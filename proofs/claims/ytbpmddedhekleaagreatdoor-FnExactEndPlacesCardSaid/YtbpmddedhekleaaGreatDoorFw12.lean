/- Plain laws: what a function with fuel answers from some fuel on. -/
import Derived.Test.YtbpmddedhekleaaGreatDoorFw11
import Derived.IntWalk
namespace Go.Fw
open Go

/-- From some fuel on the answer is 'r'. -/
def Ev {α : Type} (f : Nat → Option α) (r : α) : Prop := ∃ N, ∀ n, N ≤ n → f n = some r

section
variable {α β : Type} {f g : Nat → Option α} {r : α}

theorem Ev.now {x : Option α} (h : x = some r) : Ev (fun _ => x) r := ⟨0, fun _ _ => h⟩
theorem Ev.done : Ev (fun _ => some r) r := ⟨0, fun _ _ => rfl⟩
theorem Ev.bind {f : Nat → Option β} {g : Nat → β → Option α} {b : β} (h : Ev f b) (hg : Ev (fun n => g n b) r) : Ev (fun n => (f n).bind (g n)) r := by
  obtain ⟨N, hN⟩ := h
  obtain ⟨M, hM⟩ := hg
  exact ⟨max N M, fun n hn => by show (f n).bind (g n) = _; rw [hN n (by omega)]; exact hM n (by omega)⟩
theorem Ev.bindN {x : Option β} {g : Nat → β → Option α} {b : β} (h : x = some b) (hg : Ev (fun n => g n b) r) : Ev (fun n => x.bind (g n)) r := Ev.bind (.now h) hg
theorem Ev.tt {c : Bool} (hc : c = true) (h : Ev f r) : Ev (fun n => bif c then f n else g n) r := by subst hc; exact h
theorem Ev.ff {c : Bool} (hc : c = false) (h : Ev g r) : Ev (fun n => bif c then f n else g n) r := by subst hc; exact h
theorem Ev.bif {c : Bool} (h1 : c = true → Ev f r) (h2 : c = false → Ev g r) : Ev (fun n => bif c then f n else g n) r := by
  cases c
  · exact h2 rfl
  · exact h1 rfl
theorem Ev.succ (h : Ev (fun n => f (n + 1)) r) : Ev f r := by
  obtain ⟨N, hN⟩ := h
  refine ⟨N + 1, fun n hn => ?_⟩
  obtain ⟨m, rfl⟩ : ∃ m, n = m + 1 := ⟨n - 1, by omega⟩
  exact hN m (by omega)
theorem Ev.step (hs : ∀ n, f (n + 1) = g n) (h : Ev g r) : Ev f r := Ev.succ (by simpa [hs] using h)
theorem Ev.congr (hs : ∀ n, f n = g n) (h : Ev g r) : Ev f r := by
  obtain ⟨N, hN⟩ := h
  exact ⟨N, fun n hn => by rw [hs, hN n hn]⟩
theorem Ev.at (h : Ev f r) : ∃ n, f n = some r := ⟨h.choose, h.choose_spec _ (Nat.le_refl _)⟩
end

theorem w64_of {x : Int} (h : -9223372036854775808 ≤ x) (h' : x ≤ 9223372036854775807) : W64 x = x := by
  unfold W64
  rw [Go.IntWalk.i64_left]
  exact Go.IntWalk.wrap64_in x ⟨h, h'⟩

theorem w64_succ {j : Nat} (h : j < 9223372036854775807) : W64 ((j : Int) + 1) = ((j + 1 : Nat) : Int) := by rw [w64_of (by omega) (by omega)]; omega
theorem lt_nat_t {j m : Nat} (h : j < m) : decide ((j : Int) < (m : Int)) = true := by simp; omega
theorem lt_nat_f {j m : Nat} (h : m ≤ j) : decide ((j : Int) < (m : Int)) = false := by simp; omega

/-- It comes to an answer with 'Q'. -/
def EvQ {α : Type} (f : Nat → Option α) (Q : α → Prop) : Prop := ∃ r, Ev f r ∧ Q r
section
variable {α β : Type} {f g : Nat → Option α} {Q Q' : α → Prop}
theorem EvQ.of {r : α} (h : Ev f r) (hq : Q r) : EvQ f Q := ⟨r, h, hq⟩
theorem EvQ.mono (h : EvQ f Q) (hi : ∀ r, Q r → Q' r) : EvQ f Q' := by obtain ⟨r, h1, h2⟩ := h; exact ⟨r, h1, hi r h2⟩
theorem EvQ.succ (h : EvQ (fun n => f (n + 1)) Q) : EvQ f Q := by obtain ⟨r, h1, h2⟩ := h; exact ⟨r, h1.succ, h2⟩
theorem EvQ.done {r : α} (h : Q r) : EvQ (fun _ => some r) Q := ⟨r, .done, h⟩
theorem EvQ.bindN {x : Option β} {g : Nat → β → Option α} {b : β} (h : x = some b) (hg : EvQ (fun n => g n b) Q) : EvQ (fun n => x.bind (g n)) Q := by obtain ⟨r, h1, h2⟩ := hg; exact ⟨r, Ev.bindN h h1, h2⟩
theorem EvQ.bindE {f : Nat → Option β} {g : Nat → β → Option α} {b : β} (h : Ev f b) (hg : EvQ (fun n => g n b) Q) : EvQ (fun n => (f n).bind (g n)) Q := by obtain ⟨r, h1, h2⟩ := hg; exact ⟨r, Ev.bind h h1, h2⟩
theorem EvQ.bind {f : Nat → Option β} {g : Nat → β → Option α} {R : β → Prop} (h : EvQ f R) (hg : ∀ b, R b → EvQ (fun n => g n b) Q) : EvQ (fun n => (f n).bind (g n)) Q := by
  obtain ⟨b, h1, h2⟩ := h
  exact EvQ.bindE h1 (hg b h2)
theorem EvQ.tt {c : Bool} (hc : c = true) (h : EvQ f Q) : EvQ (fun n => bif c then f n else g n) Q := by subst hc; exact h
theorem EvQ.ff {c : Bool} (hc : c = false) (h : EvQ g Q) : EvQ (fun n => bif c then f n else g n) Q := by subst hc; exact h
theorem EvQ.bif {c : Bool} (h1 : c = true → EvQ f Q) (h2 : c = false → EvQ g Q) : EvQ (fun n => bif c then f n else g n) Q := by
  cases c
  · exact h2 rfl
  · exact h1 rfl
end

/-- A size's answer: below zero, or so much is left. -/
def Sz (f : Nat → Option Int) (Q : Int → Prop) : Prop := ∃ r, Ev f r ∧ (r < 0 ∨ (0 ≤ r ∧ Q r))
theorem Sz.step {f : Nat → Option Int} {g : Nat → Int → Option Int} {Q Q' : Int → Prop} (h : Sz f Q) (hg : ∀ r, 0 ≤ r → Q r → Sz (fun n => g n r) Q') : Sz (fun n => (f n).bind fun r => bif decide (r < 0) then some (-1) else g n r) Q' := by
  obtain ⟨r, hr, hq⟩ := h
  by_cases hn : r < 0
  · exact ⟨-1, Ev.bind hr (Ev.tt (by simpa using hn) .done), .inl (by decide)⟩
  · rcases hq with hq | ⟨h0, hq⟩
    · exact absurd hq hn
    · obtain ⟨r', h1, h2⟩ := hg r h0 hq
      exact ⟨r', Ev.bind hr (Ev.ff (by simpa using hn) h1), h2⟩
theorem Sz.done {r : Int} {Q : Int → Prop} (h : 0 ≤ r) (hq : Q r) : Sz (fun _ => some r) Q := ⟨r, .done, .inr ⟨h, hq⟩⟩
theorem Sz.less {left l : Int} {Q : Int → Prop} (h0 : 0 ≤ left) (h1 : left ≤ 1048576) (h2 : 0 ≤ l) (h3 : l ≤ 9223372036854775807) (hq : l ≤ left → Q (left - l)) :
    Sz (fun _ => bif decide (W64 (left - l) < 0) then some (-1) else some (W64 (left - l))) Q := by
  rw [w64_of (by omega) (by omega)]
  by_cases hn : left - l < 0
  · exact ⟨-1, Ev.tt (by simpa using hn) .done, .inl (by decide)⟩
  · exact ⟨_, Ev.ff (by simpa using hn) .done, .inr ⟨by omega, hq (by omega)⟩⟩
end Go.Fw
