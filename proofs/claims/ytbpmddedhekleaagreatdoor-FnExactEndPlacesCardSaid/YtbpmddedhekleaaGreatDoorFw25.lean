/- Plain laws: the laws' own helpers on lists of whatever. -/
import Derived.Test.YtbpmddedhekleaaGreatDoorFw24
namespace Go.Fw
open Go

theorem sz_loop {α : Type} {a : List α} {wt : α → Nat} {Lf : Nat → Int → Int → Option (Flow Int (Int × Int))} {el : Nat → α → Int → Option Int}
    (hel : ∀ x, x ∈ a → ∀ left : Int, 0 ≤ left → left ≤ 1048576 → Sz (fun n => el n x left) (fun r => r = left - (wt x : Int)))
    (hend : ∀ (acc : Int) n, Lf (n + 1) acc (a.length : Int) = some (.nxt (acc, (a.length : Int))))
    (hstep : ∀ (acc : Int) (n j : Nat) (x : α), a[j]? = some x → Lf (n + 1) acc (j : Int) = (el n x acc).bind fun r => bif decide (r < 0) then some (.ret (-1)) else Lf n r ((j + 1 : Nat) : Int)) :
    ∀ left : Int, 0 ≤ left → left ≤ 1048576 → ∃ o, Ev (fun n => Lf n left 0) o ∧ (o = .ret (-1) ∨ ∃ r : Int, 0 ≤ r ∧ r = left - ((a.map wt).sum : Nat) ∧ o = .nxt (r, (a.length : Int))) := by
  have main : ∀ k j, j + k = a.length → ∀ left : Int, 0 ≤ left → left ≤ 1048576 → ∃ o, Ev (fun n => Lf n left (j : Int)) o ∧ (o = .ret (-1) ∨ ∃ r : Int, 0 ≤ r ∧ r = left - (((a.drop j).map wt).sum : Nat) ∧ o = .nxt (r, (a.length : Int))) := by
    intro k
    induction k with
    | zero =>
      intro j hj left h0 h1
      obtain rfl : j = a.length := by omega
      exact ⟨_, Ev.step (hend left) .done, .inr ⟨left, h0, by simp, rfl⟩⟩
    | succ k ih =>
      intro j hj left h0 h1
      have hlt : j < a.length := by omega
      have hx : a[j]? = some a[j] := List.getElem?_eq_getElem hlt
      obtain ⟨r, hr, hq⟩ := hel a[j] (List.getElem_mem hlt) left h0 h1
      have hd : a.drop j = a[j] :: a.drop (j + 1) := List.drop_eq_getElem_cons hlt
      by_cases hn : r < 0
      · exact ⟨.ret (-1), Ev.step (fun n => hstep left n j a[j] hx) (Ev.bind hr (Ev.tt (by simpa using hn) .done)), .inl rfl⟩
      · rcases hq with hq | ⟨hq0, hq⟩
        · exact absurd hq hn
        · obtain ⟨o, ho, hc⟩ := ih (j + 1) (by omega) r hq0 (by omega)
          refine ⟨o, Ev.step (fun n => hstep left n j a[j] hx) (Ev.bind hr (Ev.ff (by simpa using hn) ho)), hc.imp id ?_⟩
          rintro ⟨r', h2, h3, h4⟩
          refine ⟨r', h2, ?_, h4⟩
          rw [hd, List.map_cons, List.sum_cons, h3, hq]
          omega
  intro left h0 h1
  have := main a.length 0 (by omega) left h0 h1
  simpa using this

theorem Sz.list {α : Type} {a : List α} {wt : α → Nat} {Lf : Nat → Int → Int → Option (Flow Int (Int × Int))} {el : Nat → α → Int → Option Int} {left : Int} (h0 : 0 ≤ left) (h1 : left ≤ 1048576) (hl : a.length ≤ 9223372036854775807)
    (hel : ∀ x, x ∈ a → ∀ left : Int, 0 ≤ left → left ≤ 1048576 → Sz (fun n => el n x left) (fun r => r = left - (wt x : Int)))
    (hend : ∀ (acc : Int) n, Lf (n + 1) acc (a.length : Int) = some (.nxt (acc, (a.length : Int))))
    (hstep : ∀ (acc : Int) (n j : Nat) (x : α), a[j]? = some x → Lf (n + 1) acc (j : Int) = (el n x acc).bind fun r => bif decide (r < 0) then some (.ret (-1)) else Lf n r ((j + 1 : Nat) : Int))
    {F : Nat → Option Int} (hF : ∀ n, F n = bif decide (W64 (left - (a.length : Int)) < 0) then some (-1) else (Lf n (W64 (left - (a.length : Int))) 0).bind fun o => match o with | .ret r => some r | .nxt (i1, _) => some i1) :
    Sz F (fun r => r = left - ((a.length + (a.map wt).sum : Nat) : Int)) := by
  have hw : W64 (left - (a.length : Int)) = left - (a.length : Int) := w64_of (by omega) (by omega)
  by_cases hn : left - (a.length : Int) < 0
  · exact ⟨-1, Ev.congr hF (Ev.tt (by rw [hw]; simpa using hn) .done), .inl (by decide)⟩
  · obtain ⟨o, ho, hc⟩ := sz_loop hel hend hstep (left - (a.length : Int)) (by omega) (by omega)
    rcases hc with rfl | ⟨r, hr0, hr, rfl⟩
    · refine ⟨-1, Ev.congr hF (Ev.ff (by rw [hw]; simpa using hn) ?_), .inl (by decide)⟩
      rw [hw]
      exact Ev.bind ho .done
    · refine ⟨r, Ev.congr hF (Ev.ff (by rw [hw]; simpa using hn) ?_), .inr ⟨hr0, by omega⟩⟩
      rw [hw]
      exact Ev.bind ho .done

theorem Sz.str {s : ByteArray} {left : Int} (h : s.size ≤ 9223372036854775807) (h0 : 0 ≤ left) (h1 : left ≤ 1048576) : Sz (fun _ => some (W64 (left - (s.size : Int)))) (fun r => r = left - (s.size : Int)) := by
  rw [w64_of (by omega) (by omega)]
  refine ⟨_, .done, ?_⟩
  by_cases hn : left - (s.size : Int) < 0
  · exact .inl hn
  · exact .inr ⟨by omega, rfl⟩
theorem Sz.strStep {s : ByteArray} {left : Int} {g : Nat → Option Int} {Q' : Int → Prop} (h : s.size ≤ 9223372036854775807) (h0 : 0 ≤ left) (h1 : left ≤ 1048576) (hg : 0 ≤ W64 (left - (s.size : Int)) → W64 (left - (s.size : Int)) = left - (s.size : Int) → Sz (fun n => g n) Q')
    : Sz (fun n => bif decide (W64 (left - (s.size : Int)) < 0) then some (-1) else g n) Q' := by
  have hw : W64 (left - (s.size : Int)) = left - (s.size : Int) := w64_of (by omega) (by omega)
  by_cases hn : W64 (left - (s.size : Int)) < 0
  · exact ⟨-1, Ev.tt (by simpa using hn) .done, .inl (by decide)⟩
  · obtain ⟨r, hr, hq⟩ := hg (by omega) hw
    exact ⟨r, Ev.ff (by simpa using hn) hr, hq⟩

theorem to_loop {α : Type} {a : List α} {z : α} {Lf : Nat → List α → Int → Option (List α × Int)} {cp : Nat → α → Option α} (hcp : ∀ x, x ∈ a → Ev (fun n => cp n x) x)
    (hend : ∀ acc n, Lf (n + 1) acc (a.length : Int) = some (acc, (a.length : Int)))
    (hstep : ∀ (acc : List α) (n j : Nat) (x y : α), a[j]? = some x → acc[j]? = some y → Lf (n + 1) acc (j : Int) = (cp n x).bind fun r => Lf n (setS acc (j : Int) r) ((j + 1 : Nat) : Int)) :
    Ev (fun n => Lf n (padS a z 0) 0) (a, (a.length : Int)) := by
  refine down (P := fun j => Ev (fun n => Lf n (padS a z j) (j : Int)) (a, (a.length : Int))) a.length ?_ (fun j hj ih => ?_)
  · refine Ev.step (fun n => hend _ n) ?_
    rw [padS_full]
    exact .done
  · have hx : a[j]? = some a[j] := List.getElem?_eq_getElem hj
    have hlt : j < (padS a z j).length := by rw [padS_len (by omega)]; exact hj
    refine Ev.step (fun n => hstep _ n j _ _ hx (List.getElem?_eq_getElem hlt)) (Ev.bind (hcp _ (List.getElem_mem hj)) ?_)
    rw [padS_set hj]
    exact ih

theorem eq_loop {α : Type} {a : List α} {Lf : Nat → Int → Option (Flow Bool Int)} {eqf : Nat → α → α → Option Bool} (heq : ∀ x, x ∈ a → Ev (fun n => eqf n x x) true)
    (hend : ∀ n, Lf (n + 1) (a.length : Int) = some (.nxt (a.length : Int)))
    (hstep : ∀ (n j : Nat) (x : α), a[j]? = some x → Lf (n + 1) (j : Int) = (eqf n x x).bind fun r => bif (!r) then some (.ret false) else Lf n ((j + 1 : Nat) : Int)) :
    Ev (fun n => Lf n 0) (.nxt (a.length : Int)) := by
  refine down (P := fun j => Ev (fun n => Lf n (j : Int)) (.nxt (a.length : Int))) a.length ?_ (fun j hj ih => ?_)
  · exact Ev.step (fun n => hend n) .done
  · exact Ev.step (fun n => hstep n j _ (List.getElem?_eq_getElem hj)) (Ev.bind (heq _ (List.getElem_mem hj)) (Ev.ff rfl ih))

/-! ### Lists that are not too long -/

def okI (x : Int) : Prop := -9223372036854775808 ≤ x ∧ x ≤ 9223372036854775807
def okS (s : ByteArray) : Prop := s.size ≤ 1048576
def okL {α : Type} (ok : α → Prop) (xs : List α) : Prop := xs.length ≤ 1048576 ∧ ∀ x, x ∈ xs → ok x
def okT (_ : Bool) : Prop := True
theorem okL.len {α : Type} {ok : α → Prop} {xs : List α} (h : okL ok xs) : xs.length ≤ 1048576 := h.1
theorem okL.get {α : Type} {ok : α → Prop} {xs : List α} (h : okL ok xs) {j : Nat} {x : α} (hx : xs[j]? = some x) : ok x := h.2 x (List.mem_of_getElem? hx)
theorem okL.at {α : Type} {ok : α → Prop} {xs : List α} (h : okL ok xs) {j : Nat} (hj : j < xs.length) : ok xs[j] := h.2 _ (List.getElem_mem hj)

theorem sum_le {α : Type} {wt : α → Nat} {xs : List α} {x : α} (h : x ∈ xs) : wt x ≤ (xs.map wt).sum := by
  induction xs with
  | nil => cases h
  | cons y ys ih =>
    rw [List.map_cons, List.sum_cons]
    rcases List.mem_cons.1 h with rfl | h
    · omega
    · have := ih h; omega
end Go.Fw
