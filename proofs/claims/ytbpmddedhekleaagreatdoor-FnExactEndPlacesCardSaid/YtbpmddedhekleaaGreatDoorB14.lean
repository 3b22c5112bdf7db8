/- Plain laws: start places; the law. -/
import Derived.Test.YtbpmddedhekleaaGreatDoorB12
import Derived.Test.YtbpmddedhekleaaGreatDoorB13
namespace Go.Fw
open Go
set_option maxRecDepth 100000

/-- The places that are chosen, in order. -/
def selL (q : Nat → Bool) (m : Nat) : List Int := ((List.range m).filter q).map fun (i : Nat) => (i : Int)
theorem selL_succ {q : Nat → Bool} {j : Nat} : selL q (j + 1) = selL q j ++ (bif q j then [(j : Int)] else []) := by
  unfold selL
  rw [List.range_succ, List.filter_append, List.map_append]
  congr 1
  cases h : q j <;> simp [h]
theorem selL_len {q : Nat → Bool} {j : Nat} : (selL q j).length ≤ j := by
  unfold selL
  rw [List.length_map]
  exact Nat.le_trans (List.length_filter_le _ _) (by rw [List.length_range]; exact Nat.le_refl _)
theorem selL_app {q : Nat → Bool} {j : Nat} (h : j < 1048576) : appS (selL q j) [(j : Int)] = some (selL q j ++ [(j : Int)]) :=
  appS_ok (by have := selL_len (q := q) (j := j); rw [List.length_singleton]; omega)
/-- A loop that chooses. -/
theorem sel_loop {ρ : Type} {Lf : Nat → List Int → Int → Option ρ} {q : Nat → Bool} {len : Nat} {fin : ρ} (hl : len ≤ 1048576) (hend : Ev (fun n => Lf n (selL q len) (len : Int)) fin)
    (hstep : ∀ j, j < len → ∀ t : List Int, appS t [(j : Int)] = some (t ++ [(j : Int)]) → ∀ X, (q j = true → Ev (fun n => Lf n (t ++ [(j : Int)]) ((j + 1 : Nat) : Int)) X) → (q j = false → Ev (fun n => Lf n t ((j + 1 : Nat) : Int)) X) → Ev (fun n => Lf (n + 1) t (j : Int)) X) :
    Ev (fun n => Lf n [] 0) fin :=
  down (P := fun j => Ev (fun n => Lf n (selL q j) (j : Int)) fin) len hend (fun j hj ih => Ev.succ (hstep j hj _ (selL_app (by omega)) _
    (fun h => by rw [selL_succ, h] at ih; exact ih) (fun h => by rw [selL_succ, h] at ih; simpa using ih)))

theorem l22Count_ev {b : TBlock} (h : blockB b = true) : Ev (fun n => spec_l22Count n b) ((places b.Design).length : Int) := by
  unfold spec_l22Count
  exact Ev.bind (sPlaces_ev (designB_small (blockB_des h))) (Ev.now (by rw [List.length_map]))

theorem selL_small {q : Nat → Bool} {m : Nat} (h : m ≤ 78) : (selL q m).length ≤ 1048576 := by
  have := selL_len (q := q) (j := m)
  omega

end Go.Fw
