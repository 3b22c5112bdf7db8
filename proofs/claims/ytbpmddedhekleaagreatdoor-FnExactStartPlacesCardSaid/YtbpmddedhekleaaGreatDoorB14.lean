/- Plain laws: start places; the law. -/
import Derived.Test.YtbpmddedhekleaaGreatDoorB12
import Derived.Test.YtbpmddedhekleaaGreatDoorB13
namespace Go.Fw
open Go
set_option maxRecDepth 100000

/-- The places that are chosen, in order. -/
def selL (q : Nat → Bool) (m : Nat) : List Int := ((List.range m).filter q).map fun (i : Nat) => (i : Int)
theorem selL_succ {q : Nat → Bool} {j : Nat} : selL q (j + 1) = selL q j ++ (bif q j then [(j : Int)] else []) := by
  unfold selL
  rw [List.range_succ, List.filter_append, List.map_append]
  congr 1
  cases h : q j <;> simp [h]
theorem selL_len {q : Nat → Bool} {j : Nat} : (selL q j).length ≤ j := by
  unfold selL
  rw [List.length_map]
  exact Nat.le_trans (List.length_filter_le _ _) (by rw [List.length_range]; exact Nat.le_refl _)
theorem selL_app {q : Nat → Bool} {j : Nat} (h : j < 1048576) : appS (selL q j) [(j : Int)] = some (selL q j ++ [(j : Int)]) :=
  appS_ok (by have := selL_len (q := q) (j := j); rw [List.length_singleton]; omega)
/-- A loop that chooses. -/
theorem sel_loop {ρ : Type} {Lf : Nat → List Int → Int → Option ρ} {q : Nat → Bool} {len : Nat} {fin : ρ} (hl : len ≤ 1048576) (hend : Ev (fun n => Lf n (selL q len) (len : Int)) fin)
    (hstep : ∀ j, j < len → ∀ t : List Int, appS t [(j : Int)] = some (t ++ [(j : Int)]) → ∀ X, (q j = true → Ev (fun n => Lf n (t ++ [(j : Int)]) ((j + 1 : Nat) : Int)) X) → (q j = false → Ev (fun n => Lf n t ((j + 1 : Nat) : Int)) X) → Ev (fun n => Lf (n + 1) t (j : Int)) X) :
    Ev (fun n => Lf n [] 0) fin :=
  down (P := fun j => Ev (fun n => Lf n (selL q j) (j : Int)) fin) len hend (fun j hj ih => Ev.succ (hstep j hj _ (selL_app (by omega)) _
    (fun h => by rw [selL_succ, h] at ih; exact ih) (fun h => by rw [selL_succ, h] at ih; simpa using ih)))

theorem l22Count_ev {b : TBlock} (h : blockB b = true) : Ev (fun n => spec_l22Count n b) ((places b.Design).length : Int) := by
  unfold spec_l22Count
  exact Ev.bind (sPlaces_ev (designB_small (blockB_des h))) (Ev.now (by rw [List.length_map]))

def startB (b : TBlock) (p : Tplace) : Bool := bif decide (p.instance_ < 0) then p.drives || clkB b p else clkB b p
def startsL (b : TBlock) : List Int := selL (fun i => startB b (gt (places b.Design) i)) (places b.Design).length

theorem sStarts_ev {b : TBlock} (hok : ok_Block b) (h : blockB b = true) : Ev (fun n => spec_l22Starts n b) (startsL b) := by
  have hl := places_len (designB_small (blockB_des h))
  have hL : Ev (fun n => spec_l22Starts_L1 b n ([] : List Int) 0) (startsL b, ((places b.Design).length : Int)) := by
    refine sel_loop (Lf := spec_l22Starts_L1 b) (q := fun i => startB b (gt (places b.Design) i)) (len := (places b.Design).length) (by omega) (Ev.succ ?_) (fun j hj t ht X h1 h2 => ?_)
    · simp only [spec_l22Starts_L1]
      exact Ev.bind (l22Count_ev h) (Ev.ff (lt_nat_f (Nat.le_refl _)) .done)
    · simp only [spec_l22Starts_L1, w64_succ (show j < 9223372036854775807 by omega), ht, Option.bind_some]
      refine Ev.bind (l22Count_ev h) (Ev.tt (lt_nat_t hj) (Ev.bind (l05At_ev hok h hj) ?_))
      refine Ev.bind (b := startB b (gt (places b.Design) j)) ?_ ?_
      · unfold startB
        refine Ev.iff (fun h0 => ?_) (fun _ => Ev.last (l22Clock_ev hok h hj))
        rcases place_cases hj with ⟨i, k, hi, hk, ej, e⟩ | ⟨i, hi, _, e⟩
        · rw [e] at h0
          exact absurd h0 (by show ¬ decide ((i : Int) < 0) = true; simp)
        · have hc := l22Clock_ev hok h hj
          rw [e] at hc ⊢
          rw [show (toSp (place2 b.Design i)).pin = (i : Int) from rfl, idx_gt hi]
          simp only [Option.bind_some]
          rw [show (place2 b.Design i).drives = ((gt b.Design.Ports i).Dir == 1) from rfl]
          cases ((gt b.Design.Ports i).Dir == 1)
          · exact Ev.last hc
          · exact .done
      · cases hq : startB b (gt (places b.Design) j)
        · exact h2 hq
        · exact h1 hq
  unfold spec_l22Starts
  exact Ev.bind hL .done

def startsR (b : TBlock) : List Int × Int := bif blockB b then (startsL b, 0) else ([], 1)
theorem sStartPlaces_ev {b : TBlock} (hok : ok_Block b) : Ev (fun n => spec_StartPlaces n b) (startsR b) := by
  unfold spec_StartPlaces startsR
  exact Ev.chk1 (sIsBlock_ev hok) fun h => Ev.bind (sStarts_ev hok h) .done
theorem StartPlaces_ev {b : TBlock} (hok : ok_Block b) : Ev (fun n => impl_StartPlaces n b) (startsR b) := by
  unfold impl_StartPlaces
  refine Ev.bind (b := startsR b) ?_ .done
  unfold impl_placesOf_impl_view_isStart startsR
  refine Ev.chk1 (IsBlock_ev hok) fun h => ?_
  obtain ⟨ls, lo, de, e⟩ := newView_ev h
  have hl := places_len (designB_small (blockB_des h))
  refine Ev.bind e ?_
  simp only [Option.bind_some]
  have hL : Ev (fun n => impl_placesOf_impl_view_isStart_L1 (some ⟨b, places b.Design, ls, lo, de, []⟩) ⟨b, places b.Design, ls, lo, de, []⟩ n ([] : List Int) 0) (startsL b, ((places b.Design).length : Int)) := by
    refine sel_loop (Lf := impl_placesOf_impl_view_isStart_L1 (some ⟨b, places b.Design, ls, lo, de, []⟩) ⟨b, places b.Design, ls, lo, de, []⟩) (q := fun i => startB b (gt (places b.Design) i)) (len := (places b.Design).length) (by omega) (Ev.succ ?_) (fun j hj t ht X h1 h2 => ?_)
    · simp only [impl_placesOf_impl_view_isStart_L1]
      exact Ev.ff (lt_nat_f (Nat.le_refl _)) .done
    · simp only [impl_placesOf_impl_view_isStart_L1, w64_succ (show j < 9223372036854775807 by omega), ht, Option.bind_some, lt_nat_t hj, cond_true, idx_gt hj]
      refine Ev.bind (b := startB b (gt (places b.Design) j)) ?_ ?_
      · refine ⟨0, fun n _ => ?_⟩
        show impl_view_isStart n (some ⟨b, places b.Design, ls, lo, de, []⟩) _ = some _
        unfold impl_view_isStart startB
        rw [isClockPin_eq (V := ⟨b, places b.Design, ls, lo, de, []⟩) h rfl hj]
        cases decide ((gt (places b.Design) j).instance_ < 0) <;> cases (gt (places b.Design) j).drives <;> rfl
      · cases hq : startB b (gt (places b.Design) j)
        · exact h2 hq
        · exact h1 hq
  exact Ev.bind hL .done

theorem selL_small {q : Nat → Bool} {m : Nat} (h : m ≤ 78) : (selL q m).length ≤ 1048576 := by
  have := selL_len (q := q) (j := m)
  omega

theorem law_StartPlaces {b : TBlock} (hb : rng_Block b) : Ev (fun n => laws_FnExactStartPlaces n b) true := by
  unfold laws_FnExactStartPlaces
  obtain ⟨r1, e1, q1⟩ := sz_Block (a := b) (left := 1048576) hb (by omega) (by omega)
  refine Ev.bind e1 ?_
  rcases q1 with q1 | ⟨p1, q1⟩
  · exact Ev.tt (by simpa using q1) .done
  · refine Ev.ff (by simp; omega) ?_
    have wb : w_Block b ≤ 1048576 := by omega
    have hok := okof_Block hb wb
    have hlen : w_Int64S (startsR b).1 ≤ 1048576 := by
      unfold startsR w_Int64S
      cases h : blockB b
      · exact Nat.zero_le _
      · exact selL_small (places_len (designB_small (blockB_des h)))
    obtain ⟨k', x, mk, l1, _⟩ := markBlock_mk (a := b) (k := 1) (by omega) (by omega) wb
    have ee : ∀ {c : Bool}, c = false → Ev (fun n => (laws_eqInt64S n (startsR b).1 (startsR b).1).bind fun r => bif (!r) then some true else some ((startsR b).2 != (startsR b).2)) false := fun _ =>
      Ev.bind (eq_Int64S hlen) (Ev.ff rfl (Ev.now (by simp)))
    have ee := ee (c := false) rfl
    have hh := held_ev (k := 1) (m := (startsR b).1.length) (by omega) (by omega) hlen
    refine Ev.bind (to_Block wb) (Ev.bind (sStartPlaces_ev hok) (Ev.bind (to_Block wb) (Ev.bind (StartPlaces_ev hok) (Ev.bind ee (Ev.ff rfl (Ev.bind (to_Block wb) (Ev.bind (eq_Block wb) (Ev.ff rfl (Ev.bind mk ?_)))))))))
    refine Ev.bind (Ev.ff (by simp; omega) ee) (Ev.ff rfl (Ev.bind (markInt_ev (by omega) (by omega) hlen) (Ev.bind hh (Ev.ff (by simp; omega) (Ev.ff not_ne_self (Ev.bind (to_Block wb) (Ev.bind (StartPlaces_ev hok) (Ev.bind ee (Ev.ff rfl (Ev.bind hh (Ev.ff (by simp; omega) (Ev.ff not_ne_self .done))))))))))))
end Go.Fw
