/- Plain laws: successors in the data graph; data paths. -/
import Derived.Test.YtbpmddedhekleaaGreatDoorB11
namespace Go.Fw
open Go
set_option maxRecDepth 100000

theorem l05At_ev {b : TBlock} {j : Nat} (hok : ok_Block b) (h : blockB b = true) (hj : j < (places b.Design).length) : Ev (fun n => spec_l05At n b.Library b.Design (j : Int)) (toSp (gt (places b.Design) j), true) := by
  have hd := blockB_des h
  have hs := designB_small hd
  have hl := places_len hs
  unfold spec_l05At
  refine Ev.bind (sIsDesign_ev hok.Library hok.Design) (Ev.ff (by rw [hd]; rfl) (Ev.bind (sPlaces_ev hs) ?_))
  simp only [l01In_eq, Option.bind_some, List.length_map, w64_pred (show (places b.Design).length ≤ 9223372036854775807 by omega)]
  rw [show inI (j : Int) 0 (((places b.Design).length : Int) - 1) = true from inI_iff.2 ⟨by omega, by omega⟩]
  simp only [Bool.not_true, cond_false]
  rw [idx_gt (show j < ((places b.Design).map toSp).length by simpa using hj), gt_map hj]
  exact .done

/-! ### Successors -/

/-! ### Data paths -/

end Go.Fw
