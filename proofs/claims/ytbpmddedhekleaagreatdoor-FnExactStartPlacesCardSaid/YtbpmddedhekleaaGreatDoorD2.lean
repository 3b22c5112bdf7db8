/- By a program of mine (gen.py): for each function a plain function and the proof that the code computes it. -/
import Derived.Test.YtbpmddedhekleaaGreatDoorD1
namespace Go.Fw
open Go Go.Proofs
open Go.RowKit (Below)
set_option maxRecDepth 100000
def impl_view_isClockPin (_ : Nat) (v : (Option Tview)) (p : Tplace) : Option Bool :=
  bif decide (p.instance_ ≥ 0) then
    (v).bind fun y1 =>
    (idx y1.Block.Design.Instances p.instance_).bind fun y2 =>
    (idx y1.Block.Library.Cells y2.Cell).bind fun y3 =>
    (idx y3.Pins p.pin).bind fun y4 =>
    some y4.Clock
  else
    some false

theorem impl_view_isClockPin_ok {n : Nat} {w : World} {v : (Option Tview)} {p : Tplace} {cs1 : List Value} (ha1 : GoT.R w (old w) v cs1) {cs2 : List Value} (ha2 : GoT.R w (old w) p cs2) {r : Bool} (hF : impl_view_isClockPin n v p = some r) : RetV Tryz.prog 108 [GoT.v (Option Tview) cs1, GoT.v Tplace cs2] w r := by
  obtain ⟨p1, rfl, s1⟩ := open_ptr ha1
  obtain rfl := open_Tplace ha2
  refine retV_of_run Tryz.func108 rfl (m := 35) rfl rfl (fun h => ?_)
  rw [impl_view_isClockPin] at hF
  refine r_seq (r_region (r_box h rfl rfl ?_))
  intro w1 bb1 h
  refine rp rfl rfl (r_nil (r_seq ?_))
  refine r_draw rfl (by kernel_rfl) ?_
  refine dp rfl rfl ?_
  refine d_v (fun _ hb => v_ld tabOk ((h.box 0 rfl).below hb) (j := 0) rfl rfl rfl) rfl ?_
  refine dp rfl rfl (dp rfl rfl ?_)
  by_cases hc1 : (decide (p.instance_ ≥ 0)) = true
  · replace hF := bifT hc1 hF
    refine d_setT hc1 (t := 8) rfl (d_wanted rfl (dp rfl rfl (d_wanted rfl ?_)))
    obtain ⟨y1, hy1, hF⟩ := bindS hF
    obtain ⟨b1, o_1, cs3, rfl, -, hr1, hc2⟩ := PtR.get s1 hy1
    obtain ⟨p2, k1, p3, k2, p4, k3, p5, k4, p6, k5, p7, k6, p8, k7, p9, k8, p10, k9, p11, k10, rfl, s2, s3, s4, s5, s6, s7, s8, s9, s10, s11⟩ := open_Tview hr1
    refine dp rfl rfl (d_wanted rfl (dp rfl rfl (d_wanted rfl (dp rfl rfl (d_wanted rfl (dp rfl rfl (d_wanted rfl ?_)))))))
    refine d_v (fun _ hb => v_ld tabOk ((hc2.below h.below).below hb) (j := 0) rfl rfl rfl) rfl ?_
    refine d_wanted rfl (dp rfl rfl (d_wanted rfl (dp rfl rfl (d_wanted rfl (dp rfl rfl (d_wanted rfl (dp rfl rfl (d_wanted rfl (dp rfl rfl (d_wanted rfl ?_))))))))))
    refine d_v (fun _ hb => v_ld tabOk ((hc2.below h.below).below hb) (j := 1) rfl rfl rfl) rfl ?_
    refine d_wanted rfl (dp rfl rfl (d_wanted rfl ?_))
    refine d_v (fun _ hb => v_ld tabOk ((h.box 0 rfl).below hb) (j := 0) rfl rfl rfl) rfl ?_
    refine d_wanted rfl ?_
    obtain ⟨y2, hy2, hF⟩ := bindS hF
    have he1 := idx_some hy2
    obtain ⟨b2, o_2, q1, cs4, hp1, hq1, -, hr2, hc3⟩ := s3.at hy2
    obtain ⟨p12, k11, rfl, s12⟩ := open_TInstance hr2
    refine d_v (fun _ hb => v_ix tabOk hp1 hq1 ⟨he1.1, he1.2.1⟩ rfl rfl rfl rfl rfl rfl) rfl ?_
    refine d_wanted rfl (dp rfl rfl (d_wanted rfl ?_))
    refine d_v (fun _ hb => v_ld tabOk ((hc3.below h.below).below hb) (j := 1) rfl rfl rfl) rfl ?_
    refine d_wanted rfl ?_
    obtain ⟨y3, hy3, hF⟩ := bindS hF
    have he2 := idx_some hy3
    obtain ⟨b3, o_3, q2, cs5, hp2, hq2, -, hr3, hc4⟩ := s2.at hy3
    obtain ⟨p13, k12, p14, k13, p15, k14, rfl, s13, s14, s15⟩ := open_TCell hr3
    refine d_v (fun _ hb => v_ix tabOk hp2 hq2 ⟨he2.1, he2.2.1⟩ rfl rfl rfl rfl rfl rfl) rfl ?_
    refine d_wanted rfl (dp rfl rfl (d_wanted rfl ?_))
    refine d_v (fun _ hb => v_ld tabOk ((hc4.below h.below).below hb) (j := 2) rfl rfl rfl) rfl ?_
    refine d_wanted rfl (dp rfl rfl (d_wanted rfl ?_))
    refine d_v (fun _ hb => v_ld tabOk ((h.box 0 rfl).below hb) (j := 1) rfl rfl rfl) rfl ?_
    refine d_wanted rfl ?_
    obtain ⟨y4, hy4, hF⟩ := bindS hF
    have he3 := idx_some hy4
    obtain ⟨b4, o_4, q3, cs6, hp3, hq3, -, hr4, hc5⟩ := s13.at hy4
    obtain rfl := open_TPin hr4
    refine d_v (fun _ hb => v_ix tabOk hp3 hq3 ⟨he3.1, he3.2.1⟩ rfl rfl rfl rfl rfl rfl) rfl ?_
    refine d_wanted rfl (dp rfl rfl (d_wanted rfl ?_))
    refine d_v (fun _ hb => v_ld tabOk ((hc5.below h.below).below hb) (j := 3) rfl rfl rfl) rfl ?_
    refine dp rfl rfl (dp rfl rfl ?_)
    refine d_nil (fun w2 hb => ?_)
    replace h := h.ext hb
    clear hb
    exact r_rB tabOk h hF ⟨rfl, trivial⟩
  replace hc1 := Bool.eq_false_iff.2 hc1
  replace hF := bifF hc1 hF
  refine d_setF hc1 (t := 8) rfl (d_not rfl rfl rfl (d_not rfl rfl rfl (d_not rfl rfl rfl (d_not rfl rfl rfl (d_not rfl rfl rfl (d_not rfl rfl rfl (d_not rfl rfl rfl (d_not rfl rfl rfl (d_not rfl rfl rfl (d_not rfl rfl rfl (d_not rfl rfl rfl ?_)))))))))))
  refine d_not rfl rfl rfl (d_not rfl rfl rfl (d_not rfl rfl rfl (d_not rfl rfl rfl (d_not rfl rfl rfl (d_not rfl rfl rfl (d_not rfl rfl rfl (d_not rfl rfl rfl (d_not rfl rfl rfl (d_not rfl rfl rfl (d_not rfl rfl rfl (d_not rfl rfl rfl ?_)))))))))))
  refine d_not rfl rfl rfl (d_not rfl rfl rfl (dp rfl rfl (dp rfl rfl ?_)))
  refine d_nil (fun w3 hb => ?_)
  replace h := h.ext hb
  clear hb
  exact r_rB tabOk h hF ⟨rfl, trivial⟩

end Go.Fw
