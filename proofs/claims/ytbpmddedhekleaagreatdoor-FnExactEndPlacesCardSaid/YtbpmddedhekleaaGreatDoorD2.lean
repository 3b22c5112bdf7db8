/- By a program of mine (gen.py): for each function a plain function and the proof that the code computes it. -/
import Derived.Test.YtbpmddedhekleaaGreatDoorD1
namespace Go.Fw
open Go Go.Proofs
open Go.RowKit (Below)
set_option maxRecDepth 100000
def impl_Block_cellOf (_ : Nat) (b : TBlock) (a_instance : Int) : Option TCell :=
  (idx b.Design.Instances a_instance).bind fun y1 =>
  (idx b.Library.Cells y1.Cell).bind fun y2 =>
  some y2

theorem impl_Block_cellOf_ok {n : Nat} {w : World} {A : Nat → Prop} (hA : ∀ b, A b → old w b) {b : TBlock} {a_instance : Int} {cs1 : List Value} (ha1 : GoT.R w A b cs1) {r : TCell} (hF : impl_Block_cellOf n b a_instance = some r) : RetG Tryz.prog 115 [GoT.v TBlock cs1, .int .i64 a_instance] w A r := by
  obtain ⟨p1, k1, p2, k2, p3, k3, p4, k4, p5, k5, rfl, s1, s2, s3, s4, s5⟩ := open_TBlock ha1
  have hg := Rg.start hA
  refine retG_of_run Tryz.func115 rfl (m := 17) rfl rfl (fun h => ?_)
  rw [impl_Block_cellOf] at hF
  refine r_seq (r_region (r_box h rfl rfl ?_))
  intro w1 bb1 h
  refine r_alloc tabOk h rfl rfl rfl ?_
  intro w2 bb2 h
  refine r_nil (r_seq ?_)
  refine r_any [] (fun w' => SH w w' [Ch.box bb1 [.slice p1 b.Library.Cells.length k1, .slice p2 b.Design.Instances.length k2, .slice p3 b.Design.Nets.length k3, .slice p4 b.Design.Ports.length k4, .slice p5 b.Wires.length k5] 44]) rfl 13 rfl #[ff, ff, ff, ff, ff, ff, ff, ff, ff, ff, ff, ff, ff] (by kernel_rfl) (fun w3 hb => ?_)
  replace h := h.ext hb
  clear hb
  refine a_take 0 rfl #[tt, ff, ff, ff, ff, ff, ff, ff, ff, ff, ff, ff, ff] (by kernel_rfl) (by kernel_rfl) (fun w' hw => v_p tabOk rfl w') (h.pick [1] rfl) rfl ?_
  refine a_take 1 rfl #[tt, tt, ff, ff, ff, ff, ff, ff, ff, ff, ff, ff, ff] (by kernel_rfl) (by kernel_rfl) (fun w' hw => v_p tabOk rfl w') (h.pick [1] rfl) rfl ?_
  refine a_take 2 rfl #[tt, tt, tt, ff, ff, ff, ff, ff, ff, ff, ff, ff, ff] (by kernel_rfl) (by kernel_rfl) (fun w' hw => v_ld tabOk (hw.box 0 rfl) (j := 0) rfl rfl rfl) (h.pick [1] rfl) rfl ?_
  refine a_take 3 rfl #[tt, tt, tt, tt, ff, ff, ff, ff, ff, ff, ff, ff, ff] (by kernel_rfl) (by kernel_rfl) (fun w' hw => v_p tabOk rfl w') (h.pick [1] rfl) rfl ?_
  refine a_take 4 rfl #[tt, tt, tt, tt, tt, ff, ff, ff, ff, ff, ff, ff, ff] (by kernel_rfl) (by kernel_rfl) (fun w' hw => v_p tabOk rfl w') (h.pick [1] rfl) rfl ?_
  refine a_take 5 rfl #[tt, tt, tt, tt, tt, tt, ff, ff, ff, ff, ff, ff, ff] (by kernel_rfl) (by kernel_rfl) (fun w' hw => v_ld tabOk (hw.box 0 rfl) (j := 1) rfl rfl rfl) (h.pick [1] rfl) rfl ?_
  refine a_take 6 rfl #[tt, tt, tt, tt, tt, tt, tt, ff, ff, ff, ff, ff, ff] (by kernel_rfl) (by kernel_rfl) (fun w' hw => v_p tabOk rfl w') (h.pick [1] rfl) rfl ?_
  obtain ⟨y1, hy1, hF⟩ := bindS hF
  have he1 := idx_some hy1
  obtain ⟨b1, o_1, q1, cs2, hp1, hq1, -, hr1, hc1⟩ := s2.at hy1
  obtain ⟨p6, k6, rfl, s6⟩ := open_TInstance hr1
  refine a_take 7 rfl #[tt, tt, tt, tt, tt, tt, tt, tt, ff, ff, ff, ff, ff] (by kernel_rfl) (by kernel_rfl) (fun w' hw => v_ix tabOk hp1 hq1 ⟨he1.1, he1.2.1⟩ rfl rfl rfl rfl rfl rfl) (h.pick [1] rfl) rfl ?_
  refine a_take 8 rfl #[tt, tt, tt, tt, tt, tt, tt, tt, tt, ff, ff, ff, ff] (by kernel_rfl) (by kernel_rfl) (fun w' hw => v_p tabOk rfl w') (h.pick [1] rfl) rfl ?_
  refine a_take 9 rfl #[tt, tt, tt, tt, tt, tt, tt, tt, tt, tt, ff, ff, ff] (by kernel_rfl) (by kernel_rfl) (fun w' hw => v_ld tabOk (hc1.below hw.below) (j := 1) rfl rfl rfl) (h.pick [1] rfl) rfl ?_
  obtain ⟨y2, hy2, hF⟩ := bindS hF
  have he2 := idx_some hy2
  obtain ⟨b2, o_2, q2, cs3, hp2, hq2, -, hr2, hc2⟩ := s1.at hy2
  obtain ⟨p7, k7, p8, k8, p9, k9, rfl, s7, s8, s9⟩ := open_TCell hr2
  refine a_take 10 rfl #[tt, tt, tt, tt, tt, tt, tt, tt, tt, tt, tt, ff, ff] (by kernel_rfl) (by kernel_rfl) (fun w' hw => v_ix tabOk hp2 hq2 ⟨he2.1, he2.2.1⟩ rfl rfl rfl rfl rfl rfl) (h.pick [1] rfl) rfl ?_
  refine a_take 11 rfl #[tt, tt, tt, tt, tt, tt, tt, tt, tt, tt, tt, tt, ff] (by kernel_rfl) (by kernel_rfl) (fun w' hw => v_ld tabOk (hc2.below hw.below) (j := 0) rfl rfl rfl) (h.pick [1] rfl) rfl ?_
  refine a_only 12 rfl #[tt, tt, tt, tt, tt, tt, tt, tt, tt, tt, tt, tt, tt] (by kernel_rfl) (by kernel_rfl) ?_
  refine r_stbox tabOk 0 h rfl rfl rfl rfl rfl rfl rfl ?_
  intro w4 h
  replace h : SH _ _ [Ch.box bb2 [.string y2.Name, .int .i64 y2.Kind, .slice p7 y2.Pins.length k7, .slice p8 y2.Arcs.length k8, .slice p9 y2.Truth.length k9, .int .i64 y2.Leak, .int .i64 y2.Energy] 70, Ch.box bb1 [.slice p1 b.Library.Cells.length k1, .slice p2 b.Design.Instances.length k2, .slice p3 b.Design.Nets.length k3, .slice p4 b.Design.Ports.length k4, .slice p5 b.Wires.length k5] 44] := h
  refine a_goal (fun _ => (h.pick [1] rfl)) ?_
  refine a_done (by kernel_rfl) ?_
  obtain rfl := someI hF
  have hv1 : GoRs.Rs _ (reg A w _) y2 [GoT.v TCell [.string y2.Name, .int .i64 y2.Kind, .slice p7 y2.Pins.length k7, .slice p8 y2.Arcs.length k8, .slice p9 y2.Truth.length k9, .int .i64 y2.Leak, .int .i64 y2.Energy]] := ⟨_, rfl, (hg.outR h (mkR_TCell y2 (hg.inS h s7) (hg.inS h s8) (hg.inS h s9)))⟩
  exact r_retG tabOk (ρ := TCell) (r := y2) [GoT.v TCell [.string y2.Name, .int .i64 y2.Kind, .slice p7 y2.Pins.length k7, .slice p8 y2.Arcs.length k8, .slice p9 y2.Truth.length k9, .int .i64 y2.Leak, .int .i64 y2.Energy]] h ⟨⟨_, _, _, rfl, rfl, h.box 0 rfl, rfl⟩, trivial⟩ hv1

end Go.Fw
