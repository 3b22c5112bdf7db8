/- By a program of mine (gen.py): for each function a plain function and the proof that the code computes it. -/
import Derived.Test.YtbpmddedhekleaaGreatDoorA4
namespace Go.Fw
open Go Go.Proofs
open Go.RowKit (Below)
set_option maxRecDepth 100000
def spec_l22Count (n : Nat) (b : TBlock) : Option Int :=
  (spec_l05Places n (⟨b.Design.Instances, b.Design.Nets, b.Design.Ports⟩ : TDesign)).bind fun r1 =>
  some (r1.length : Int)

theorem spec_l22Count_ok {n : Nat} {w : World} {b : TBlock} {cs1 : List Value} (ha1 : GoT.R w (old w) b cs1) {r : Int} (hF : spec_l22Count n b = some r) : RetV Tryz.prog 51 [GoT.v TBlock cs1] w r := by
  obtain ⟨p1, k1, p2, k2, p3, k3, p4, k4, p5, k5, rfl, s1, s2, s3, s4, s5⟩ := open_TBlock ha1
  refine retV_of_run Tryz.func51 rfl (m := 7) rfl rfl (fun h => ?_)
  rw [spec_l22Count] at hF
  refine r_seq (r_region (r_box h rfl rfl ?_))
  intro w1 bb1 h
  refine rp rfl rfl (r_nil (r_seq (r_region (rp rfl rfl (r_v (v_ld tabOk (h.box 0 rfl) (j := 1) rfl rfl rfl) rfl ?_)))))
  obtain ⟨r1, hr1, hF⟩ := bindS hF
  refine r_callL r1 h call93 (spec_l05Places_ok (mkR_TDesign (⟨b.Design.Instances, b.Design.Nets, b.Design.Ports⟩ : TDesign) (h.oldS s2) (h.oldS s3) (h.oldS s4)) hr1) rfl rfl rfl rfl ?_
  intro w2 S1 p6 k6 h
  exact rp rfl rfl (rp rfl rfl (r_nil (r_rI tabOk h hF ⟨rfl, trivial⟩)))

def spec_l05At (n : Nat) (l : TLibrary) (d : TDesign) (place : Int) : Option (Tl05Place × Bool) :=
  (spec_IsDesign n l d).bind fun r1 =>
  bif (!r1) then
    some ((⟨0, 0, 0, false⟩ : Tl05Place), false)
  else
    (spec_l05Places n d).bind fun r2 =>
    (spec_l01In n place 0 (W64 ((r2.length : Int) - 1))).bind fun r3 =>
    bif (!r3) then
      some ((⟨0, 0, 0, false⟩ : Tl05Place), false)
    else
      (idx r2 place).bind fun y1 =>
      some (y1, true)

theorem spec_l05At_ok {n : Nat} {w : World} {l : TLibrary} {d : TDesign} {place : Int} {cs1 : List Value} (ha1 : GoT.R w (old w) l cs1) {cs2 : List Value} (ha2 : GoT.R w (old w) d cs2) {r : (Tl05Place × Bool)} (hF : spec_l05At n l d place = some r) : RetV Tryz.prog 94 [GoT.v TLibrary cs1, GoT.v TDesign cs2, .int .i64 place] w r := by
  obtain ⟨p1, k1, rfl, s1⟩ := open_TLibrary ha1
  obtain ⟨p2, k2, p3, k3, p4, k4, rfl, s2, s3, s4⟩ := open_TDesign ha2
  refine retV_of_run Tryz.func94 rfl (m := 27) rfl rfl (fun h => ?_)
  rw [spec_l05At] at hF
  refine r_seq (r_region (r_box h rfl rfl ?_))
  intro w1 bb1 h
  refine r_box h rfl rfl ?_
  intro w2 bb2 h
  refine r_alloc tabOk h rfl rfl rfl ?_
  intro w3 bb3 h
  refine rp rfl rfl (r_nil (r_seq (r_seq (r_region (r_v (v_ld tabOk (h.box 2 rfl) (j := 0) rfl rfl rfl) rfl (r_v (v_ld tabOk (h.box 1 rfl) (j := 0) rfl rfl rfl) rfl ?_))))))
  obtain ⟨r1, hr1, hF⟩ := bindS hF
  refine r_callB r1 h call69 (spec_IsDesign_ok (h.old ha1) (h.old ha2) hr1) rfl rfl rfl rfl ?_
  intro w4 h
  refine rp rfl rfl (r_nil ?_)
  refine r_if rfl hF (fun hF => ?_) (fun hF => ?_)
  · refine r_seq (r_region (r_v (v_build tabOk [] [] rfl rfl rfl rfl rfl rfl rfl rfl) rfl (r_stbox tabOk 0 h rfl rfl rfl rfl rfl rfl rfl ?_)))
    intro w5 h
    refine rp rfl rfl (r_nil ?_)
    obtain rfl := someI hF
    exact r_retV tabOk (ρ := (Tl05Place × Bool)) [GoT.v Tl05Place [.int .i64 0, .int .i64 0, .int .i64 0, .bool false], GoT.v Bool [.bool false]] h ⟨⟨_, _, _, rfl, rfl, h.box 0 rfl, rfl⟩, rfl, trivial⟩ (PV.done h (pv_cons h (po_flat (S := fun _ => False) (mkR_Tl05Place (⟨0, 0, 0, false⟩ : Tl05Place))) (pv_one (po_flat (S := fun _ => False) rfl)) (by rfl)))
  refine r_skip (r_seq (r_region (r_v (v_ld tabOk (h.box 1 rfl) (j := 0) rfl rfl rfl) rfl ?_)))
  obtain ⟨r2, hr2, hF⟩ := bindS hF
  refine r_callL r2 h call93 (spec_l05Places_ok (h.old ha2) hr2) rfl rfl rfl rfl ?_
  intro w6 S1 p5 k5 h
  refine rp rfl rfl (r_nil (r_seq (r_seq (r_region (rp rfl rfl (rp rfl rfl (rp rfl rfl (rp rfl rfl ?_))))))))
  obtain ⟨r3, hr3, hF⟩ := bindS hF
  refine r_callB r3 h call50 (spec_l01In_ok hr3) rfl rfl rfl rfl ?_
  intro w7 h
  refine rp rfl rfl (r_nil ?_)
  refine r_if rfl hF (fun hF => ?_) (fun hF => ?_)
  · refine r_seq (r_region (r_v (v_build tabOk [] [] rfl rfl rfl rfl rfl rfl rfl rfl) rfl (r_stbox tabOk 1 h rfl rfl rfl rfl rfl rfl rfl ?_)))
    intro w8 h
    replace h : SH _ _ [Ch.own S1 (r2 : List Tl05Place) [.slice p5 r2.length k5], Ch.box bb3 [.int .i64 0, .int .i64 0, .int .i64 0, .bool false] 140, Ch.box bb2 [.slice p2 d.Instances.length k2, .slice p3 d.Nets.length k3, .slice p4 d.Ports.length k4] 41, Ch.box bb1 [.slice p1 l.Cells.length k1] 37] := h
    refine rp rfl rfl (r_nil ?_)
    obtain rfl := someI hF
    exact r_retV tabOk (ρ := (Tl05Place × Bool)) [GoT.v Tl05Place [.int .i64 0, .int .i64 0, .int .i64 0, .bool false], GoT.v Bool [.bool false]] h ⟨⟨_, _, _, rfl, rfl, h.box 1 rfl, rfl⟩, rfl, trivial⟩ (PV.done h (pv_cons h (po_flat (S := fun _ => False) (mkR_Tl05Place (⟨0, 0, 0, false⟩ : Tl05Place))) (pv_one (po_flat (S := fun _ => False) rfl)) (by rfl)))
  refine r_skip (r_seq (r_region (rp rfl rfl (rp rfl rfl ?_))))
  obtain ⟨y1, hy1, hF⟩ := bindS hF
  have he1 := idx_some hy1
  obtain ⟨b1, o_1, q1, cs3, hp1, hq1, -, hr4, hc3⟩ := (h.sl 0 rfl).1.at hy1
  obtain rfl := open_Tl05Place hr4
  refine r_v (v_ix tabOk hp1 hq1 ⟨he1.1, lt_ln he1.2.1 (h.sl 0 rfl).2⟩ rfl rfl rfl rfl rfl rfl) rfl (r_v (v_ld tabOk hc3 (j := 0) rfl rfl rfl) rfl (r_stbox tabOk 1 h rfl rfl rfl rfl rfl rfl rfl ?_))
  intro w9 h
  refine rp rfl rfl (r_nil ?_)
  obtain rfl := someI hF
  exact r_retV tabOk (ρ := (Tl05Place × Bool)) [GoT.v Tl05Place [.int .i64 y1.instance_, .int .i64 y1.pin, .int .i64 y1.net, .bool y1.drives], GoT.v Bool [.bool true]] h ⟨⟨_, _, _, rfl, rfl, h.box 1 rfl, rfl⟩, rfl, trivial⟩ (PV.done h (pv_cons h (po_flat (S := fun _ => False) (mkR_Tl05Place y1)) (pv_one (po_flat (S := fun _ => False) rfl)) (by rfl)))

def spec_l22Cell (_ : Nat) (b : TBlock) (a_instance : Int) : Option TCell :=
  (idx b.Design.Instances a_instance).bind fun y1 =>
  (idx b.Library.Cells y1.Cell).bind fun y2 =>
  some y2

theorem spec_l22Cell_ok {n : Nat} {w : World} {A : Nat → Prop} (hA : ∀ b, A b → old w b) {b : TBlock} {a_instance : Int} {cs1 : List Value} (ha1 : GoT.R w A b cs1) {r : TCell} (hF : spec_l22Cell n b a_instance = some r) : RetG Tryz.prog 98 [GoT.v TBlock cs1, .int .i64 a_instance] w A r := by
  obtain ⟨p1, k1, p2, k2, p3, k3, p4, k4, p5, k5, rfl, s1, s2, s3, s4, s5⟩ := open_TBlock ha1
  have hg := Rg.start hA
  refine retG_of_run Tryz.func98 rfl (m := 17) rfl rfl (fun h => ?_)
  rw [spec_l22Cell] at hF
  refine r_seq (r_region (r_box h rfl rfl ?_))
  intro w1 bb1 h
  refine r_alloc tabOk h rfl rfl rfl ?_
  intro w2 bb2 h
  refine r_nil (r_seq ?_)
  refine r_any [] (fun w' => SH w w' [Ch.box bb1 [.slice p1 b.Library.Cells.length k1, .slice p2 b.Design.Instances.length k2, .slice p3 b.Design.Nets.length k3, .slice p4 b.Design.Ports.length k4, .slice p5 b.Wires.length k5] 44]) rfl 13 rfl #[ff, ff, ff, ff, ff, ff, ff, ff, ff, ff, ff, ff, ff] (by kernel_rfl) (fun w3 hb => ?_)
  replace h := h.ext hb
  clear hb
  refine a_take 0 rfl #[tt, ff, ff, ff, ff, ff, ff, ff, ff, ff, ff, ff, ff] (by kernel_rfl) (by kernel_rfl) (fun w' hw => v_p tabOk rfl w') (h.pick [1] rfl) rfl ?_
  refine a_take 1 rfl #[tt, tt, ff, ff, ff, ff, ff, ff, ff, ff, ff, ff, ff] (by kernel_rfl) (by kernel_rfl) (fun w' hw => v_p tabOk rfl w') (h.pick [1] rfl) rfl ?_
  refine a_take 2 rfl #[tt, tt, tt, ff, ff, ff, ff, ff, ff, ff, ff, ff, ff] (by kernel_rfl) (by kernel_rfl) (fun w' hw => v_ld tabOk (hw.box 0 rfl) (j := 0) rfl rfl rfl) (h.pick [1] rfl) rfl ?_
  refine a_take 3 rfl #[tt, tt, tt, tt, ff, ff, ff, ff, ff, ff, ff, ff, ff] (by kernel_rfl) (by kernel_rfl) (fun w' hw => v_p tabOk rfl w') (h.pick [1] rfl) rfl ?_
  refine a_take 4 rfl #[tt, tt, tt, tt, tt, ff, ff, ff, ff, ff, ff, ff, ff] (by kernel_rfl) (by kernel_rfl) (fun w' hw => v_p tabOk rfl w') (h.pick [1] rfl) rfl ?_
  refine a_take 5 rfl #[tt, tt, tt, tt, tt, tt, ff, ff, ff, ff, ff, ff, ff] (by kernel_rfl) (by kernel_rfl) (fun w' hw => v_ld tabOk (hw.box 0 rfl) (j := 1) rfl rfl rfl) (h.pick [1] rfl) rfl ?_
  refine a_take 6 rfl #[tt, tt, tt, tt, tt, tt, tt, ff, ff, ff, ff, ff, ff] (by kernel_rfl) (by kernel_rfl) (fun w' hw => v_p tabOk rfl w') (h.pick [1] rfl) rfl ?_
  obtain ⟨y1, hy1, hF⟩ := bindS hF
  have he1 := idx_some hy1
  obtain ⟨b1, o_1, q1, cs2, hp1, hq1, -, hr1, hc1⟩ := s2.at hy1
  obtain ⟨p6, k6, rfl, s6⟩ := open_TInstance hr1
  refine a_take 7 rfl #[tt, tt, tt, tt, tt, tt, tt, tt, ff, ff, ff, ff, ff] (by kernel_rfl) (by kernel_rfl) (fun w' hw => v_ix tabOk hp1 hq1 ⟨he1.1, he1.2.1⟩ rfl rfl rfl rfl rfl rfl) (h.pick [1] rfl) rfl ?_
  refine a_take 8 rfl #[tt, tt, tt, tt, tt, tt, tt, tt, tt, ff, ff, ff, ff] (by kernel_rfl) (by kernel_rfl) (fun w' hw => v_p tabOk rfl w') (h.pick [1] rfl) rfl ?_
  refine a_take 9 rfl #[tt, tt, tt, tt, tt, tt, tt, tt, tt, tt, ff, ff, ff] (by kernel_rfl) (by kernel_rfl) (fun w' hw => v_ld tabOk (hc1.below hw.below) (j := 1) rfl rfl rfl) (h.pick [1] rfl) rfl ?_
  obtain ⟨y2, hy2, hF⟩ := bindS hF
  have he2 := idx_some hy2
  obtain ⟨b2, o_2, q2, cs3, hp2, hq2, -, hr2, hc2⟩ := s1.at hy2
  obtain ⟨p7, k7, p8, k8, p9, k9, rfl, s7, s8, s9⟩ := open_TCell hr2
  refine a_take 10 rfl #[tt, tt, tt, tt, tt, tt, tt, tt, tt, tt, tt, ff, ff] (by kernel_rfl) (by kernel_rfl) (fun w' hw => v_ix tabOk hp2 hq2 ⟨he2.1, he2.2.1⟩ rfl rfl rfl rfl rfl rfl) (h.pick [1] rfl) rfl ?_
  refine a_take 11 rfl #[tt, tt, tt, tt, tt, tt, tt, tt, tt, tt, tt, tt, ff] (by kernel_rfl) (by kernel_rfl) (fun w' hw => v_ld tabOk (hc2.below hw.below) (j := 0) rfl rfl rfl) (h.pick [1] rfl) rfl ?_
  refine a_only 12 rfl #[tt, tt, tt, tt, tt, tt, tt, tt, tt, tt, tt, tt, tt] (by kernel_rfl) (by kernel_rfl) ?_
  refine r_stbox tabOk 0 h rfl rfl rfl rfl rfl rfl rfl ?_
  intro w4 h
  replace h : SH _ _ [Ch.box bb2 [.string y2.Name, .int .i64 y2.Kind, .slice p7 y2.Pins.length k7, .slice p8 y2.Arcs.length k8, .slice p9 y2.Truth.length k9, .int .i64 y2.Leak, .int .i64 y2.Energy] 70, Ch.box bb1 [.slice p1 b.Library.Cells.length k1, .slice p2 b.Design.Instances.length k2, .slice p3 b.Design.Nets.length k3, .slice p4 b.Design.Ports.length k4, .slice p5 b.Wires.length k5] 44] := h
  refine a_goal (fun _ => (h.pick [1] rfl)) ?_
  refine a_done (by kernel_rfl) ?_
  obtain rfl := someI hF
  have hv1 : GoRs.Rs _ (reg A w _) y2 [GoT.v TCell [.string y2.Name, .int .i64 y2.Kind, .slice p7 y2.Pins.length k7, .slice p8 y2.Arcs.length k8, .slice p9 y2.Truth.length k9, .int .i64 y2.Leak, .int .i64 y2.Energy]] := ⟨_, rfl, (hg.outR h (mkR_TCell y2 (hg.inS h s7) (hg.inS h s8) (hg.inS h s9)))⟩
  exact r_retG tabOk (ρ := TCell) (r := y2) [GoT.v TCell [.string y2.Name, .int .i64 y2.Kind, .slice p7 y2.Pins.length k7, .slice p8 y2.Arcs.length k8, .slice p9 y2.Truth.length k9, .int .i64 y2.Leak, .int .i64 y2.Energy]] h ⟨⟨_, _, _, rfl, rfl, h.box 0 rfl, rfl⟩, trivial⟩ hv1

def impl_Arc_transitions (_ : Nat) (a : TArc) : Option (List TA2_Int) :=
  bif (a.Kind == 2) then
    some ([(⟨0, 0⟩ : TA2_Int), (⟨0, 1⟩ : TA2_Int)] : List TA2_Int)
  else
    bif (a.Kind == 3) then
      some ([(⟨1, 0⟩ : TA2_Int), (⟨1, 1⟩ : TA2_Int)] : List TA2_Int)
    else
      bif (a.Kind != 1) then
        some []
      else
        bif (a.Sense == 1) then
          some ([(⟨0, 0⟩ : TA2_Int), (⟨1, 1⟩ : TA2_Int)] : List TA2_Int)
        else
          bif (a.Sense == 2) then
            some ([(⟨0, 1⟩ : TA2_Int), (⟨1, 0⟩ : TA2_Int)] : List TA2_Int)
          else
            some ([(⟨0, 0⟩ : TA2_Int), (⟨0, 1⟩ : TA2_Int), (⟨1, 0⟩ : TA2_Int), (⟨1, 1⟩ : TA2_Int)] : List TA2_Int)

theorem impl_Arc_transitions_ok {n : Nat} {w : World} {a : TArc} {cs1 : List Value} (ha1 : GoT.R w (old w) a cs1) {r : (List TA2_Int)} (hF : impl_Arc_transitions n a = some r) : RetV Tryz.prog 140 [GoT.v TArc cs1] w r := by
  obtain ⟨p1, k1, p2, k2, rfl, s1, s2⟩ := open_TArc ha1
  refine retV_of_run Tryz.func140 rfl (m := 44) rfl rfl (fun h => ?_)
  rw [impl_Arc_transitions] at hF
  refine r_seq (r_region (r_box h rfl rfl ?_))
  intro w1 bb1 h
  refine rp rfl rfl (r_nil (r_seq (r_region (r_v (v_buildA tabOk [0, 1] [.const (.int .i64 (0)), .const (.int .i64 (0))] rfl rfl rfl rfl rfl rfl rfl rfl rfl) rfl (r_v (v_buildA tabOk [0, 1] [.const (.int .i64 (1)), .const (.int .i64 (1))] rfl rfl rfl rfl rfl rfl rfl rfl rfl) rfl (r_bslice tabOk [.tmp 5, .tmp 6] _ ([(⟨0, 0⟩ : TA2_Int), (⟨1, 1⟩ : TA2_Int)] : List TA2_Int) h rfl rfl rfl rfl rfl rfl rfl rfl rfl ⟨(mkR_TA2_Int (⟨0, 0⟩ : TA2_Int)), (mkR_TA2_Int (⟨1, 1⟩ : TA2_Int)), trivial⟩ rfl ?_))))))
  intro w2 p3 S1 h
  refine rp rfl rfl (r_nil (r_seq (r_region (r_v (v_buildA tabOk [0, 1] [.const (.int .i64 (0)), .const (.int .i64 (1))] rfl rfl rfl rfl rfl rfl rfl rfl rfl) rfl (r_v (v_buildA tabOk [0, 1] [.const (.int .i64 (1)), .const (.int .i64 (0))] rfl rfl rfl rfl rfl rfl rfl rfl rfl) rfl (r_bslice tabOk [.tmp 8, .tmp 9] _ ([(⟨0, 1⟩ : TA2_Int), (⟨1, 0⟩ : TA2_Int)] : List TA2_Int) h rfl rfl rfl rfl rfl rfl rfl rfl rfl ⟨(mkR_TA2_Int (⟨0, 1⟩ : TA2_Int)), (mkR_TA2_Int (⟨1, 0⟩ : TA2_Int)), trivial⟩ rfl ?_))))))
  intro w3 p4 S2 h
  refine rp rfl rfl (r_nil (r_seq (r_block (r_seq (r_region (rp rfl rfl (r_v (v_ld tabOk (h.box 2 rfl) (j := 0) rfl rfl rfl) rfl (rp rfl rfl (rp rfl rfl (r_nil ?_))))))))))
  refine r_if rfl hF (fun hF => ?_) (fun hF => ?_)
  · refine r_seq (r_region (r_v (v_buildA tabOk [0, 1] [.const (.int .i64 (0)), .const (.int .i64 (0))] rfl rfl rfl rfl rfl rfl rfl rfl rfl) rfl (r_v (v_buildA tabOk [0, 1] [.const (.int .i64 (0)), .const (.int .i64 (1))] rfl rfl rfl rfl rfl rfl rfl rfl rfl) rfl (r_bslice tabOk [.tmp 15, .tmp 16] _ ([(⟨0, 0⟩ : TA2_Int), (⟨0, 1⟩ : TA2_Int)] : List TA2_Int) h rfl rfl rfl rfl rfl rfl rfl rfl rfl ⟨(mkR_TA2_Int (⟨0, 0⟩ : TA2_Int)), (mkR_TA2_Int (⟨0, 1⟩ : TA2_Int)), trivial⟩ rfl ?_))))
    intro w4 p5 S3 h
    refine rp rfl rfl (r_nil ?_)
    obtain rfl := someI hF
    exact r_retV tabOk (ρ := (List TA2_Int)) [GoT.v (List TA2_Int) [.slice p5 2 2]] h ⟨rfl, trivial⟩ (PV.done h (pv_one (po_own 0 h rfl)))
  refine r_seq (r_region (rp rfl rfl (r_v (v_ld tabOk (h.box 2 rfl) (j := 0) rfl rfl rfl) rfl (rp rfl rfl (rp rfl rfl (r_nil ?_))))))
  refine r_if rfl hF (fun hF => ?_) (fun hF => ?_)
  · refine r_seq (r_region (r_v (v_buildA tabOk [0, 1] [.const (.int .i64 (1)), .const (.int .i64 (0))] rfl rfl rfl rfl rfl rfl rfl rfl rfl) rfl (r_v (v_buildA tabOk [0, 1] [.const (.int .i64 (1)), .const (.int .i64 (1))] rfl rfl rfl rfl rfl rfl rfl rfl rfl) rfl (r_bslice tabOk [.tmp 22, .tmp 23] _ ([(⟨1, 0⟩ : TA2_Int), (⟨1, 1⟩ : TA2_Int)] : List TA2_Int) h rfl rfl rfl rfl rfl rfl rfl rfl rfl ⟨(mkR_TA2_Int (⟨1, 0⟩ : TA2_Int)), (mkR_TA2_Int (⟨1, 1⟩ : TA2_Int)), trivial⟩ rfl ?_))))
    intro w5 p6 S4 h
    refine rp rfl rfl (r_nil ?_)
    obtain rfl := someI hF
    exact r_retV tabOk (ρ := (List TA2_Int)) [GoT.v (List TA2_Int) [.slice p6 2 2]] h ⟨rfl, trivial⟩ (PV.done h (pv_one (po_own 0 h rfl)))
  refine r_seq (r_region (rp rfl rfl (r_v (v_ld tabOk (h.box 2 rfl) (j := 0) rfl rfl rfl) rfl (rp rfl rfl (rp rfl rfl (r_nil ?_))))))
  refine r_if rfl hF (fun hF => ?_) (fun hF => ?_)
  · refine r_seq (r_region (rp rfl rfl (r_nil ?_)))
    obtain rfl := someI hF
    exact r_retV tabOk (ρ := (List TA2_Int)) [GoT.v (List TA2_Int) [.slice none 0 0]] h ⟨rfl, trivial⟩ (PV.done h (pv_one po_nil))
  refine r_seq (r_region (rp rfl rfl (r_v (v_ld tabOk (h.box 2 rfl) (j := 3) rfl rfl rfl) rfl (rp rfl rfl (rp rfl rfl (r_nil ?_))))))
  refine r_if rfl hF (fun hF => ?_) (fun hF => ?_)
  · refine r_seq (r_region (rp rfl rfl (rp rfl rfl (r_nil ?_))))
    obtain rfl := someI hF
    exact r_retV tabOk (ρ := (List TA2_Int)) [GoT.v (List TA2_Int) [.slice p3 2 2]] h ⟨rfl, trivial⟩ (PV.done h (pv_one (po_own 1 h rfl)))
  refine r_seq (r_region (rp rfl rfl (r_v (v_ld tabOk (h.box 2 rfl) (j := 3) rfl rfl rfl) rfl (rp rfl rfl (rp rfl rfl (r_nil ?_))))))
  refine r_if rfl hF (fun hF => ?_) (fun hF => ?_)
  · refine r_seq (r_region (rp rfl rfl (rp rfl rfl (r_nil ?_))))
    obtain rfl := someI hF
    exact r_retV tabOk (ρ := (List TA2_Int)) [GoT.v (List TA2_Int) [.slice p4 2 2]] h ⟨rfl, trivial⟩ (PV.done h (pv_one (po_own 0 h rfl)))
  refine r_skip (r_blk (r_seq (r_region (r_v (v_buildA tabOk [0, 1] [.const (.int .i64 (0)), .const (.int .i64 (0))] rfl rfl rfl rfl rfl rfl rfl rfl rfl) rfl (r_v (v_buildA tabOk [0, 1] [.const (.int .i64 (0)), .const (.int .i64 (1))] rfl rfl rfl rfl rfl rfl rfl rfl rfl) rfl (r_v (v_buildA tabOk [0, 1] [.const (.int .i64 (1)), .const (.int .i64 (0))] rfl rfl rfl rfl rfl rfl rfl rfl rfl) rfl (r_v (v_buildA tabOk [0, 1] [.const (.int .i64 (1)), .const (.int .i64 (1))] rfl rfl rfl rfl rfl rfl rfl rfl rfl) rfl (r_bslice tabOk [.tmp 39, .tmp 40, .tmp 41, .tmp 42] _ ([(⟨0, 0⟩ : TA2_Int), (⟨0, 1⟩ : TA2_Int), (⟨1, 0⟩ : TA2_Int), (⟨1, 1⟩ : TA2_Int)] : List TA2_Int) h rfl rfl rfl rfl rfl rfl rfl rfl rfl ⟨(mkR_TA2_Int (⟨0, 0⟩ : TA2_Int)), (mkR_TA2_Int (⟨0, 1⟩ : TA2_Int)), (mkR_TA2_Int (⟨1, 0⟩ : TA2_Int)), (mkR_TA2_Int (⟨1, 1⟩ : TA2_Int)), trivial⟩ rfl ?_))))))))
  intro w6 p7 S5 h
  refine rp rfl rfl (r_nil ?_)
  obtain rfl := someI hF
  exact r_retV tabOk (ρ := (List TA2_Int)) [GoT.v (List TA2_Int) [.slice p7 4 4]] h ⟨rfl, trivial⟩ (PV.done h (pv_one (po_own 0 h rfl)))

def impl_Block_cellLinks_L2 (first : Int) (i1 : Int) (y2 : TArc) (r1 : (List TA2_Int)) : Nat → (List TLink) → Int → Option ((List TLink) × Int)
  | 0, _, _ => none
  | n + 1, x2, i2 =>
    bif decide (i2 < (r1.length : Int)) then
      (idx r1 i2).bind fun y3 =>
      (appS x2 ([(⟨W64 ((W64 (2 * (W64 (first + y2.From)))) + y3.e0), W64 ((W64 (2 * (W64 (first + y2.To)))) + y3.e1), 1, i1⟩ : TLink)] : List TLink)).bind fun x3 =>
      impl_Block_cellLinks_L2 first i1 y2 r1 n x3 (W64 (i2 + 1))
    else
      some (x2, i2)

def impl_Block_cellLinks_L1 (first : Int) (y1 : TCell) : Nat → (List TLink) → Int → Option ((List TLink) × Int)
  | 0, _, _ => none
  | n + 1, x1, i1 =>
    bif decide (i1 < (y1.Arcs.length : Int)) then
      (idx y1.Arcs i1).bind fun y2 =>
      (impl_Arc_transitions n y2).bind fun r1 =>
      (impl_Block_cellLinks_L2 first i1 y2 r1 n x1 0).bind fun o => match o with
      | (x2, _) =>
        impl_Block_cellLinks_L1 first y1 n x2 (W64 (i1 + 1))
    else
      some (x1, i1)

def impl_Block_cellLinks (n : Nat) (b : TBlock) (x : TInstance) (first : Int) : Option (List TLink) :=
  (idx b.Library.Cells x.Cell).bind fun y1 =>
  (impl_Block_cellLinks_L1 first y1 n ([] : List TLink) 0).bind fun o => match o with
  | (x1, _) =>
    some x1

theorem impl_Block_cellLinks_ok {n : Nat} {w : World} {b : TBlock} {x : TInstance} {first : Int} {cs1 : List Value} (ha1 : GoT.R w (old w) b cs1) {cs2 : List Value} (ha2 : GoT.R w (old w) x cs2) {r : (List TLink)} (hF : impl_Block_cellLinks n b x first = some r) : RetV Tryz.prog 100 [GoT.v TBlock cs1, GoT.v TInstance cs2, .int .i64 first] w r := by
  obtain ⟨p1, k1, p2, k2, p3, k3, p4, k4, p5, k5, rfl, s1, s2, s3, s4, s5⟩ := open_TBlock ha1
  obtain ⟨p6, k6, rfl, s6⟩ := open_TInstance ha2
  refine retV_of_run Tryz.func100 rfl (m := 57) rfl rfl (fun h => ?_)
  rw [impl_Block_cellLinks] at hF
  refine r_seq (r_region (r_box h rfl rfl ?_))
  intro w1 bb1 h
  refine r_box h rfl rfl ?_
  intro w2 bb2 h
  refine rp rfl rfl (r_nil (r_seq (r_region (rp rfl rfl (r_nil (r_seq (r_seq (r_region (rp rfl rfl (rp rfl rfl (r_v (v_ld tabOk (h.box 1 rfl) (j := 0) rfl rfl rfl) rfl ?_)))))))))))
  refine rp rfl rfl (r_v (v_ld tabOk (h.box 0 rfl) (j := 1) rfl rfl rfl) rfl ?_)
  obtain ⟨y1, hy1, hF⟩ := bindS hF
  have he1 := idx_some hy1
  obtain ⟨b1, o_1, q1, cs3, hp1, hq1, -, hr1, hc1⟩ := s1.at hy1
  obtain ⟨p7, k7, p8, k8, p9, k9, rfl, s7, s8, s9⟩ := open_TCell hr1
  refine r_v (v_ix tabOk hp1 hq1 ⟨he1.1, he1.2.1⟩ rfl rfl rfl rfl rfl rfl) rfl (rp rfl rfl (r_v (v_ld tabOk (hc1.below h.below) (j := 3) rfl rfl rfl) rfl (rp rfl rfl (rp rfl rfl (r_nil ?_)))))
  replace h := h.nil (α := TLink)
  obtain ⟨o1, hF, hK1⟩ := bindS hF
  refine r_block ?_
  replace h := h.pick [0] rfl
  refine r_sub [(2, _), (7, _), (19, _), (20, _), (21, _)] ⟨rfl, rfl, rfl, rfl, rfl, trivial⟩ ?_
  refine r_loop (fun m e w' => ∃ (S1 : Nat → Prop) (p10 : Option Addr) (ln1 : Nat) (k10 : Nat) (x1 : (List TLink)) (i1 : Int), impl_Block_cellLinks_L1 first y1 m x1 i1 = some o1 ∧ e = [(2, .int .i64 first), (7, .slice p10 ln1 k10), (19, .slice p8 y1.Arcs.length k8), (20, .int .i64 (y1.Arcs.length : Int)), (21, .int .i64 i1)] ∧ SH w w' [Ch.own S1 (x1 : List TLink) [.slice p10 ln1 k10]]) n ⟨_, _, _, _, _, _, hF, rfl, h⟩ ?_
  rintro m1 e1 w3 ⟨S1, p10, ln1, k10, x1, i1, hF, rfl, h⟩
  obtain rfl := (h.sl 0 rfl).2
  rcases m1 with _ | m1
  · rw [impl_Block_cellLinks_L1] at hF
    cases hF
  rw [impl_Block_cellLinks_L1] at hF
  refine r_seq (r_region (rp rfl rfl (r_nil (r_seq ?_))))
  refine r_if rfl hF (fun hF => ?_) (fun hF => ?_)
  · refine r_skip (r_seq (r_block (r_seq (r_region (rp rfl rfl ?_)))))
    obtain ⟨y2, hy2, hF⟩ := bindS hF
    have he2 := idx_some hy2
    obtain ⟨b2, o_2, q2, cs4, hp2, hq2, -, hr2, hc3⟩ := s8.at hy2
    obtain ⟨p11, k11, p12, k12, rfl, s10, s11⟩ := open_TArc hr2
    refine r_v (v_ix tabOk hp2 hq2 ⟨he2.1, he2.2.1⟩ rfl rfl rfl rfl rfl rfl) rfl (r_v (v_ld tabOk (hc3.below h.below) (j := 0) rfl rfl rfl) rfl (r_alloc tabOk h rfl rfl rfl ?_))
    intro w4 bb3 h
    refine rp rfl rfl (r_stbox tabOk 0 h rfl rfl rfl rfl rfl rfl rfl ?_)
    intro w5 h
    replace h : SH _ _ [Ch.box bb3 [.int .i64 y2.Kind, .int .i64 y2.From, .int .i64 y2.To, .int .i64 y2.Sense, .slice p11 y2.Delay.length k11, .slice p12 y2.Slew.length k12] 73, Ch.own S1 (x1 : List TLink) [.slice p10 x1.length k10]] := h
    refine r_nil (r_seq (r_region (r_v (v_ld tabOk (h.box 0 rfl) (j := 0) rfl rfl rfl) rfl ?_)))
    obtain ⟨r1, hr3, hF⟩ := bindS hF
    refine r_callL r1 h call140 (impl_Arc_transitions_ok (mkR_TArc y2 (h.oldS s10) (h.oldS s11)) hr3) rfl rfl rfl rfl ?_
    intro w6 S2 p13 k13 h
    refine rp rfl rfl (rp rfl rfl (r_nil ?_))
    obtain ⟨o2, hF, hK2⟩ := bindS hF
    refine r_block (r_sub [(2, _), (7, _), (8, _), (9, _), (19, _), (20, _), (21, _), (27, _), (28, _), (29, _)] ⟨rfl, rfl, rfl, rfl, rfl, rfl, rfl, rfl, rfl, rfl, trivial⟩ ?_)
    refine r_loop (fun m e w' => ∃ (S3 : Nat → Prop) (p14 : Option Addr) (ln2 : Nat) (k14 : Nat) (x2 : (List TLink)) (i2 : Int), impl_Block_cellLinks_L2 first i1 y2 r1 m x2 i2 = some o2 ∧ e = [(2, .int .i64 first), (7, .slice p14 ln2 k14), (8, .int .i64 i1), (9, .pointer (some ⟨bb3, 0, none⟩)), (19, .slice p8 y1.Arcs.length k8), (20, .int .i64 (y1.Arcs.length : Int)), (21, .int .i64 i1), (27, .slice p13 r1.length k13), (28, .int .i64 (r1.length : Int)), (29, .int .i64 i2)] ∧ SH w w' [Ch.own S2 (r1 : List TA2_Int) [.slice p13 r1.length k13], Ch.box bb3 [.int .i64 y2.Kind, .int .i64 y2.From, .int .i64 y2.To, .int .i64 y2.Sense, .slice p11 y2.Delay.length k11, .slice p12 y2.Slew.length k12] 73, Ch.own S3 (x2 : List TLink) [.slice p14 ln2 k14]]) m1 ⟨_, _, _, _, _, _, hF, rfl, h⟩ ?_
    rintro m2 e2 w7 ⟨S3, p14, ln2, k14, x2, i2, hF, rfl, h⟩
    obtain rfl := (h.sl 2 rfl).2
    rcases m2 with _ | m2
    · rw [impl_Block_cellLinks_L2] at hF
      cases hF
    rw [impl_Block_cellLinks_L2] at hF
    refine r_seq (r_region (rp rfl rfl (r_nil (r_seq ?_))))
    refine r_if rfl hF (fun hF => ?_) (fun hF => ?_)
    · refine r_skip (r_seq (r_block (r_seq (r_region ?_))))
      obtain ⟨y3, hy3, hF⟩ := bindS hF
      have he3 := idx_some hy3
      obtain ⟨b3, o_3, q3, cs5, hp3, hq3, -, hr4, hc5⟩ := (h.sl 0 rfl).1.at hy3
      obtain rfl := open_TA2_Int hr4
      refine r_v (v_ix tabOk hp3 hq3 ⟨he3.1, lt_ln he3.2.1 (h.sl 0 rfl).2⟩ rfl rfl rfl rfl rfl rfl) rfl (r_v (v_ld tabOk hc5 (j := 0) rfl rfl rfl) rfl (r_alloc tabOk h rfl rfl rfl ?_))
      intro w8 bb4 h
      refine r_stbox tabOk 0 h rfl rfl rfl rfl rfl rfl rfl ?_
      intro w9 h
      refine r_nil (r_region (rp rfl rfl (rp rfl rfl (rp rfl rfl (r_v (v_ld tabOk (h.box 2 rfl) (j := 1) rfl rfl rfl) rfl (rp rfl rfl (rp rfl rfl ?_)))))))
      refine r_v (v_ixA (iv := 0) tabOk rfl rfl (by decide) ⟨rfl, rfl⟩ rfl rfl) rfl ?_
      refine r_v (v_ld tabOk (h.box 0 rfl) (j := 0) rfl rfl rfl) rfl (rp rfl rfl (rp rfl rfl (rp rfl rfl (r_v (v_ld tabOk (h.box 2 rfl) (j := 2) rfl rfl rfl) rfl (rp rfl rfl (rp rfl rfl ?_))))))
      refine r_v (v_ixA (iv := 1) tabOk rfl rfl (by decide) ⟨rfl, rfl⟩ rfl rfl) rfl ?_
      refine r_v (v_ld tabOk (h.box 0 rfl) (j := 1) rfl rfl rfl) rfl (rp rfl rfl (rp rfl rfl (r_v (v_build tabOk [0, 1, 2, 3] [.tmp 41, .tmp 49, .const (.int .i64 (1)), .tmp 50] rfl rfl rfl rfl rfl rfl rfl rfl) rfl (r_bslice tabOk [.tmp 51] _ ([(⟨W64 ((W64 (2 * (W64 (first + y2.From)))) + y3.e0), W64 ((W64 (2 * (W64 (first + y2.To)))) + y3.e1), 1, i1⟩ : TLink)] : List TLink) h rfl rfl rfl rfl rfl rfl rfl rfl rfl ⟨(mkR_TLink (⟨W64 ((W64 (2 * (W64 (first + y2.From)))) + y3.e0), W64 ((W64 (2 * (W64 (first + y2.To)))) + y3.e1), 1, i1⟩ : TLink)), trivial⟩ rfl ?_))))
      intro w10 p15 S4 h
      obtain ⟨x3, hx1, hF⟩ := bindS hF
      obtain ⟨g1, hx1⟩ := appS_some hx1
      refine r_appE tabOk 4 h rfl (h.sl 0 rfl).1 (h.sl 0 rfl).2 rfl rfl rfl rfl rfl rfl rfl rfl rfl g1 hx1 rfl ?_
      intro w11 p16 k15 S5 h
      refine rp rfl rfl (r_nil (r_blk (r_region (rp rfl rfl (rp rfl rfl (r_nil ?_))))))
      replace h := h.pick [2, 3, 4] rfl
      exact r_back m2 [(2, _), (7, _), (8, _), (9, _), (19, _), (20, _), (21, _), (27, _), (28, _), (29, _)] (Nat.lt_succ_self m2) ⟨rfl, rfl, rfl, rfl, rfl, rfl, rfl, rfl, rfl, rfl, trivial⟩ ⟨_, _, _, _, _, _, hF, rfl, h⟩
    refine r_exit rfl ?_
    obtain rfl := someI hF; replace hF := hK2
    refine r_blk (r_region (rp rfl rfl (rp rfl rfl (r_nil ?_))))
    replace h := h.pick [2] rfl
    exact r_back m1 [(2, _), (7, _), (19, _), (20, _), (21, _)] (Nat.lt_succ_self m1) ⟨rfl, rfl, rfl, rfl, rfl, trivial⟩ ⟨_, _, _, _, _, _, hF, rfl, h⟩
  refine r_exit rfl ?_
  obtain rfl := someI hF; replace hF := hK1
  refine r_seq (r_region (rp rfl rfl (rp rfl rfl (r_nil ?_))))
  obtain rfl := someI hF
  exact r_retV tabOk (ρ := (List TLink)) [GoT.v (List TLink) [.slice p10 x1.length k10]] h ⟨rfl, trivial⟩ (PV.done h (pv_one (po_own 0 h rfl)))

def slices_Clone_int64 (_ : Nat) (s : (List Int)) : Option (List Int) :=
  appS ([] : List Int) s

theorem slices_Clone_int64_ok {n : Nat} {w : World} {s : (List Int)} {cs1 : List Value} (ha1 : GoT.R w (old w) s cs1) {r : (List Int)} (hF : slices_Clone_int64 n s = some r) : RetV Tryz.prog 141 [GoT.v (List Int) cs1] w r := by
  obtain ⟨p, k, rfl, s1⟩ := ha1
  obtain ⟨g1, hx⟩ := appS_some (show appS ([] : List Int) s = some r from hF)
  cases p with
  | none =>
    obtain rfl := slr_none s1
    obtain rfl : [] = r := hx
    refine retV_of_run Tryz.func141 rfl (m := 8) rfl rfl (fun h => ?_)
    refine r_seq (r_region (rp rfl rfl (r_nil (r_seq (r_seq (r_region (rp rfl rfl (r_v (v_eqnilS tabOk rfl rfl rfl rfl rfl) rfl (r_nil (r_condT rfl rfl (r_seq ?_)))))))))))
    exact r_region (rp rfl rfl (r_nil (r_retV tabOk (ρ := (List Int)) [GoT.v (List Int) [.slice none 0 0]] h ⟨rfl, trivial⟩ (PV.done h (pv_one po_nil)))))
  | some a =>
    refine retV_of_run Tryz.func141 rfl (m := 8) rfl rfl (fun h => ?_)
    refine r_seq (r_region (rp rfl rfl (r_nil (r_seq (r_seq (r_region (rp rfl rfl (r_v (v_eqnilS tabOk rfl rfl rfl rfl rfl) rfl (r_nil (r_condF rfl rfl (r_skip ?_)))))))))))
    refine r_seq (r_region (r_bslice tabOk [] _ ([] : List Int) h rfl rfl rfl rfl rfl rfl rfl rfl rfl trivial rfl ?_))
    intro w1 p1 S1 h
    refine rp rfl rfl (r_app tabOk 0 h rfl (h.oldS s1) rfl rfl rfl rfl rfl rfl rfl rfl rfl rfl g1 rfl ?_)
    intro w2 p2 k2 S2 h
    rw [hx] at h
    exact rp rfl rfl (r_nil (r_retV tabOk (ρ := (List Int)) [GoT.v (List Int) [.slice p2 (([] : List Int).length + s.length) k2]] h ⟨rfl, trivial⟩ (PV.done h (pv_one (po_own 0 h rfl)))))

def impl_Design_sinks_L1 (net : Int) (r1 : (List Tplace)) : Nat → (List Int) → Int → Option ((List Int) × Int)
  | 0, _, _ => none
  | n + 1, x1, i1 =>
    bif decide (i1 < (r1.length : Int)) then
      (idx r1 i1).bind fun y1 =>
      bif (y1.net == net) then
        bif (!y1.drives) then
          (appS x1 ([i1] : List Int)).bind fun x2 =>
          impl_Design_sinks_L1 net r1 n x2 (W64 (i1 + 1))
        else
          impl_Design_sinks_L1 net r1 n x1 (W64 (i1 + 1))
      else
        impl_Design_sinks_L1 net r1 n x1 (W64 (i1 + 1))
    else
      some (x1, i1)

def impl_Design_sinks (n : Nat) (d : TDesign) (net : Int) : Option (List Int) :=
  (impl_Design_places n d).bind fun r1 =>
  (impl_Design_sinks_L1 net r1 n ([] : List Int) 0).bind fun o => match o with
  | (x1, _) =>
    some x1

theorem impl_Design_sinks_ok {n : Nat} {w : World} {d : TDesign} {net : Int} {cs1 : List Value} (ha1 : GoT.R w (old w) d cs1) {r : (List Int)} (hF : impl_Design_sinks n d net = some r) : RetV Tryz.prog 142 [GoT.v TDesign cs1, .int .i64 net] w r := by
  obtain ⟨p1, k1, p2, k2, p3, k3, rfl, s1, s2, s3⟩ := open_TDesign ha1
  refine retV_of_run Tryz.func142 rfl (m := 31) rfl rfl (fun h => ?_)
  rw [impl_Design_sinks] at hF
  refine r_seq (r_region (r_box h rfl rfl ?_))
  intro w1 bb1 h
  refine rp rfl rfl (r_nil (r_seq (r_region (rp rfl rfl (r_nil (r_seq (r_seq (r_region (r_v (v_ld tabOk (h.box 0 rfl) (j := 0) rfl rfl rfl) rfl ?_)))))))))
  obtain ⟨r1, hr1, hF⟩ := bindS hF
  refine r_callL r1 h call79 (impl_Design_places_ok (h.old ha1) hr1) rfl rfl rfl rfl ?_
  intro w2 S1 p4 k4 h
  refine rp rfl rfl (rp rfl rfl (r_nil ?_))
  replace h := h.nil (α := Int)
  obtain ⟨o1, hF, hK1⟩ := bindS hF
  refine r_block ?_
  replace h := h.pick [0, 1] rfl
  refine r_sub [(1, _), (5, _), (9, _), (10, _), (11, _)] ⟨rfl, rfl, rfl, rfl, rfl, trivial⟩ ?_
  refine r_loop (fun m e w' => ∃ (S2 : Nat → Prop) (p5 : Option Addr) (ln1 : Nat) (k5 : Nat) (x1 : (List Int)) (i1 : Int), impl_Design_sinks_L1 net r1 m x1 i1 = some o1 ∧ e = [(1, .int .i64 net), (5, .slice p5 ln1 k5), (9, .slice p4 r1.length k4), (10, .int .i64 (r1.length : Int)), (11, .int .i64 i1)] ∧ SH w w' [Ch.own S2 (x1 : List Int) [.slice p5 ln1 k5], Ch.own S1 (r1 : List Tplace) [.slice p4 r1.length k4]]) n ⟨_, _, _, _, _, _, hF, rfl, h⟩ ?_
  rintro m1 e1 w3 ⟨S2, p5, ln1, k5, x1, i1, hF, rfl, h⟩
  obtain rfl := (h.sl 0 rfl).2
  rcases m1 with _ | m1
  · rw [impl_Design_sinks_L1] at hF
    cases hF
  rw [impl_Design_sinks_L1] at hF
  refine r_seq (r_region (rp rfl rfl (r_nil (r_seq ?_))))
  refine r_if rfl hF (fun hF => ?_) (fun hF => ?_)
  · refine r_skip (r_seq (r_block (r_seq (r_region (rp rfl rfl ?_)))))
    obtain ⟨y1, hy1, hF⟩ := bindS hF
    have he1 := idx_some hy1
    obtain ⟨b1, o_1, q1, cs2, hp1, hq1, -, hr2, hc2⟩ := (h.sl 1 rfl).1.at hy1
    obtain rfl := open_Tplace hr2
    refine r_v (v_ix tabOk hp1 hq1 ⟨he1.1, lt_ln he1.2.1 (h.sl 1 rfl).2⟩ rfl rfl rfl rfl rfl rfl) rfl (r_v (v_ld tabOk hc2 (j := 0) rfl rfl rfl) rfl (r_alloc tabOk h rfl rfl rfl ?_))
    intro w4 bb2 h
    refine rp rfl rfl (r_stbox tabOk 0 h rfl rfl rfl rfl rfl rfl rfl ?_)
    intro w5 h
    replace h : SH _ _ [Ch.box bb2 [.int .i64 y1.instance_, .int .i64 y1.pin, .int .i64 y1.net, .bool y1.drives] 126, Ch.own S2 (x1 : List Int) [.slice p5 x1.length k5], Ch.own S1 (r1 : List Tplace) [.slice p4 r1.length k4]] := h
    refine r_nil (r_seq (r_region (rp rfl rfl (r_v (v_ld tabOk (h.box 0 rfl) (j := 2) rfl rfl rfl) rfl (rp rfl rfl (rp rfl rfl (rp rfl rfl ?_)))))))
    by_cases hc3 : (y1.net == net) = true
    · replace hF := bifT hc3 hF
      refine r_setT hc3 (t := 20) rfl (r_wanted rfl (rp rfl rfl (r_wanted rfl (r_v (v_ld tabOk (h.box 0 rfl) (j := 3) rfl rfl rfl) rfl (r_wanted rfl (rp rfl rfl (rp rfl rfl (r_nil ?_))))))))
      refine r_if rfl hF (fun hF => ?_) (fun hF => ?_)
      · refine r_region (rp rfl rfl (rp rfl rfl (r_bslice tabOk [.tmp 26] _ ([i1] : List Int) h rfl rfl rfl rfl rfl rfl rfl rfl rfl ⟨rfl, trivial⟩ rfl ?_)))
        intro w6 p6 S3 h
        obtain ⟨x2, hx1, hF⟩ := bindS hF
        obtain ⟨g1, hx1⟩ := appS_some hx1
        refine r_appE tabOk 2 h rfl (h.sl 0 rfl).1 (h.sl 0 rfl).2 rfl rfl rfl rfl rfl rfl rfl rfl rfl g1 hx1 rfl ?_
        intro w7 p7 k6 S4 h
        refine rp rfl rfl (r_nil (r_blk (r_region (rp rfl rfl (rp rfl rfl (r_nil ?_))))))
        replace h := h.pick [2, 3] rfl
        exact r_back m1 [(1, _), (5, _), (9, _), (10, _), (11, _)] (Nat.lt_succ_self m1) ⟨rfl, rfl, rfl, rfl, rfl, trivial⟩ ⟨_, _, _, _, _, _, hF, rfl, h⟩
      refine r_skip (r_blk (r_region (rp rfl rfl (rp rfl rfl (r_nil ?_)))))
      replace h := h.pick [1, 2] rfl
      exact r_back m1 [(1, _), (5, _), (9, _), (10, _), (11, _)] (Nat.lt_succ_self m1) ⟨rfl, rfl, rfl, rfl, rfl, trivial⟩ ⟨_, _, _, _, _, _, hF, rfl, h⟩
    replace hc3 := Bool.eq_false_iff.2 hc3
    replace hF := bifF hc3 hF
    refine r_setF hc3 (t := 20) rfl (r_not rfl rfl rfl (r_not rfl rfl rfl (r_not rfl rfl rfl (rp rfl rfl (r_nil (r_condF rfl rfl (r_skip (r_blk (r_region (rp rfl rfl (rp rfl rfl ?_)))))))))))
    refine r_nil ?_
    replace h := h.pick [1, 2] rfl
    exact r_back m1 [(1, _), (5, _), (9, _), (10, _), (11, _)] (Nat.lt_succ_self m1) ⟨rfl, rfl, rfl, rfl, rfl, trivial⟩ ⟨_, _, _, _, _, _, hF, rfl, h⟩
  refine r_exit rfl ?_
  obtain rfl := someI hF; replace hF := hK1
  refine r_seq (r_region (rp rfl rfl (rp rfl rfl (r_nil ?_))))
  obtain rfl := someI hF
  exact r_retV tabOk (ρ := (List Int)) [GoT.v (List Int) [.slice p5 x1.length k5]] h ⟨rfl, trivial⟩ (PV.done h (pv_one (po_own 0 h rfl)))

def impl_Design_capOf (_ : Nat) (d : TDesign) (l : TLibrary) (p : Tplace) : Option Int :=
  bif decide (p.instance_ < 0) then
    some 0
  else
    (idx d.Instances p.instance_).bind fun y1 =>
    (idx l.Cells y1.Cell).bind fun y2 =>
    (idx y2.Pins p.pin).bind fun y3 =>
    some y3.Cap

theorem impl_Design_capOf_ok {n : Nat} {w : World} {d : TDesign} {l : TLibrary} {p : Tplace} {cs1 : List Value} (ha1 : GoT.R w (old w) d cs1) {cs2 : List Value} (ha2 : GoT.R w (old w) l cs2) {cs3 : List Value} (ha3 : GoT.R w (old w) p cs3) {r : Int} (hF : impl_Design_capOf n d l p = some r) : RetV Tryz.prog 143 [GoT.v TDesign cs1, GoT.v TLibrary cs2, GoT.v Tplace cs3] w r := by
  obtain ⟨p1, k1, p2, k2, p3, k3, rfl, s1, s2, s3⟩ := open_TDesign ha1
  obtain ⟨p4, k4, rfl, s4⟩ := open_TLibrary ha2
  obtain rfl := open_Tplace ha3
  refine retV_of_run Tryz.func143 rfl (m := 27) rfl rfl (fun h => ?_)
  rw [impl_Design_capOf] at hF
  refine r_seq (r_region (r_box h rfl rfl ?_))
  intro w1 bb1 h
  refine r_box h rfl rfl ?_
  intro w2 bb2 h
  refine r_box h rfl rfl ?_
  intro w3 bb3 h
  refine rp rfl rfl (r_nil (r_seq (r_seq (r_region (rp rfl rfl (r_v (v_ld tabOk (h.box 0 rfl) (j := 0) rfl rfl rfl) rfl (rp rfl rfl (r_nil ?_))))))))
  refine r_if rfl hF (fun hF => ?_) (fun hF => ?_)
  · exact r_seq (r_region (rp rfl rfl (r_nil (r_rI tabOk h hF ⟨rfl, trivial⟩))))
  refine r_skip (r_seq ?_)
  refine r_draw rfl (by kernel_rfl) ?_
  refine dp rfl rfl ?_
  refine d_v (fun _ hb => v_ld tabOk ((h.box 1 rfl).below hb) (j := 0) rfl rfl rfl) rfl ?_
  refine dp rfl rfl ?_
  refine d_v (fun _ hb => v_ld tabOk ((h.box 2 rfl).below hb) (j := 0) rfl rfl rfl) rfl ?_
  refine dp rfl rfl ?_
  refine d_v (fun _ hb => v_ld tabOk ((h.box 0 rfl).below hb) (j := 0) rfl rfl rfl) rfl ?_
  obtain ⟨y1, hy1, hF⟩ := bindS hF
  have he1 := idx_some hy1
  obtain ⟨b1, o_1, q1, cs4, hp1, hq1, -, hr1, hc2⟩ := s1.at hy1
  obtain ⟨p5, k5, rfl, s5⟩ := open_TInstance hr1
  refine d_v (fun _ hb => v_ix tabOk hp1 hq1 ⟨he1.1, he1.2.1⟩ rfl rfl rfl rfl rfl rfl) rfl ?_
  refine dp rfl rfl ?_
  refine d_v (fun _ hb => v_ld tabOk ((hc2.below h.below).below hb) (j := 1) rfl rfl rfl) rfl ?_
  obtain ⟨y2, hy2, hF⟩ := bindS hF
  have he2 := idx_some hy2
  obtain ⟨b2, o_2, q2, cs5, hp2, hq2, -, hr2, hc3⟩ := s4.at hy2
  obtain ⟨p6, k6, p7, k7, p8, k8, rfl, s6, s7, s8⟩ := open_TCell hr2
  refine d_v (fun _ hb => v_ix tabOk hp2 hq2 ⟨he2.1, he2.2.1⟩ rfl rfl rfl rfl rfl rfl) rfl ?_
  refine dp rfl rfl ?_
  refine d_v (fun _ hb => v_ld tabOk ((hc3.below h.below).below hb) (j := 2) rfl rfl rfl) rfl ?_
  refine dp rfl rfl ?_
  refine d_v (fun _ hb => v_ld tabOk ((h.box 0 rfl).below hb) (j := 1) rfl rfl rfl) rfl ?_
  obtain ⟨y3, hy3, hF⟩ := bindS hF
  have he3 := idx_some hy3
  obtain ⟨b3, o_3, q3, cs6, hp3, hq3, -, hr3, hc4⟩ := s6.at hy3
  obtain rfl := open_TPin hr3
  refine d_v (fun _ hb => v_ix tabOk hp3 hq3 ⟨he3.1, he3.2.1⟩ rfl rfl rfl rfl rfl rfl) rfl ?_
  refine dp rfl rfl ?_
  refine d_v (fun _ hb => v_ld tabOk ((hc4.below h.below).below hb) (j := 2) rfl rfl rfl) rfl ?_
  refine dp rfl rfl ?_
  refine d_nil (fun w4 hb => ?_)
  replace h := h.ext hb
  clear hb
  exact r_rI tabOk h hF ⟨rfl, trivial⟩

def impl_Block_nodeLoads_L2 (y1 : TWire) : Nat → (List Int) → Int → Option ((List Int) × Int)
  | 0, _, _ => none
  | n + 1, x2, i2 =>
    bif decide (i2 > 0) then
      (idx y1.Parent i2).bind fun y7 =>
      (idx x2 y7).bind fun y8 =>
      (idx x2 i2).bind fun y9 =>
      (idx x2 y7).bind fun _ =>
      impl_Block_nodeLoads_L2 y1 n (setS x2 y7 (W64 (y8 + y9))) (W64 (i2 - 1))
    else
      some (x2, i2)

def impl_Block_nodeLoads_L1 (a_0 : TBlock) (y1 : TWire) (r2 : (List Tplace)) (r3 : (List Int)) : Nat → (List Int) → Int → Option ((List Int) × Int)
  | 0, _, _ => none
  | n + 1, x1, i1 =>
    bif decide (i1 < (r3.length : Int)) then
      (idx r3 i1).bind fun y2 =>
      (idx y1.Sink i1).bind fun y3 =>
      (idx x1 y3).bind fun y4 =>
      (idx r2 y2).bind fun y5 =>
      (impl_Design_capOf n (⟨a_0.Design.Instances, a_0.Design.Nets, a_0.Design.Ports⟩ : TDesign) (⟨a_0.Library.Cells⟩ : TLibrary) y5).bind fun r4 =>
      (idx x1 y3).bind fun _ =>
      impl_Block_nodeLoads_L1 a_0 y1 r2 r3 n (setS x1 y3 (W64 (y4 + r4))) (W64 (i1 + 1))
    else
      some (x1, i1)

def impl_Block_nodeLoads (n : Nat) (a_0 : TBlock) (a_1 : Int) : Option (List Int) :=
  (idx a_0.Wires a_1).bind fun y1 =>
  (slices_Clone_int64 n y1.Cap).bind fun r1 =>
  (impl_Design_places n (⟨a_0.Design.Instances, a_0.Design.Nets, a_0.Design.Ports⟩ : TDesign)).bind fun r2 =>
  (impl_Design_sinks n (⟨a_0.Design.Instances, a_0.Design.Nets, a_0.Design.Ports⟩ : TDesign) a_1).bind fun r3 =>
  (impl_Block_nodeLoads_L1 a_0 y1 r2 r3 n r1 0).bind fun o => match o with
  | (x1, _) =>
    (impl_Block_nodeLoads_L2 y1 n x1 (W64 ((r1.length : Int) - 1))).bind fun o => match o with
    | (x2, _) =>
      some x2

theorem impl_Block_nodeLoads_ok {n : Nat} {w : World} {a_0 : TBlock} {a_1 : Int} {cs1 : List Value} (ha1 : GoT.R w (old w) a_0 cs1) {r : (List Int)} (hF : impl_Block_nodeLoads n a_0 a_1 = some r) : RetV Tryz.prog 102 [GoT.v TBlock cs1, .int .i64 a_1] w r := by
  obtain ⟨p1, k1, p2, k2, p3, k3, p4, k4, p5, k5, rfl, s1, s2, s3, s4, s5⟩ := open_TBlock ha1
  refine retV_of_run Tryz.func102 rfl (m := 74) rfl rfl (fun h => ?_)
  rw [impl_Block_nodeLoads] at hF
  refine r_seq (r_region (r_box h rfl rfl ?_))
  intro w1 bb1 h
  refine rp rfl rfl (r_nil (r_seq (r_region (rp rfl rfl (r_v (v_ld tabOk (h.box 0 rfl) (j := 4) rfl rfl rfl) rfl (rp rfl rfl ?_))))))
  obtain ⟨y1, hy1, hF⟩ := bindS hF
  have he1 := idx_some hy1
  obtain ⟨b1, o_1, q1, cs2, hp1, hq1, -, hr1, hc1⟩ := s5.at hy1
  obtain ⟨p6, k6, p7, k7, p8, k8, p9, k9, rfl, s6, s7, s8, s9⟩ := open_TWire hr1
  refine r_v (v_ix tabOk hp1 hq1 ⟨he1.1, he1.2.1⟩ rfl rfl rfl rfl rfl rfl) rfl (r_v (v_ld tabOk (hc1.below h.below) (j := 0) rfl rfl rfl) rfl (r_alloc tabOk h rfl rfl rfl ?_))
  intro w2 bb2 h
  refine r_stbox tabOk 0 h rfl rfl rfl rfl rfl rfl rfl ?_
  intro w3 h
  refine r_nil (r_seq (r_region (rp rfl rfl (r_v (v_ld tabOk (h.box 0 rfl) (j := 2) rfl rfl rfl) rfl ?_))))
  obtain ⟨r1, hr2, hF⟩ := bindS hF
  refine r_callL r1 h call141 (slices_Clone_int64_ok ⟨_, _, rfl, (h.oldS s8)⟩ hr2) rfl rfl rfl rfl ?_
  intro w4 S1 p10 k10 h
  refine rp rfl rfl (r_nil (r_seq (r_region (rp rfl rfl (r_v (v_ld tabOk (h.box 2 rfl) (j := 1) rfl rfl rfl) rfl ?_)))))
  obtain ⟨r2, hr3, hF⟩ := bindS hF
  refine r_callL r2 h call79 (impl_Design_places_ok (mkR_TDesign (⟨a_0.Design.Instances, a_0.Design.Nets, a_0.Design.Ports⟩ : TDesign) (h.oldS s2) (h.oldS s3) (h.oldS s4)) hr3) rfl rfl rfl rfl ?_
  intro w5 S2 p11 k11 h
  refine rp rfl rfl (r_nil (r_seq (r_seq (r_region (rp rfl rfl (r_v (v_ld tabOk (h.box 3 rfl) (j := 1) rfl rfl rfl) rfl (rp rfl rfl ?_)))))))
  obtain ⟨r3, hr4, hF⟩ := bindS hF
  refine r_callL r3 h call142 (impl_Design_sinks_ok (mkR_TDesign (⟨a_0.Design.Instances, a_0.Design.Nets, a_0.Design.Ports⟩ : TDesign) (h.oldS s2) (h.oldS s3) (h.oldS s4)) hr4) rfl rfl rfl rfl ?_
  intro w6 S3 p12 k12 h
  refine rp rfl rfl (rp rfl rfl (r_nil ?_))
  obtain ⟨o1, hF, hK1⟩ := bindS hF
  refine r_block (r_sub [(2, _), (5, _), (6, _), (7, _), (25, _), (26, _), (27, _)] ⟨rfl, rfl, rfl, rfl, rfl, rfl, rfl, trivial⟩ ?_)
  refine r_loop (fun m e w' => ∃ (x1 : (List Int)) (i1 : Int), impl_Block_nodeLoads_L1 a_0 y1 r2 r3 m x1 i1 = some o1 ∧ e = [(2, .pointer (some ⟨bb1, 0, none⟩)), (5, .pointer (some ⟨bb2, 0, none⟩)), (6, .slice p10 r1.length k10), (7, .slice p11 r2.length k11), (25, .slice p12 r3.length k12), (26, .int .i64 (r3.length : Int)), (27, .int .i64 i1)] ∧ SH w w' [Ch.own S3 (r3 : List Int) [.slice p12 r3.length k12], Ch.own S2 (r2 : List Tplace) [.slice p11 r2.length k11], Ch.own S1 (x1 : List Int) [.slice p10 r1.length k10], Ch.box bb2 [.slice p6 y1.Parent.length k6, .slice p7 y1.Res.length k7, .slice p8 y1.Cap.length k8, .slice p9 y1.Sink.length k9] 116, Ch.box bb1 [.slice p1 a_0.Library.Cells.length k1, .slice p2 a_0.Design.Instances.length k2, .slice p3 a_0.Design.Nets.length k3, .slice p4 a_0.Design.Ports.length k4, .slice p5 a_0.Wires.length k5] 44]) n ⟨_, _, hF, rfl, h⟩ ?_
  rintro m1 e1 w7 ⟨x1, i1, hF, rfl, h⟩
  rcases m1 with _ | m1
  · rw [impl_Block_nodeLoads_L1] at hF
    cases hF
  rw [impl_Block_nodeLoads_L1] at hF
  refine r_seq (r_region (rp rfl rfl (r_nil (r_seq ?_))))
  refine r_if rfl hF (fun hF => ?_) (fun hF => ?_)
  · refine r_skip (r_seq (r_block (r_seq (r_region (rp rfl rfl ?_)))))
    obtain ⟨y2, hy2, hF⟩ := bindS hF
    have he2 := idx_some hy2
    obtain ⟨b2, o_2, q2, cs3, hp2, hq2, -, hr5, hc3⟩ := (h.sl 0 rfl).1.at hy2
    obtain rfl := hr5
    refine r_v (v_ix tabOk hp2 hq2 ⟨he2.1, lt_ln he2.2.1 (h.sl 0 rfl).2⟩ rfl rfl rfl rfl rfl rfl) rfl (r_v (v_ld tabOk hc3 (j := 0) rfl rfl rfl) rfl (rp rfl rfl (rp rfl rfl (r_nil ?_))))
    refine r_any [19] (fun w' => SH w w' [Ch.own S2 (r2 : List Tplace) [.slice p11 r2.length k11], Ch.own S1 (x1 : List Int) [.slice p10 r1.length k10], Ch.box bb2 [.slice p6 y1.Parent.length k6, .slice p7 y1.Res.length k7, .slice p8 y1.Cap.length k8, .slice p9 y1.Sink.length k9] 116, Ch.box bb1 [.slice p1 a_0.Library.Cells.length k1, .slice p2 a_0.Design.Instances.length k2, .slice p3 a_0.Design.Nets.length k3, .slice p4 a_0.Design.Ports.length k4, .slice p5 a_0.Wires.length k5] 44]) rfl 20 rfl #[ff, ff, ff, ff, ff, ff, ff, ff, ff, ff, ff, ff, ff, ff, ff, ff, ff, ff, ff, ff] (by kernel_rfl) (fun w8 hb => ?_)
    replace h := h.ext hb
    clear hb
    refine a_take 0 rfl #[tt, ff, ff, ff, ff, ff, ff, ff, ff, ff, ff, ff, ff, ff, ff, ff, ff, ff, ff, ff] (by kernel_rfl) (by kernel_rfl) (fun w' hw => v_p tabOk rfl w') (h.pick [1, 2, 3, 4] rfl) rfl ?_
    refine a_take 1 rfl #[tt, tt, ff, ff, ff, ff, ff, ff, ff, ff, ff, ff, ff, ff, ff, ff, ff, ff, ff, ff] (by kernel_rfl) (by kernel_rfl) (fun w' hw => v_p tabOk rfl w') (h.pick [1, 2, 3, 4] rfl) rfl ?_
    refine a_take 2 rfl #[tt, tt, tt, ff, ff, ff, ff, ff, ff, ff, ff, ff, ff, ff, ff, ff, ff, ff, ff, ff] (by kernel_rfl) (by kernel_rfl) (fun w' hw => v_ld tabOk (hw.box 2 rfl) (j := 3) rfl rfl rfl) (h.pick [1, 2, 3, 4] rfl) rfl ?_
    refine a_take 3 rfl #[tt, tt, tt, tt, ff, ff, ff, ff, ff, ff, ff, ff, ff, ff, ff, ff, ff, ff, ff, ff] (by kernel_rfl) (by kernel_rfl) (fun w' hw => v_p tabOk rfl w') (h.pick [1, 2, 3, 4] rfl) rfl ?_
    obtain ⟨y3, hy3, hF⟩ := bindS hF
    have he3 := idx_some hy3
    obtain ⟨b3, o_3, q3, cs4, hp3, hq3, -, hr6, hc4⟩ := s9.at hy3
    obtain rfl := hr6
    refine a_take 4 rfl #[tt, tt, tt, tt, tt, ff, ff, ff, ff, ff, ff, ff, ff, ff, ff, ff, ff, ff, ff, ff] (by kernel_rfl) (by kernel_rfl) (fun w' hw => v_ix tabOk hp3 hq3 ⟨he3.1, he3.2.1⟩ rfl rfl rfl rfl rfl rfl) (h.pick [1, 2, 3, 4] rfl) rfl ?_
    refine a_take 5 rfl #[tt, tt, tt, tt, tt, tt, ff, ff, ff, ff, ff, ff, ff, ff, ff, ff, ff, ff, ff, ff] (by kernel_rfl) (by kernel_rfl) (fun w' hw => v_ld tabOk (hc4.below hw.below) (j := 0) rfl rfl rfl) (h.pick [1, 2, 3, 4] rfl) rfl ?_
    obtain ⟨y4, hy4, hF⟩ := bindS hF
    have he4 := idx_some hy4
    obtain ⟨b4, o_4, q4, cs5, hp4, hq4, -, hr7, hc5⟩ := (h.sl 2 rfl).1.at hy4
    obtain rfl := hr7
    refine a_take 6 rfl #[tt, tt, tt, tt, tt, tt, tt, ff, ff, ff, ff, ff, ff, ff, ff, ff, ff, ff, ff, ff] (by kernel_rfl) (by kernel_rfl) (fun w' hw => v_ix tabOk hp4 hq4 ⟨he4.1, lt_ln he4.2.1 (h.sl 2 rfl).2⟩ rfl rfl rfl rfl rfl rfl) (h.pick [1, 2, 3, 4] rfl) rfl ?_
    refine a_take 7 rfl #[tt, tt, tt, tt, tt, tt, tt, tt, ff, ff, ff, ff, ff, ff, ff, ff, ff, ff, ff, ff] (by kernel_rfl) (by kernel_rfl) (fun w' hw => v_ld tabOk (own_cells (w1 := w) (S1 := fun _ => False) hw 1 rfl hy4 hp4 hq4 rfl) (j := 0) rfl rfl rfl) (h.pick [1, 2, 3, 4] rfl) rfl ?_
    refine a_take 8 rfl #[tt, tt, tt, tt, tt, tt, tt, tt, tt, ff, ff, ff, ff, ff, ff, ff, ff, ff, ff, ff] (by kernel_rfl) (by kernel_rfl) (fun w' hw => v_p tabOk rfl w') (h.pick [1, 2, 3, 4] rfl) rfl ?_
    refine a_take 9 rfl #[tt, tt, tt, tt, tt, tt, tt, tt, tt, tt, ff, ff, ff, ff, ff, ff, ff, ff, ff, ff] (by kernel_rfl) (by kernel_rfl) (fun w' hw => v_ld tabOk (hw.box 3 rfl) (j := 1) rfl rfl rfl) (h.pick [1, 2, 3, 4] rfl) rfl ?_
    refine a_take 10 rfl #[tt, tt, tt, tt, tt, tt, tt, tt, tt, tt, tt, ff, ff, ff, ff, ff, ff, ff, ff, ff] (by kernel_rfl) (by kernel_rfl) (fun w' hw => v_p tabOk rfl w') (h.pick [1, 2, 3, 4] rfl) rfl ?_
    refine a_take 11 rfl #[tt, tt, tt, tt, tt, tt, tt, tt, tt, tt, tt, tt, ff, ff, ff, ff, ff, ff, ff, ff] (by kernel_rfl) (by kernel_rfl) (fun w' hw => v_ld tabOk (hw.box 3 rfl) (j := 0) rfl rfl rfl) (h.pick [1, 2, 3, 4] rfl) rfl ?_
    refine a_take 12 rfl #[tt, tt, tt, tt, tt, tt, tt, tt, tt, tt, tt, tt, tt, ff, ff, ff, ff, ff, ff, ff] (by kernel_rfl) (by kernel_rfl) (fun w' hw => v_p tabOk rfl w') (h.pick [1, 2, 3, 4] rfl) rfl ?_
    refine a_take 13 rfl #[tt, tt, tt, tt, tt, tt, tt, tt, tt, tt, tt, tt, tt, tt, ff, ff, ff, ff, ff, ff] (by kernel_rfl) (by kernel_rfl) (fun w' hw => v_p tabOk rfl w') (h.pick [1, 2, 3, 4] rfl) rfl ?_
    obtain ⟨y5, hy5, hF⟩ := bindS hF
    have he5 := idx_some hy5
    obtain ⟨b5, o_5, q5, cs6, hp5, hq5, -, hr8, hc6⟩ := (h.sl 1 rfl).1.at hy5
    obtain rfl := open_Tplace hr8
    refine a_take 14 rfl #[tt, tt, tt, tt, tt, tt, tt, tt, tt, tt, tt, tt, tt, tt, tt, ff, ff, ff, ff, ff] (by kernel_rfl) (by kernel_rfl) (fun w' hw => v_ix tabOk hp5 hq5 ⟨he5.1, lt_ln he5.2.1 (h.sl 1 rfl).2⟩ rfl rfl rfl rfl rfl rfl) (h.pick [1, 2, 3, 4] rfl) rfl ?_
    refine a_take 15 rfl #[tt, tt, tt, tt, tt, tt, tt, tt, tt, tt, tt, tt, tt, tt, tt, tt, ff, ff, ff, ff] (by kernel_rfl) (by kernel_rfl) (fun w' hw => v_ld tabOk (own_cells hw 0 rfl hy5 hp5 hq5 (mkR_Tplace (w := w) (S := fun _ => False) y5)) (j := 0) rfl rfl rfl) (h.pick [1, 2, 3, 4] rfl) rfl ?_
    refine a_only 16 rfl #[tt, tt, tt, tt, tt, tt, tt, tt, tt, tt, tt, tt, tt, tt, tt, tt, tt, ff, ff, ff] (by kernel_rfl) (by kernel_rfl) ?_
    obtain ⟨r4, hr9, hF⟩ := bindS hF
    refine r_callI r4 h call143 (impl_Design_capOf_ok (mkR_TDesign (⟨a_0.Design.Instances, a_0.Design.Nets, a_0.Design.Ports⟩ : TDesign) (h.oldS s2) (h.oldS s3) (h.oldS s4)) (mkR_TLibrary (⟨a_0.Library.Cells⟩ : TLibrary) (h.oldS s1)) (mkR_Tplace y5) hr9) rfl rfl rfl rfl ?_
    intro w9 h
    refine a_goal (fun _ => (h.pick [1, 2, 3, 4] rfl)) ?_
    refine a_take 17 rfl #[tt, tt, tt, tt, tt, tt, tt, tt, tt, tt, tt, tt, tt, tt, tt, tt, tt, tt, ff, ff] (by kernel_rfl) (by kernel_rfl) (fun w' hw => v_p tabOk rfl w') (h.pick [1, 2, 3, 4] rfl) rfl ?_
    obtain ⟨y6, hy6, hF⟩ := bindS hF
    have he6 := idx_some hy6
    obtain ⟨b6, o_6, q6, cs7, hp6, hq6, -, hr10, hc7⟩ := (h.sl 2 rfl).1.at hy6
    obtain rfl := hr10
    refine a_take 18 rfl #[tt, tt, tt, tt, tt, tt, tt, tt, tt, tt, tt, tt, tt, tt, tt, tt, tt, tt, tt, ff] (by kernel_rfl) (by kernel_rfl) (fun w' hw => v_ix tabOk hp6 hq6 ⟨he6.1, lt_ln he6.2.1 (h.sl 2 rfl).2⟩ rfl rfl rfl rfl rfl rfl) (h.pick [1, 2, 3, 4] rfl) rfl ?_
    refine a_only 19 rfl #[tt, tt, tt, tt, tt, tt, tt, tt, tt, tt, tt, tt, tt, tt, tt, tt, tt, tt, tt, tt] (by kernel_rfl) (by kernel_rfl) ?_
    refine r_stown tabOk 2 0 (W64 (y4 + r4)) h rfl hy6 hp6 hq6 rfl hc7 rfl rfl rfl rfl rfl rfl rfl ?_
    intro w10 h
    refine a_goal (fun hs => absurd (hs 19 (by decide)) (by decide)) ?_
    refine a_done (by kernel_rfl) ?_
    exact r_blk (r_region (rp rfl rfl (rp rfl rfl (r_nil (r_back m1 [(2, _), (5, _), (6, _), (7, _), (25, _), (26, _), (27, _)] (Nat.lt_succ_self m1) ⟨rfl, rfl, rfl, rfl, rfl, rfl, rfl, trivial⟩ ⟨_, _, hF, rfl, h⟩)))))
  refine r_exit rfl ?_
  obtain rfl := someI hF; replace hF := hK1
  refine r_seq (r_seq (r_region (rp rfl rfl (rp rfl rfl (rp rfl rfl (rp rfl rfl (r_nil ?_)))))))
  obtain ⟨o2, hF, hK2⟩ := bindS hF
  refine r_block ?_
  replace h := h.pick [2, 3] rfl
  refine r_sub [(5, _), (6, _), (10, _)] ⟨rfl, rfl, rfl, trivial⟩ ?_
  refine r_loop (fun m e w' => ∃ (x2 : (List Int)) (i2 : Int), impl_Block_nodeLoads_L2 y1 m x2 i2 = some o2 ∧ e = [(5, .pointer (some ⟨bb2, 0, none⟩)), (6, .slice p10 r1.length k10), (10, .int .i64 i2)] ∧ SH w w' [Ch.own S1 (x2 : List Int) [.slice p10 r1.length k10], Ch.box bb2 [.slice p6 y1.Parent.length k6, .slice p7 y1.Res.length k7, .slice p8 y1.Cap.length k8, .slice p9 y1.Sink.length k9] 116]) n ⟨_, _, hF, rfl, h⟩ ?_
  rintro m2 e2 w11 ⟨x2, i2, hF, rfl, h⟩
  rcases m2 with _ | m2
  · rw [impl_Block_nodeLoads_L2] at hF
    cases hF
  rw [impl_Block_nodeLoads_L2] at hF
  refine r_seq (r_seq (r_region (rp rfl rfl (rp rfl rfl (r_nil ?_)))))
  refine r_if rfl hF (fun hF => ?_) (fun hF => ?_)
  · refine r_skip (r_seq (r_block ?_))
    refine r_any [14] (fun w' => SH w w' [Ch.own S1 (x2 : List Int) [.slice p10 r1.length k10], Ch.box bb2 [.slice p6 y1.Parent.length k6, .slice p7 y1.Res.length k7, .slice p8 y1.Cap.length k8, .slice p9 y1.Sink.length k9] 116]) rfl 15 rfl #[ff, ff, ff, ff, ff, ff, ff, ff, ff, ff, ff, ff, ff, ff, ff] (by kernel_rfl) (fun w12 hb => ?_)
    replace h := h.ext hb
    clear hb
    refine a_take 0 rfl #[tt, ff, ff, ff, ff, ff, ff, ff, ff, ff, ff, ff, ff, ff, ff] (by kernel_rfl) (by kernel_rfl) (fun w' hw => v_p tabOk rfl w') (h.pick [0, 1] rfl) rfl ?_
    refine a_take 1 rfl #[tt, tt, ff, ff, ff, ff, ff, ff, ff, ff, ff, ff, ff, ff, ff] (by kernel_rfl) (by kernel_rfl) (fun w' hw => v_p tabOk rfl w') (h.pick [0, 1] rfl) rfl ?_
    refine a_take 2 rfl #[tt, tt, tt, ff, ff, ff, ff, ff, ff, ff, ff, ff, ff, ff, ff] (by kernel_rfl) (by kernel_rfl) (fun w' hw => v_ld tabOk (hw.box 1 rfl) (j := 0) rfl rfl rfl) (h.pick [0, 1] rfl) rfl ?_
    refine a_take 3 rfl #[tt, tt, tt, tt, ff, ff, ff, ff, ff, ff, ff, ff, ff, ff, ff] (by kernel_rfl) (by kernel_rfl) (fun w' hw => v_p tabOk rfl w') (h.pick [0, 1] rfl) rfl ?_
    obtain ⟨y7, hy7, hF⟩ := bindS hF
    have he7 := idx_some hy7
    obtain ⟨b7, o_7, q7, cs8, hp7, hq7, -, hr11, hc9⟩ := s6.at hy7
    obtain rfl := hr11
    refine a_take 4 rfl #[tt, tt, tt, tt, tt, ff, ff, ff, ff, ff, ff, ff, ff, ff, ff] (by kernel_rfl) (by kernel_rfl) (fun w' hw => v_ix tabOk hp7 hq7 ⟨he7.1, he7.2.1⟩ rfl rfl rfl rfl rfl rfl) (h.pick [0, 1] rfl) rfl ?_
    refine a_take 5 rfl #[tt, tt, tt, tt, tt, tt, ff, ff, ff, ff, ff, ff, ff, ff, ff] (by kernel_rfl) (by kernel_rfl) (fun w' hw => v_ld tabOk (hc9.below hw.below) (j := 0) rfl rfl rfl) (h.pick [0, 1] rfl) rfl ?_
    obtain ⟨y8, hy8, hF⟩ := bindS hF
    have he8 := idx_some hy8
    obtain ⟨b8, o_8, q8, cs9, hp8, hq8, -, hr12, hc10⟩ := (h.sl 0 rfl).1.at hy8
    obtain rfl := hr12
    refine a_take 6 rfl #[tt, tt, tt, tt, tt, tt, tt, ff, ff, ff, ff, ff, ff, ff, ff] (by kernel_rfl) (by kernel_rfl) (fun w' hw => v_ix tabOk hp8 hq8 ⟨he8.1, lt_ln he8.2.1 (h.sl 0 rfl).2⟩ rfl rfl rfl rfl rfl rfl) (h.pick [0, 1] rfl) rfl ?_
    refine a_take 7 rfl #[tt, tt, tt, tt, tt, tt, tt, tt, ff, ff, ff, ff, ff, ff, ff] (by kernel_rfl) (by kernel_rfl) (fun w' hw => v_ld tabOk (own_cells (w1 := w) (S1 := fun _ => False) hw 0 rfl hy8 hp8 hq8 rfl) (j := 0) rfl rfl rfl) (h.pick [0, 1] rfl) rfl ?_
    refine a_take 8 rfl #[tt, tt, tt, tt, tt, tt, tt, tt, tt, ff, ff, ff, ff, ff, ff] (by kernel_rfl) (by kernel_rfl) (fun w' hw => v_p tabOk rfl w') (h.pick [0, 1] rfl) rfl ?_
    refine a_take 9 rfl #[tt, tt, tt, tt, tt, tt, tt, tt, tt, tt, ff, ff, ff, ff, ff] (by kernel_rfl) (by kernel_rfl) (fun w' hw => v_p tabOk rfl w') (h.pick [0, 1] rfl) rfl ?_
    obtain ⟨y9, hy9, hF⟩ := bindS hF
    have he9 := idx_some hy9
    obtain ⟨b9, o_9, q9, cs10, hp9, hq9, -, hr13, hc11⟩ := (h.sl 0 rfl).1.at hy9
    obtain rfl := hr13
    refine a_take 10 rfl #[tt, tt, tt, tt, tt, tt, tt, tt, tt, tt, tt, ff, ff, ff, ff] (by kernel_rfl) (by kernel_rfl) (fun w' hw => v_ix tabOk hp9 hq9 ⟨he9.1, lt_ln he9.2.1 (h.sl 0 rfl).2⟩ rfl rfl rfl rfl rfl rfl) (h.pick [0, 1] rfl) rfl ?_
    refine a_take 11 rfl #[tt, tt, tt, tt, tt, tt, tt, tt, tt, tt, tt, tt, ff, ff, ff] (by kernel_rfl) (by kernel_rfl) (fun w' hw => v_ld tabOk (own_cells (w1 := w) (S1 := fun _ => False) hw 0 rfl hy9 hp9 hq9 rfl) (j := 0) rfl rfl rfl) (h.pick [0, 1] rfl) rfl ?_
    refine a_take 12 rfl #[tt, tt, tt, tt, tt, tt, tt, tt, tt, tt, tt, tt, tt, ff, ff] (by kernel_rfl) (by kernel_rfl) (fun w' hw => v_p tabOk rfl w') (h.pick [0, 1] rfl) rfl ?_
    obtain ⟨y10, hy10, hF⟩ := bindS hF
    have he10 := idx_some hy10
    obtain ⟨b10, o_10, q10, cs11, hp10, hq10, -, hr14, hc12⟩ := (h.sl 0 rfl).1.at hy10
    obtain rfl := hr14
    refine a_take 13 rfl #[tt, tt, tt, tt, tt, tt, tt, tt, tt, tt, tt, tt, tt, tt, ff] (by kernel_rfl) (by kernel_rfl) (fun w' hw => v_ix tabOk hp10 hq10 ⟨he10.1, lt_ln he10.2.1 (h.sl 0 rfl).2⟩ rfl rfl rfl rfl rfl rfl) (h.pick [0, 1] rfl) rfl ?_
    refine a_only 14 rfl #[tt, tt, tt, tt, tt, tt, tt, tt, tt, tt, tt, tt, tt, tt, tt] (by kernel_rfl) (by kernel_rfl) ?_
    refine r_stown tabOk 0 0 (W64 (y8 + y9)) h rfl hy10 hp10 hq10 rfl hc12 rfl rfl rfl rfl rfl rfl rfl ?_
    intro w13 h
    refine a_goal (fun hs => absurd (hs 14 (by decide)) (by decide)) ?_
    refine a_done (by kernel_rfl) ?_
    exact r_blk (r_region (rp rfl rfl (rp rfl rfl (rp rfl rfl (r_nil (r_back m2 [(5, _), (6, _), (10, _)] (Nat.lt_succ_self m2) ⟨rfl, rfl, rfl, trivial⟩ ⟨_, _, hF, rfl, h⟩))))))
  refine r_exit rfl ?_
  obtain rfl := someI hF; replace hF := hK2
  refine r_seq (r_region (rp rfl rfl (rp rfl rfl (r_nil ?_))))
  obtain rfl := someI hF
  exact r_retV tabOk (ρ := (List Int)) [GoT.v (List Int) [.slice p10 r1.length k10]] h ⟨rfl, trivial⟩ (PV.done h (pv_one (po_own 0 h rfl)))

def impl_Block_nodeDelays_L1 (y1 : TWire) (r1 : (List Int)) (x1 : (List Int)) : Nat → (List Int) → Int → Option ((List Int) × Int)
  | 0, _, _ => none
  | n + 1, x2, i1 =>
    bif decide (i1 < (x1.length : Int)) then
      (idx y1.Parent i1).bind fun y2 =>
      (idx x2 y2).bind fun y3 =>
      (idx y1.Res i1).bind fun y4 =>
      (idx r1 i1).bind fun y5 =>
      (idx x2 i1).bind fun _ =>
      impl_Block_nodeDelays_L1 y1 r1 x1 n (setS x2 i1 (W64 (y3 + (W64 (y4 * y5))))) (W64 (i1 + 1))
    else
      some (x2, i1)

def impl_Block_nodeDelays (n : Nat) (b : TBlock) (net : Int) : Option (List Int) :=
  (idx b.Wires net).bind fun y1 =>
  (impl_Block_nodeLoads n b net).bind fun r1 =>
  (mkS (r1.length : Int) (0 : Int)).bind fun x1 =>
  (impl_Block_nodeDelays_L1 y1 r1 x1 n x1 1).bind fun o => match o with
  | (x2, _) =>
    some x2

theorem impl_Block_nodeDelays_ok {n : Nat} {w : World} {b : TBlock} {net : Int} {cs1 : List Value} (ha1 : GoT.R w (old w) b cs1) {r : (List Int)} (hF : impl_Block_nodeDelays n b net = some r) : RetV Tryz.prog 144 [GoT.v TBlock cs1, .int .i64 net] w r := by
  obtain ⟨p1, k1, p2, k2, p3, k3, p4, k4, p5, k5, rfl, s1, s2, s3, s4, s5⟩ := open_TBlock ha1
  refine retV_of_run Tryz.func144 rfl (m := 49) rfl rfl (fun h => ?_)
  rw [impl_Block_nodeDelays] at hF
  refine r_seq (r_region (r_box h rfl rfl ?_))
  intro w1 bb1 h
  refine rp rfl rfl (r_nil (r_seq ?_))
  refine r_any [] (fun w' => SH w w' [Ch.box bb1 [.slice p1 b.Library.Cells.length k1, .slice p2 b.Design.Instances.length k2, .slice p3 b.Design.Nets.length k3, .slice p4 b.Design.Ports.length k4, .slice p5 b.Wires.length k5] 44]) rfl 11 rfl #[ff, ff, ff, ff, ff, ff, ff, ff, ff, ff, ff] (by kernel_rfl) (fun w2 hb => ?_)
  replace h := h.ext hb
  clear hb
  refine a_take 0 rfl #[tt, ff, ff, ff, ff, ff, ff, ff, ff, ff, ff] (by kernel_rfl) (by kernel_rfl) (fun w' hw => v_p tabOk rfl w') (h.pick [0] rfl) rfl ?_
  refine a_take 1 rfl #[tt, tt, ff, ff, ff, ff, ff, ff, ff, ff, ff] (by kernel_rfl) (by kernel_rfl) (fun w' hw => v_ld tabOk (hw.box 0 rfl) (j := 4) rfl rfl rfl) (h.pick [0] rfl) rfl ?_
  refine a_take 2 rfl #[tt, tt, tt, ff, ff, ff, ff, ff, ff, ff, ff] (by kernel_rfl) (by kernel_rfl) (fun w' hw => v_p tabOk rfl w') (h.pick [0] rfl) rfl ?_
  obtain ⟨y1, hy1, hF⟩ := bindS hF
  have he1 := idx_some hy1
  obtain ⟨b1, o_1, q1, cs2, hp1, hq1, -, hr1, hc1⟩ := s5.at hy1
  obtain ⟨p6, k6, p7, k7, p8, k8, p9, k9, rfl, s6, s7, s8, s9⟩ := open_TWire hr1
  refine a_take 3 rfl #[tt, tt, tt, tt, ff, ff, ff, ff, ff, ff, ff] (by kernel_rfl) (by kernel_rfl) (fun w' hw => v_ix tabOk hp1 hq1 ⟨he1.1, he1.2.1⟩ rfl rfl rfl rfl rfl rfl) (h.pick [0] rfl) rfl ?_
  refine a_take 4 rfl #[tt, tt, tt, tt, tt, ff, ff, ff, ff, ff, ff] (by kernel_rfl) (by kernel_rfl) (fun w' hw => v_ld tabOk (hc1.below hw.below) (j := 0) rfl rfl rfl) (h.pick [0] rfl) rfl ?_
  refine a_take 5 rfl #[tt, tt, tt, tt, tt, tt, ff, ff, ff, ff, ff] (by kernel_rfl) (by kernel_rfl) (fun w' hw => v_ld tabOk (hw.box 0 rfl) (j := 0) rfl rfl rfl) (h.pick [0] rfl) rfl ?_
  refine a_take 6 rfl #[tt, tt, tt, tt, tt, tt, tt, ff, ff, ff, ff] (by kernel_rfl) (by kernel_rfl) (fun w' hw => v_p tabOk rfl w') (h.pick [0] rfl) rfl ?_
  obtain ⟨r1, hr2, hF⟩ := bindS hF
  refine a_merge (fun e w' => ∃ (bb8 : Nat) (S7 : Nat → Prop) (p16 : Option Addr) (k16 : Nat), e = [(5, .pointer (some ⟨bb8, 0, none⟩)), (6, .slice p16 r1.length k16)] ∧ SH w w' [Ch.box bb8 [.slice p6 y1.Parent.length k6, .slice p7 y1.Res.length k7, .slice p8 y1.Cap.length k8, .slice p9 y1.Sink.length k9] 116, Ch.own S7 (r1 : List Int) [.slice p16 r1.length k16], Ch.box bb1 [.slice p1 b.Library.Cells.length k1, .slice p2 b.Design.Instances.length k2, .slice p3 b.Design.Nets.length k3, .slice p4 b.Design.Ports.length k4, .slice p5 b.Wires.length k5] 44]) 0 #[tt, tt, tt, tt, tt, tt, tt, tt, tt, tt, tt] ?_ ?_
  · intro K
    refine a_two 7 8 rfl rfl #[tt, tt, tt, tt, tt, tt, tt, tt, ff, ff, ff] #[tt, tt, tt, tt, tt, tt, tt, ff, tt, ff, ff] (by kernel_rfl) (by kernel_rfl) (by kernel_rfl) ?_ ?_
    · refine r_callL r1 h call102 (impl_Block_nodeLoads_ok (h.old ha1) hr2) rfl rfl rfl rfl ?_
      intro w13 S5 p14 k14 h
      refine a_goal (fun _ => (h.pick [1] rfl)) ?_
      refine a_only 8 rfl #[tt, tt, tt, tt, tt, tt, tt, tt, tt, ff, ff] (by kernel_rfl) (by kernel_rfl) ?_
      refine r_alloc tabOk h rfl rfl rfl ?_
      intro w14 bb6 h
      refine a_goal (fun _ => (h.pick [2] rfl)) ?_
      refine a_only 9 rfl #[tt, tt, tt, tt, tt, tt, tt, tt, tt, tt, ff] (by kernel_rfl) (by kernel_rfl) ?_
      refine r_stbox tabOk 0 h rfl rfl rfl rfl rfl rfl rfl ?_
      intro w15 h
      refine a_goal (fun _ => (h.pick [2] rfl)) ?_
      refine a_take 10 rfl #[tt, tt, tt, tt, tt, tt, tt, tt, tt, tt, tt] (by kernel_rfl) (by kernel_rfl) (fun w' hw => v_p tabOk rfl w') (h.pick [2] rfl) rfl ?_
      exact a_sub [(5, _), (6, _)] ⟨rfl, rfl, trivial⟩ (K _ _ ⟨_, _, _, _, rfl, h⟩)
    refine r_alloc tabOk h rfl rfl rfl ?_
    intro w16 bb7 h
    refine a_goal (fun _ => (h.pick [1] rfl)) ?_
    refine a_only 7 rfl #[tt, tt, tt, tt, tt, tt, tt, tt, tt, ff, ff] (by kernel_rfl) (by kernel_rfl) ?_
    refine r_callL r1 h call102 (impl_Block_nodeLoads_ok (h.old ha1) hr2) rfl rfl rfl rfl ?_
    intro w17 S6 p15 k15 h
    refine a_goal (fun _ => (h.pick [2] rfl)) ?_
    refine a_only 9 rfl #[tt, tt, tt, tt, tt, tt, tt, tt, tt, tt, ff] (by kernel_rfl) (by kernel_rfl) ?_
    refine r_stbox tabOk 1 h rfl rfl rfl rfl rfl rfl rfl ?_
    intro w18 h
    replace h : SH _ _ [Ch.own S6 (r1 : List Int) [.slice p15 r1.length k15], Ch.box bb7 [.slice p6 y1.Parent.length k6, .slice p7 y1.Res.length k7, .slice p8 y1.Cap.length k8, .slice p9 y1.Sink.length k9] 116, Ch.box bb1 [.slice p1 b.Library.Cells.length k1, .slice p2 b.Design.Instances.length k2, .slice p3 b.Design.Nets.length k3, .slice p4 b.Design.Ports.length k4, .slice p5 b.Wires.length k5] 44] := h
    refine a_goal (fun _ => (h.pick [2] rfl)) ?_
    refine a_take 10 rfl #[tt, tt, tt, tt, tt, tt, tt, tt, tt, tt, tt] (by kernel_rfl) (by kernel_rfl) (fun w' hw => v_p tabOk rfl w') (h.pick [2] rfl) rfl ?_
    replace h := h.pick [1, 0, 2] rfl
    exact a_sub [(5, _), (6, _)] ⟨rfl, rfl, trivial⟩ (K _ _ ⟨_, _, _, _, rfl, h⟩)
  rintro e2 w19 ⟨bb8, S7, p16, k16, rfl, h⟩
  refine a_done (by kernel_rfl) ?_
  refine r_seq (r_region (rp rfl rfl (rp rfl rfl ?_)))
  obtain ⟨x1, hx1, hF⟩ := bindS hF
  obtain ⟨g1, g2, hx1⟩ := mkS_some hx1
  refine r_makeE tabOk Int h rfl rfl rfl rfl rfl rfl rfl rfl rfl g1 g2 hx1 rfl ?_
  intro w20 S8 p17 h
  refine rp rfl rfl (r_nil (r_seq (r_seq (r_region (rp rfl rfl (r_nil ?_))))))
  obtain ⟨o1, hF, hK1⟩ := bindS hF
  refine r_block ?_
  replace h := h.pick [0, 1, 2] rfl
  refine r_sub [(5, _), (6, _), (7, _), (8, _)] ⟨rfl, rfl, rfl, rfl, trivial⟩ ?_
  refine r_loop (fun m e w' => ∃ (x2 : (List Int)) (i1 : Int), impl_Block_nodeDelays_L1 y1 r1 x1 m x2 i1 = some o1 ∧ e = [(5, .pointer (some ⟨bb8, 0, none⟩)), (6, .slice p16 r1.length k16), (7, .slice p17 x1.length x1.length), (8, .int .i64 i1)] ∧ SH w w' [Ch.own S8 (x2 : List Int) [.slice p17 x1.length x1.length], Ch.box bb8 [.slice p6 y1.Parent.length k6, .slice p7 y1.Res.length k7, .slice p8 y1.Cap.length k8, .slice p9 y1.Sink.length k9] 116, Ch.own S7 (r1 : List Int) [.slice p16 r1.length k16]]) n ⟨_, _, hF, rfl, h⟩ ?_
  rintro m1 e3 w21 ⟨x2, i1, hF, rfl, h⟩
  rcases m1 with _ | m1
  · rw [impl_Block_nodeDelays_L1] at hF
    cases hF
  rw [impl_Block_nodeDelays_L1] at hF
  refine r_seq (r_seq (r_region (rp rfl rfl (rp rfl rfl (rp rfl rfl (rp rfl rfl (r_nil ?_)))))))
  refine r_if rfl hF (fun hF => ?_) (fun hF => ?_)
  · refine r_skip (r_seq (r_block ?_))
    refine r_any [22] (fun w' => SH w w' [Ch.own S8 (x2 : List Int) [.slice p17 x1.length x1.length], Ch.box bb8 [.slice p6 y1.Parent.length k6, .slice p7 y1.Res.length k7, .slice p8 y1.Cap.length k8, .slice p9 y1.Sink.length k9] 116, Ch.own S7 (r1 : List Int) [.slice p16 r1.length k16]]) rfl 23 rfl #[ff, ff, ff, ff, ff, ff, ff, ff, ff, ff, ff, ff, ff, ff, ff, ff, ff, ff, ff, ff, ff, ff, ff] (by kernel_rfl) (fun w22 hb => ?_)
    replace h := h.ext hb
    clear hb
    refine a_take 0 rfl #[tt, ff, ff, ff, ff, ff, ff, ff, ff, ff, ff, ff, ff, ff, ff, ff, ff, ff, ff, ff, ff, ff, ff] (by kernel_rfl) (by kernel_rfl) (fun w' hw => v_p tabOk rfl w') (h.pick [0, 1, 2] rfl) rfl ?_
    refine a_take 1 rfl #[tt, tt, ff, ff, ff, ff, ff, ff, ff, ff, ff, ff, ff, ff, ff, ff, ff, ff, ff, ff, ff, ff, ff] (by kernel_rfl) (by kernel_rfl) (fun w' hw => v_p tabOk rfl w') (h.pick [0, 1, 2] rfl) rfl ?_
    refine a_take 2 rfl #[tt, tt, tt, ff, ff, ff, ff, ff, ff, ff, ff, ff, ff, ff, ff, ff, ff, ff, ff, ff, ff, ff, ff] (by kernel_rfl) (by kernel_rfl) (fun w' hw => v_p tabOk rfl w') (h.pick [0, 1, 2] rfl) rfl ?_
    refine a_take 3 rfl #[tt, tt, tt, tt, ff, ff, ff, ff, ff, ff, ff, ff, ff, ff, ff, ff, ff, ff, ff, ff, ff, ff, ff] (by kernel_rfl) (by kernel_rfl) (fun w' hw => v_p tabOk rfl w') (h.pick [0, 1, 2] rfl) rfl ?_
    refine a_take 4 rfl #[tt, tt, tt, tt, tt, ff, ff, ff, ff, ff, ff, ff, ff, ff, ff, ff, ff, ff, ff, ff, ff, ff, ff] (by kernel_rfl) (by kernel_rfl) (fun w' hw => v_ld tabOk (hw.box 1 rfl) (j := 0) rfl rfl rfl) (h.pick [0, 1, 2] rfl) rfl ?_
    refine a_take 5 rfl #[tt, tt, tt, tt, tt, tt, ff, ff, ff, ff, ff, ff, ff, ff, ff, ff, ff, ff, ff, ff, ff, ff, ff] (by kernel_rfl) (by kernel_rfl) (fun w' hw => v_p tabOk rfl w') (h.pick [0, 1, 2] rfl) rfl ?_
    obtain ⟨y2, hy2, hF⟩ := bindS hF
    have he2 := idx_some hy2
    obtain ⟨b2, o_2, q2, cs3, hp2, hq2, -, hr3, hc3⟩ := s6.at hy2
    obtain rfl := hr3
    refine a_take 6 rfl #[tt, tt, tt, tt, tt, tt, tt, ff, ff, ff, ff, ff, ff, ff, ff, ff, ff, ff, ff, ff, ff, ff, ff] (by kernel_rfl) (by kernel_rfl) (fun w' hw => v_ix tabOk hp2 hq2 ⟨he2.1, he2.2.1⟩ rfl rfl rfl rfl rfl rfl) (h.pick [0, 1, 2] rfl) rfl ?_
    refine a_take 7 rfl #[tt, tt, tt, tt, tt, tt, tt, tt, ff, ff, ff, ff, ff, ff, ff, ff, ff, ff, ff, ff, ff, ff, ff] (by kernel_rfl) (by kernel_rfl) (fun w' hw => v_ld tabOk (hc3.below hw.below) (j := 0) rfl rfl rfl) (h.pick [0, 1, 2] rfl) rfl ?_
    obtain ⟨y3, hy3, hF⟩ := bindS hF
    have he3 := idx_some hy3
    obtain ⟨b3, o_3, q3, cs4, hp3, hq3, -, hr4, hc4⟩ := (h.sl 0 rfl).1.at hy3
    obtain rfl := hr4
    refine a_take 8 rfl #[tt, tt, tt, tt, tt, tt, tt, tt, tt, ff, ff, ff, ff, ff, ff, ff, ff, ff, ff, ff, ff, ff, ff] (by kernel_rfl) (by kernel_rfl) (fun w' hw => v_ix tabOk hp3 hq3 ⟨he3.1, lt_ln he3.2.1 (h.sl 0 rfl).2⟩ rfl rfl rfl rfl rfl rfl) (h.pick [0, 1, 2] rfl) rfl ?_
    refine a_take 9 rfl #[tt, tt, tt, tt, tt, tt, tt, tt, tt, tt, ff, ff, ff, ff, ff, ff, ff, ff, ff, ff, ff, ff, ff] (by kernel_rfl) (by kernel_rfl) (fun w' hw => v_ld tabOk (own_cells (w1 := w) (S1 := fun _ => False) hw 0 rfl hy3 hp3 hq3 rfl) (j := 0) rfl rfl rfl) (h.pick [0, 1, 2] rfl) rfl ?_
    refine a_take 10 rfl #[tt, tt, tt, tt, tt, tt, tt, tt, tt, tt, tt, ff, ff, ff, ff, ff, ff, ff, ff, ff, ff, ff, ff] (by kernel_rfl) (by kernel_rfl) (fun w' hw => v_p tabOk rfl w') (h.pick [0, 1, 2] rfl) rfl ?_
    refine a_take 11 rfl #[tt, tt, tt, tt, tt, tt, tt, tt, tt, tt, tt, tt, ff, ff, ff, ff, ff, ff, ff, ff, ff, ff, ff] (by kernel_rfl) (by kernel_rfl) (fun w' hw => v_ld tabOk (hw.box 1 rfl) (j := 1) rfl rfl rfl) (h.pick [0, 1, 2] rfl) rfl ?_
    refine a_take 12 rfl #[tt, tt, tt, tt, tt, tt, tt, tt, tt, tt, tt, tt, tt, ff, ff, ff, ff, ff, ff, ff, ff, ff, ff] (by kernel_rfl) (by kernel_rfl) (fun w' hw => v_p tabOk rfl w') (h.pick [0, 1, 2] rfl) rfl ?_
    obtain ⟨y4, hy4, hF⟩ := bindS hF
    have he4 := idx_some hy4
    obtain ⟨b4, o_4, q4, cs5, hp4, hq4, -, hr5, hc5⟩ := s7.at hy4
    obtain rfl := hr5
    refine a_take 13 rfl #[tt, tt, tt, tt, tt, tt, tt, tt, tt, tt, tt, tt, tt, tt, ff, ff, ff, ff, ff, ff, ff, ff, ff] (by kernel_rfl) (by kernel_rfl) (fun w' hw => v_ix tabOk hp4 hq4 ⟨he4.1, he4.2.1⟩ rfl rfl rfl rfl rfl rfl) (h.pick [0, 1, 2] rfl) rfl ?_
    refine a_take 14 rfl #[tt, tt, tt, tt, tt, tt, tt, tt, tt, tt, tt, tt, tt, tt, tt, ff, ff, ff, ff, ff, ff, ff, ff] (by kernel_rfl) (by kernel_rfl) (fun w' hw => v_ld tabOk (hc5.below hw.below) (j := 0) rfl rfl rfl) (h.pick [0, 1, 2] rfl) rfl ?_
    refine a_take 15 rfl #[tt, tt, tt, tt, tt, tt, tt, tt, tt, tt, tt, tt, tt, tt, tt, tt, ff, ff, ff, ff, ff, ff, ff] (by kernel_rfl) (by kernel_rfl) (fun w' hw => v_p tabOk rfl w') (h.pick [0, 1, 2] rfl) rfl ?_
    refine a_take 16 rfl #[tt, tt, tt, tt, tt, tt, tt, tt, tt, tt, tt, tt, tt, tt, tt, tt, tt, ff, ff, ff, ff, ff, ff] (by kernel_rfl) (by kernel_rfl) (fun w' hw => v_p tabOk rfl w') (h.pick [0, 1, 2] rfl) rfl ?_
    obtain ⟨y5, hy5, hF⟩ := bindS hF
    have he5 := idx_some hy5
    obtain ⟨b5, o_5, q5, cs6, hp5, hq5, -, hr6, hc6⟩ := (h.sl 2 rfl).1.at hy5
    obtain rfl := hr6
    refine a_take 17 rfl #[tt, tt, tt, tt, tt, tt, tt, tt, tt, tt, tt, tt, tt, tt, tt, tt, tt, tt, ff, ff, ff, ff, ff] (by kernel_rfl) (by kernel_rfl) (fun w' hw => v_ix tabOk hp5 hq5 ⟨he5.1, lt_ln he5.2.1 (h.sl 2 rfl).2⟩ rfl rfl rfl rfl rfl rfl) (h.pick [0, 1, 2] rfl) rfl ?_
    refine a_take 18 rfl #[tt, tt, tt, tt, tt, tt, tt, tt, tt, tt, tt, tt, tt, tt, tt, tt, tt, tt, tt, ff, ff, ff, ff] (by kernel_rfl) (by kernel_rfl) (fun w' hw => v_ld tabOk (own_cells (w1 := w) (S1 := fun _ => False) hw 2 rfl hy5 hp5 hq5 rfl) (j := 0) rfl rfl rfl) (h.pick [0, 1, 2] rfl) rfl ?_
    refine a_take 19 rfl #[tt, tt, tt, tt, tt, tt, tt, tt, tt, tt, tt, tt, tt, tt, tt, tt, tt, tt, tt, tt, ff, ff, ff] (by kernel_rfl) (by kernel_rfl) (fun w' hw => v_p tabOk rfl w') (h.pick [0, 1, 2] rfl) rfl ?_
    refine a_take 20 rfl #[tt, tt, tt, tt, tt, tt, tt, tt, tt, tt, tt, tt, tt, tt, tt, tt, tt, tt, tt, tt, tt, ff, ff] (by kernel_rfl) (by kernel_rfl) (fun w' hw => v_p tabOk rfl w') (h.pick [0, 1, 2] rfl) rfl ?_
    obtain ⟨y6, hy6, hF⟩ := bindS hF
    have he6 := idx_some hy6
    obtain ⟨b6, o_6, q6, cs7, hp6, hq6, -, hr7, hc7⟩ := (h.sl 0 rfl).1.at hy6
    obtain rfl := hr7
    refine a_take 21 rfl #[tt, tt, tt, tt, tt, tt, tt, tt, tt, tt, tt, tt, tt, tt, tt, tt, tt, tt, tt, tt, tt, tt, ff] (by kernel_rfl) (by kernel_rfl) (fun w' hw => v_ix tabOk hp6 hq6 ⟨he6.1, lt_ln he6.2.1 (h.sl 0 rfl).2⟩ rfl rfl rfl rfl rfl rfl) (h.pick [0, 1, 2] rfl) rfl ?_
    refine a_only 22 rfl #[tt, tt, tt, tt, tt, tt, tt, tt, tt, tt, tt, tt, tt, tt, tt, tt, tt, tt, tt, tt, tt, tt, tt] (by kernel_rfl) (by kernel_rfl) ?_
    refine r_stown tabOk 0 0 (W64 (y3 + (W64 (y4 * y5)))) h rfl hy6 hp6 hq6 rfl hc7 rfl rfl rfl rfl rfl rfl rfl ?_
    intro w23 h
    refine a_goal (fun hs => absurd (hs 22 (by decide)) (by decide)) ?_
    refine a_done (by kernel_rfl) ?_
    exact r_blk (r_region (rp rfl rfl (rp rfl rfl (rp rfl rfl (r_nil (r_back m1 [(5, _), (6, _), (7, _), (8, _)] (Nat.lt_succ_self m1) ⟨rfl, rfl, rfl, rfl, trivial⟩ ⟨_, _, hF, rfl, h⟩))))))
  refine r_exit rfl ?_
  obtain rfl := someI hF; replace hF := hK1
  refine r_seq (r_region (rp rfl rfl (rp rfl rfl (r_nil ?_))))
  obtain rfl := someI hF
  exact r_retV tabOk (ρ := (List Int)) [GoT.v (List Int) [.slice p17 x1.length x1.length]] h ⟨rfl, trivial⟩ (PV.done h (pv_one (po_own 0 h rfl)))

def impl_Block_exactDelays_L1 (r1 : (List Int)) (y1 : TWire) : Nat → (List Int) → Int → Option ((List Int) × Int)
  | 0, _, _ => none
  | n + 1, x1, i1 =>
    bif decide (i1 < (y1.Sink.length : Int)) then
      (idx y1.Sink i1).bind fun y2 =>
      (idx r1 y2).bind fun y3 =>
      (appS x1 ([y3] : List Int)).bind fun x2 =>
      impl_Block_exactDelays_L1 r1 y1 n x2 (W64 (i1 + 1))
    else
      some (x1, i1)

def impl_Block_exactDelays (n : Nat) (b : TBlock) (net : Int) : Option (List Int) :=
  (impl_Block_nodeDelays n b net).bind fun r1 =>
  (idx b.Wires net).bind fun y1 =>
  (impl_Block_exactDelays_L1 r1 y1 n ([] : List Int) 0).bind fun o => match o with
  | (x1, _) =>
    some x1

theorem impl_Block_exactDelays_ok {n : Nat} {w : World} {b : TBlock} {net : Int} {cs1 : List Value} (ha1 : GoT.R w (old w) b cs1) {r : (List Int)} (hF : impl_Block_exactDelays n b net = some r) : RetV Tryz.prog 103 [GoT.v TBlock cs1, .int .i64 net] w r := by
  obtain ⟨p1, k1, p2, k2, p3, k3, p4, k4, p5, k5, rfl, s1, s2, s3, s4, s5⟩ := open_TBlock ha1
  refine retV_of_run Tryz.func103 rfl (m := 32) rfl rfl (fun h => ?_)
  rw [impl_Block_exactDelays] at hF
  refine r_seq (r_region (r_box h rfl rfl ?_))
  intro w1 bb1 h
  refine rp rfl rfl (r_nil (r_seq (r_region (r_v (v_ld tabOk (h.box 0 rfl) (j := 0) rfl rfl rfl) rfl (rp rfl rfl ?_)))))
  obtain ⟨r1, hr1, hF⟩ := bindS hF
  refine r_callL r1 h call144 (impl_Block_nodeDelays_ok (h.old ha1) hr1) rfl rfl rfl rfl ?_
  intro w2 S1 p6 k6 h
  refine rp rfl rfl (r_nil (r_seq (r_region (rp rfl rfl (r_nil (r_seq (r_seq (r_region (rp rfl rfl (r_v (v_ld tabOk (h.box 1 rfl) (j := 4) rfl rfl rfl) rfl (rp rfl rfl ?_)))))))))))
  obtain ⟨y1, hy1, hF⟩ := bindS hF
  have he1 := idx_some hy1
  obtain ⟨b1, o_1, q1, cs2, hp1, hq1, -, hr2, hc1⟩ := s5.at hy1
  obtain ⟨p7, k7, p8, k8, p9, k9, p10, k10, rfl, s6, s7, s8, s9⟩ := open_TWire hr2
  refine r_v (v_ix tabOk hp1 hq1 ⟨he1.1, he1.2.1⟩ rfl rfl rfl rfl rfl rfl) rfl (rp rfl rfl (r_v (v_ld tabOk (hc1.below h.below) (j := 3) rfl rfl rfl) rfl (rp rfl rfl (rp rfl rfl (r_nil ?_)))))
  replace h := h.nil (α := Int)
  obtain ⟨o1, hF, hK1⟩ := bindS hF
  refine r_block ?_
  replace h := h.pick [0, 1] rfl
  refine r_sub [(5, _), (6, _), (17, _), (18, _), (19, _)] ⟨rfl, rfl, rfl, rfl, rfl, trivial⟩ ?_
  refine r_loop (fun m e w' => ∃ (S2 : Nat → Prop) (p11 : Option Addr) (ln1 : Nat) (k11 : Nat) (x1 : (List Int)) (i1 : Int), impl_Block_exactDelays_L1 r1 y1 m x1 i1 = some o1 ∧ e = [(5, .slice p6 r1.length k6), (6, .slice p11 ln1 k11), (17, .slice p10 y1.Sink.length k10), (18, .int .i64 (y1.Sink.length : Int)), (19, .int .i64 i1)] ∧ SH w w' [Ch.own S2 (x1 : List Int) [.slice p11 ln1 k11], Ch.own S1 (r1 : List Int) [.slice p6 r1.length k6]]) n ⟨_, _, _, _, _, _, hF, rfl, h⟩ ?_
  rintro m1 e1 w3 ⟨S2, p11, ln1, k11, x1, i1, hF, rfl, h⟩
  obtain rfl := (h.sl 0 rfl).2
  rcases m1 with _ | m1
  · rw [impl_Block_exactDelays_L1] at hF
    cases hF
  rw [impl_Block_exactDelays_L1] at hF
  refine r_seq (r_region (rp rfl rfl (r_nil (r_seq ?_))))
  refine r_if rfl hF (fun hF => ?_) (fun hF => ?_)
  · refine r_skip (r_seq (r_block (r_seq (r_region ?_))))
    obtain ⟨y2, hy2, hF⟩ := bindS hF
    have he2 := idx_some hy2
    obtain ⟨b2, o_2, q2, cs3, hp2, hq2, -, hr3, hc3⟩ := s9.at hy2
    obtain rfl := hr3
    refine r_v (v_ix tabOk hp2 hq2 ⟨he2.1, he2.2.1⟩ rfl rfl rfl rfl rfl rfl) rfl (r_v (v_ld tabOk (hc3.below h.below) (j := 0) rfl rfl rfl) rfl (rp rfl rfl (r_nil (r_region (rp rfl rfl (rp rfl rfl (rp rfl rfl ?_)))))))
    obtain ⟨y3, hy3, hF⟩ := bindS hF
    have he3 := idx_some hy3
    obtain ⟨b3, o_3, q3, cs4, hp3, hq3, -, hr4, hc4⟩ := (h.sl 1 rfl).1.at hy3
    obtain rfl := hr4
    refine r_v (v_ix tabOk hp3 hq3 ⟨he3.1, lt_ln he3.2.1 (h.sl 1 rfl).2⟩ rfl rfl rfl rfl rfl rfl) rfl (r_v (v_ld tabOk hc4 (j := 0) rfl rfl rfl) rfl (r_bslice tabOk [.tmp 27] _ ([y3] : List Int) h rfl rfl rfl rfl rfl rfl rfl rfl rfl ⟨rfl, trivial⟩ rfl ?_))
    intro w4 p12 S3 h
    obtain ⟨x2, hx1, hF⟩ := bindS hF
    obtain ⟨g1, hx1⟩ := appS_some hx1
    refine r_appE tabOk 1 h rfl (h.sl 0 rfl).1 (h.sl 0 rfl).2 rfl rfl rfl rfl rfl rfl rfl rfl rfl g1 hx1 rfl ?_
    intro w5 p13 k12 S4 h
    refine rp rfl rfl (r_nil (r_blk (r_region (rp rfl rfl (rp rfl rfl (r_nil ?_))))))
    replace h := h.pick [1, 2] rfl
    exact r_back m1 [(5, _), (6, _), (17, _), (18, _), (19, _)] (Nat.lt_succ_self m1) ⟨rfl, rfl, rfl, rfl, rfl, trivial⟩ ⟨_, _, _, _, _, _, hF, rfl, h⟩
  refine r_exit rfl ?_
  obtain rfl := someI hF; replace hF := hK1
  refine r_seq (r_region (rp rfl rfl (rp rfl rfl (r_nil ?_))))
  obtain rfl := someI hF
  exact r_retV tabOk (ρ := (List Int)) [GoT.v (List Int) [.slice p11 x1.length k11]] h ⟨rfl, trivial⟩ (PV.done h (pv_one (po_own 0 h rfl)))

def impl_newView_L5 (x6 : (List Int)) (i4 : Int) (i5 : Int) (y7 : Int) : Nat → (List TLink) → Int → Option ((List TLink) × Int)
  | 0, _, _ => none
  | n + 1, x14, i6 =>
    bif decide (i6 < 2) then
      (idx x6 i4).bind fun y8 =>
      (appS x14 ([(⟨W64 ((W64 (2 * y8)) + i6), W64 ((W64 (2 * y7)) + i6), 2, i5⟩ : TLink)] : List TLink)).bind fun x15 =>
      impl_newView_L5 x6 i4 i5 y7 n x15 (W64 (i6 + 1))
    else
      some (x14, i6)

def impl_newView_L4 (x6 : (List Int)) (i4 : Int) (y6 : (List Int)) : Nat → (List TLink) → Int → Option ((List TLink) × Int)
  | 0, _, _ => none
  | n + 1, x13, i5 =>
    bif decide (i5 < (y6.length : Int)) then
      (idx y6 i5).bind fun y7 =>
      (impl_newView_L5 x6 i4 i5 y7 n x13 0).bind fun o => match o with
      | (x14, _) =>
        impl_newView_L4 x6 i4 y6 n x14 (W64 (i5 + 1))
    else
      some (x13, i5)

def impl_newView_L3 (a_0 : TBlock) (x5 : (List (List Int))) (x6 : (List Int)) : Nat → (List (List Int)) → (List Int) → (List TLink) → Int → Option ((List (List Int)) × (List Int) × (List TLink) × Int)
  | 0, _, _, _, _ => none
  | n + 1, x8, x9, x10, i4 =>
    bif decide (i4 < (a_0.Wires.length : Int)) then
      (impl_Block_nodeLoads n a_0 i4).bind fun r4 =>
      (idx r4 0).bind fun y5 =>
      (appS x9 ([y5] : List Int)).bind fun x11 =>
      (impl_Block_exactDelays n a_0 i4).bind fun r5 =>
      (appS x8 ([r5] : List (List Int))).bind fun x12 =>
      (idx x5 i4).bind fun y6 =>
      (impl_newView_L4 x6 i4 y6 n x10 0).bind fun o => match o with
      | (x13, _) =>
        impl_newView_L3 a_0 x5 x6 n x12 x11 x13 (W64 (i4 + 1))
    else
      some (x8, x9, x10, i4)

def impl_newView_L2 (r1 : (List Tplace)) : Nat → (List (List Int)) → (List Int) → Int → Option ((List (List Int)) × (List Int) × Int)
  | 0, _, _, _ => none
  | n + 1, x5, x6, i3 =>
    bif decide (i3 < (r1.length : Int)) then
      (idx r1 i3).bind fun y2 =>
      bif y2.drives then
        (idx x6 y2.net).bind fun _ =>
        impl_newView_L2 r1 n x5 (setS x6 y2.net i3) (W64 (i3 + 1))
      else
        (idx x5 y2.net).bind fun y4 =>
        (appS y4 ([i3] : List Int)).bind fun x7 =>
        impl_newView_L2 r1 n (setS x5 y2.net x7) x6 (W64 (i3 + 1))
    else
      some (x5, x6, i3)

def impl_newView_L1 (a_0 : TBlock) : Nat → (List TLink) → Int → Int → Option ((List TLink) × Int × Int)
  | 0, _, _, _ => none
  | n + 1, x1, i1, i2 =>
    bif decide (i2 < (a_0.Design.Instances.length : Int)) then
      (idx a_0.Design.Instances i2).bind fun y1 =>
      (impl_Block_cellLinks n a_0 y1 i1).bind fun r2 =>
      (appS x1 r2).bind fun x2 =>
      (impl_length_int64 n y1.Nets).bind fun r3 =>
      impl_newView_L1 a_0 n x2 (W64 (i1 + r3)) (W64 (i2 + 1))
    else
      some (x1, i1, i2)

def impl_newView (n : Nat) (a_0 : TBlock) : Option (Option Tview) :=
  (impl_Design_places n (⟨a_0.Design.Instances, a_0.Design.Nets, a_0.Design.Ports⟩ : TDesign)).bind fun r1 =>
  (impl_newView_L1 a_0 n ([] : List TLink) 0 0).bind fun o => match o with
  | (x1, _, _) =>
    (mkS (a_0.Wires.length : Int) (0 : Int)).bind fun x3 =>
    (mkS (a_0.Wires.length : Int) ([] : (List Int))).bind fun x4 =>
    (impl_newView_L2 r1 n x4 x3 0).bind fun o => match o with
    | (x5, x6, _) =>
      (impl_newView_L3 a_0 x5 x6 n ([] : List (List Int)) ([] : List Int) x1 0).bind fun o => match o with
      | (x8, x9, x10, _) =>
        some (some (⟨(⟨(⟨a_0.Library.Cells⟩ : TLibrary), (⟨a_0.Design.Instances, a_0.Design.Nets, a_0.Design.Ports⟩ : TDesign), a_0.Wires⟩ : TBlock), r1, x10, x9, x8, []⟩ : Tview))

theorem impl_newView_ok {n : Nat} {w : World} {A : Nat → Prop} (hA : ∀ b, A b → old w b) {a_0 : TBlock} {cs1 : List Value} (ha1 : GoT.R w A a_0 cs1) {r : (Option Tview)} (hF : impl_newView n a_0 = some r) : RetG Tryz.prog 54 [GoT.v TBlock cs1] w A r := by
  obtain ⟨p1, k1, p2, k2, p3, k3, p4, k4, p5, k5, rfl, s1, s2, s3, s4, s5⟩ := open_TBlock ha1
  have hg := Rg.start hA
  refine retG_of_run Tryz.func54 rfl (m := 156) rfl rfl (fun h => ?_)
  rw [impl_newView] at hF
  refine r_seq (r_region (r_box h rfl rfl ?_))
  intro w1 bb1 h
  refine rp rfl rfl (r_nil (r_seq ?_))
  refine r_any [] (fun w' => SH w w' [Ch.box bb1 [.slice p1 a_0.Library.Cells.length k1, .slice p2 a_0.Design.Instances.length k2, .slice p3 a_0.Design.Nets.length k3, .slice p4 a_0.Design.Ports.length k4, .slice p5 a_0.Wires.length k5] 44]) rfl 7 rfl #[ff, ff, ff, ff, ff, ff, ff] (by kernel_rfl) (fun w2 hb => ?_)
  replace h := h.ext hb
  clear hb
  refine a_take 0 rfl #[tt, ff, ff, ff, ff, ff, ff] (by kernel_rfl) (by kernel_rfl) (fun w' hw => v_ld tabOk (hw.box 0 rfl) (j := 0) rfl rfl rfl) (h.pick [0] rfl) rfl ?_
  refine a_take 1 rfl #[tt, tt, ff, ff, ff, ff, ff] (by kernel_rfl) (by kernel_rfl) (fun w' hw => v_p tabOk rfl w') (h.pick [0] rfl) rfl ?_
  refine a_take 2 rfl #[tt, tt, tt, ff, ff, ff, ff] (by kernel_rfl) (by kernel_rfl) (fun w' hw => v_ld tabOk (hw.box 0 rfl) (j := 1) rfl rfl rfl) (h.pick [0] rfl) rfl ?_
  refine a_only 3 rfl #[tt, tt, tt, tt, ff, ff, ff] (by kernel_rfl) (by kernel_rfl) ?_
  obtain ⟨r1, hr1, hF⟩ := bindS hF
  refine r_callL r1 h call79 (impl_Design_places_ok (mkR_TDesign (⟨a_0.Design.Instances, a_0.Design.Nets, a_0.Design.Ports⟩ : TDesign) (h.oldS (s2.mono hg.old)) (h.oldS (s3.mono hg.old)) (h.oldS (s4.mono hg.old))) hr1) rfl rfl rfl rfl ?_
  intro w3 S1 p6 k6 h
  refine a_goal (fun _ => (h.pick [1] rfl)) ?_
  refine a_take 4 rfl #[tt, tt, tt, tt, tt, ff, ff] (by kernel_rfl) (by kernel_rfl) (fun w' hw => v_build tabOk [0, 1] [.tmp 15, .tmp 18] rfl rfl rfl rfl rfl rfl rfl rfl) (h.pick [1] rfl) rfl ?_
  refine a_only 5 rfl #[tt, tt, tt, tt, tt, tt, ff] (by kernel_rfl) (by kernel_rfl) ?_
  refine r_box h rfl rfl ?_
  intro w4 bb2 h
  refine a_goal (fun _ => (h.pick [2] rfl)) ?_
  refine a_take 6 rfl #[tt, tt, tt, tt, tt, tt, tt] (by kernel_rfl) (by kernel_rfl) (fun w' hw => v_p tabOk rfl w') (h.pick [2] rfl) rfl ?_
  refine a_done (by kernel_rfl) ?_
  refine r_seq (r_region (rp rfl rfl (r_nil (r_seq (r_seq (r_region (rp rfl rfl (rp rfl rfl (r_v (v_ld tabOk (h.box 2 rfl) (j := 1) rfl rfl rfl) rfl (rp rfl rfl (rp rfl rfl ?_)))))))))))
  refine r_nil ?_
  replace h := h.nil (α := TLink)
  obtain ⟨o1, hF, hK1⟩ := bindS hF
  refine r_block (r_sub [(1, _), (3, _), (4, _), (23, _), (24, _), (25, _)] ⟨rfl, rfl, rfl, rfl, rfl, rfl, trivial⟩ ?_)
  refine r_loop (fun m e w' => ∃ (S2 : Nat → Prop) (p7 : Option Addr) (ln1 : Nat) (k7 : Nat) (x1 : (List TLink)) (i1 : Int) (i2 : Int), impl_newView_L1 a_0 m x1 i1 i2 = some o1 ∧ e = [(1, .pointer (some ⟨bb1, 0, none⟩)), (3, .pointer (some ⟨bb2, 0, none⟩)), (4, .int .i64 i1), (23, .slice p2 a_0.Design.Instances.length k2), (24, .int .i64 (a_0.Design.Instances.length : Int)), (25, .int .i64 i2)] ∧ SH w w' [Ch.own S2 (x1 : List TLink) [.slice p7 ln1 k7], Ch.box bb2 [.slice p1 a_0.Library.Cells.length k1, .slice p2 a_0.Design.Instances.length k2, .slice p3 a_0.Design.Nets.length k3, .slice p4 a_0.Design.Ports.length k4, .slice p5 a_0.Wires.length k5, .slice p6 r1.length k6, .slice p7 ln1 k7, .slice none 0 0, .slice none 0 0, .slice none 0 0] 151, Ch.own S1 (r1 : List Tplace) [.slice p6 r1.length k6], Ch.box bb1 [.slice p1 a_0.Library.Cells.length k1, .slice p2 a_0.Design.Instances.length k2, .slice p3 a_0.Design.Nets.length k3, .slice p4 a_0.Design.Ports.length k4, .slice p5 a_0.Wires.length k5] 44]) n ⟨_, _, _, _, _, _, _, hF, rfl, h⟩ ?_
  rintro m1 e1 w5 ⟨S2, p7, ln1, k7, x1, i1, i2, hF, rfl, h⟩
  obtain rfl := (h.sl 0 rfl).2
  rcases m1 with _ | m1
  · rw [impl_newView_L1] at hF
    cases hF
  rw [impl_newView_L1] at hF
  refine r_seq (r_region (rp rfl rfl (r_nil (r_seq ?_))))
  refine r_if rfl hF (fun hF => ?_) (fun hF => ?_)
  · refine r_skip (r_seq (r_block (r_seq (r_region ?_))))
    obtain ⟨y1, hy1, hF⟩ := bindS hF
    have he1 := idx_some hy1
    obtain ⟨b1, o_1, q1, cs2, hp1, hq1, -, hr2, hc2⟩ := s2.at hy1
    obtain ⟨p8, k8, rfl, s6⟩ := open_TInstance hr2
    refine r_v (v_ix tabOk hp1 hq1 ⟨he1.1, he1.2.1⟩ rfl rfl rfl rfl rfl rfl) rfl (r_v (v_ld tabOk (hc2.below h.below) (j := 0) rfl rfl rfl) rfl (r_alloc tabOk h rfl rfl rfl ?_))
    intro w6 bb3 h
    refine r_stbox tabOk 0 h rfl rfl rfl rfl rfl rfl rfl ?_
    intro w7 h
    replace h : SH _ _ [Ch.box bb3 [.string y1.Name, .int .i64 y1.Cell, .slice p8 y1.Nets.length k8] 153, Ch.own S2 (x1 : List TLink) [.slice p7 x1.length k7], Ch.box bb2 [.slice p1 a_0.Library.Cells.length k1, .slice p2 a_0.Design.Instances.length k2, .slice p3 a_0.Design.Nets.length k3, .slice p4 a_0.Design.Ports.length k4, .slice p5 a_0.Wires.length k5, .slice p6 r1.length k6, .slice p7 x1.length k7, .slice none 0 0, .slice none 0 0, .slice none 0 0] 151, Ch.own S1 (r1 : List Tplace) [.slice p6 r1.length k6], Ch.box bb1 [.slice p1 a_0.Library.Cells.length k1, .slice p2 a_0.Design.Instances.length k2, .slice p3 a_0.Design.Nets.length k3, .slice p4 a_0.Design.Ports.length k4, .slice p5 a_0.Wires.length k5] 44] := h
    refine r_nil (r_seq ?_)
    refine r_any [12] (fun w' => SH w w' [Ch.box bb3 [.string y1.Name, .int .i64 y1.Cell, .slice p8 y1.Nets.length k8] 153, Ch.box bb2 [.slice p1 a_0.Library.Cells.length k1, .slice p2 a_0.Design.Instances.length k2, .slice p3 a_0.Design.Nets.length k3, .slice p4 a_0.Design.Ports.length k4, .slice p5 a_0.Wires.length k5, .slice p6 r1.length k6, .slice p7 x1.length k7, .slice none 0 0, .slice none 0 0, .slice none 0 0] 151, Ch.box bb1 [.slice p1 a_0.Library.Cells.length k1, .slice p2 a_0.Design.Instances.length k2, .slice p3 a_0.Design.Nets.length k3, .slice p4 a_0.Design.Ports.length k4, .slice p5 a_0.Wires.length k5] 44]) rfl 13 rfl #[ff, ff, ff, ff, ff, ff, ff, ff, ff, ff, ff, ff, ff] (by kernel_rfl) (fun w8 hb => ?_)
    replace h := h.ext hb
    clear hb
    refine a_take 0 rfl #[tt, ff, ff, ff, ff, ff, ff, ff, ff, ff, ff, ff, ff] (by kernel_rfl) (by kernel_rfl) (fun w' hw => v_p tabOk rfl w') (h.pick [0, 2, 4] rfl) rfl ?_
    refine a_take 1 rfl #[tt, tt, ff, ff, ff, ff, ff, ff, ff, ff, ff, ff, ff] (by kernel_rfl) (by kernel_rfl) (fun w' hw => v_p tabOk rfl w') (h.pick [0, 2, 4] rfl) rfl ?_
    refine a_take 2 rfl #[tt, tt, tt, ff, ff, ff, ff, ff, ff, ff, ff, ff, ff] (by kernel_rfl) (by kernel_rfl) (fun w' hw => v_p tabOk rfl w') (h.pick [0, 2, 4] rfl) rfl ?_
    refine a_take 3 rfl #[tt, tt, tt, tt, ff, ff, ff, ff, ff, ff, ff, ff, ff] (by kernel_rfl) (by kernel_rfl) (fun w' hw => v_p tabOk rfl w') (h.pick [0, 2, 4] rfl) rfl ?_
    refine a_take 4 rfl #[tt, tt, tt, tt, tt, ff, ff, ff, ff, ff, ff, ff, ff] (by kernel_rfl) (by kernel_rfl) (fun w' hw => v_ld tabOk (hw.box 1 rfl) (j := 6) rfl rfl rfl) (h.pick [0, 2, 4] rfl) rfl ?_
    refine a_take 5 rfl #[tt, tt, tt, tt, tt, tt, ff, ff, ff, ff, ff, ff, ff] (by kernel_rfl) (by kernel_rfl) (fun w' hw => v_ld tabOk (hw.box 2 rfl) (j := 0) rfl rfl rfl) (h.pick [0, 2, 4] rfl) rfl ?_
    refine a_take 6 rfl #[tt, tt, tt, tt, tt, tt, tt, ff, ff, ff, ff, ff, ff] (by kernel_rfl) (by kernel_rfl) (fun w' hw => v_ld tabOk (hw.box 0 rfl) (j := 0) rfl rfl rfl) (h.pick [0, 2, 4] rfl) rfl ?_
    refine a_take 7 rfl #[tt, tt, tt, tt, tt, tt, tt, tt, ff, ff, ff, ff, ff] (by kernel_rfl) (by kernel_rfl) (fun w' hw => v_p tabOk rfl w') (h.pick [0, 2, 4] rfl) rfl ?_
    refine a_only 8 rfl #[tt, tt, tt, tt, tt, tt, tt, tt, tt, ff, ff, ff, ff] (by kernel_rfl) (by kernel_rfl) ?_
    obtain ⟨r2, hr3, hF⟩ := bindS hF
    refine r_callL r2 h call100 (impl_Block_cellLinks_ok (h.old (GoT.mono ha1 hg.old)) (mkR_TInstance y1 (h.oldS (s6.mono hg.old))) hr3) rfl rfl rfl rfl ?_
    intro w9 S3 p9 k9 h
    refine a_goal (fun _ => (h.pick [1, 3, 5] rfl)) ?_
    refine a_only 9 rfl #[tt, tt, tt, tt, tt, tt, tt, tt, tt, tt, ff, ff, ff] (by kernel_rfl) (by kernel_rfl) ?_
    obtain ⟨x2, hx1, hF⟩ := bindS hF
    obtain ⟨g1, hx1⟩ := appS_some hx1
    refine r_appE tabOk 2 h rfl (h.sl 0 rfl).1 (h.sl 0 rfl).2 rfl rfl rfl rfl rfl rfl rfl rfl rfl g1 hx1 rfl ?_
    intro w10 p10 k10 S4 h
    refine a_goal (fun _ => (h.pick [1, 3, 5] rfl)) ?_
    refine a_only 10 rfl #[tt, tt, tt, tt, tt, tt, tt, tt, tt, tt, tt, ff, ff] (by kernel_rfl) (by kernel_rfl) ?_
    refine rp rfl rfl ?_
    refine a_goal (fun _ => (h.pick [1, 3, 5] rfl)) ?_
    refine a_take 11 rfl #[tt, tt, tt, tt, tt, tt, tt, tt, tt, tt, tt, tt, ff] (by kernel_rfl) (by kernel_rfl) (fun w' hw => v_p tabOk rfl w') (h.pick [1, 3, 5] rfl) rfl ?_
    refine a_only 12 rfl #[tt, tt, tt, tt, tt, tt, tt, tt, tt, tt, tt, tt, tt] (by kernel_rfl) (by kernel_rfl) ?_
    refine r_stbox tabOk 3 h rfl rfl rfl rfl rfl rfl rfl ?_
    intro w11 h
    replace h : SH _ _ [Ch.own S3 (r2 : List TLink) [.slice p9 r2.length k9], Ch.box bb3 [.string y1.Name, .int .i64 y1.Cell, .slice p8 y1.Nets.length k8] 153, Ch.own S4 (x2 : List TLink) [.slice p10 x2.length k10], Ch.box bb2 [.slice p1 a_0.Library.Cells.length k1, .slice p2 a_0.Design.Instances.length k2, .slice p3 a_0.Design.Nets.length k3, .slice p4 a_0.Design.Ports.length k4, .slice p5 a_0.Wires.length k5, .slice p6 r1.length k6, .slice p10 x2.length k10, .slice none 0 0, .slice none 0 0, .slice none 0 0] 151, Ch.own S1 (r1 : List Tplace) [.slice p6 r1.length k6], Ch.box bb1 [.slice p1 a_0.Library.Cells.length k1, .slice p2 a_0.Design.Instances.length k2, .slice p3 a_0.Design.Nets.length k3, .slice p4 a_0.Design.Ports.length k4, .slice p5 a_0.Wires.length k5] 44] := h
    refine a_goal (fun hs => absurd (hs 12 (by decide)) (by decide)) ?_
    refine a_done (by kernel_rfl) ?_
    refine r_region (rp rfl rfl (rp rfl rfl (r_v (v_ld tabOk (h.box 1 rfl) (j := 2) rfl rfl rfl) rfl ?_)))
    obtain ⟨r3, hr4, hF⟩ := bindS hF
    refine r_callI r3 h call101 (impl_length_int64_ok ⟨_, _, rfl, (h.oldS (s6.mono hg.old))⟩ hr4) rfl rfl rfl rfl ?_
    intro w12 h
    refine rp rfl rfl (rp rfl rfl (r_nil (r_blk (r_region (rp rfl rfl (rp rfl rfl (r_nil ?_)))))))
    replace h := h.pick [2, 3, 4, 5] rfl
    exact r_back m1 [(1, _), (3, _), (4, _), (23, _), (24, _), (25, _)] (Nat.lt_succ_self m1) ⟨rfl, rfl, rfl, rfl, rfl, rfl, trivial⟩ ⟨_, _, _, _, _, _, _, hF, rfl, h⟩
  refine r_exit rfl ?_
  obtain rfl := someI hF; replace hF := hK1
  refine r_seq (r_region (rp rfl rfl (r_v (v_ld tabOk (h.box 3 rfl) (j := 4) rfl rfl rfl) rfl (rp rfl rfl ?_))))
  obtain ⟨x3, hx2, hF⟩ := bindS hF
  obtain ⟨g2, g3, hx2⟩ := mkS_some hx2
  refine r_makeE tabOk Int h rfl rfl rfl rfl rfl rfl rfl rfl rfl g2 g3 hx2 rfl ?_
  intro w13 S5 p11 h
  refine rp rfl rfl (r_nil (r_seq (r_region (rp rfl rfl (r_v (v_ld tabOk (h.box 4 rfl) (j := 4) rfl rfl rfl) rfl (rp rfl rfl ?_))))))
  obtain ⟨x4, hx3, hF⟩ := bindS hF
  obtain ⟨g4, g5, hx3⟩ := mkS_some hx3
  refine r_makeE tabOk (List Int) h rfl rfl rfl rfl rfl rfl rfl rfl rfl g4 g5 hx3 rfl ?_
  intro w14 S6 p12 h
  refine rp rfl rfl (r_nil (r_seq (r_seq (r_region (rp rfl rfl (rp rfl rfl (rp rfl rfl (r_v (v_ld tabOk (h.box 3 rfl) (j := 5) rfl rfl rfl) rfl (rp rfl rfl (rp rfl rfl (r_nil ?_)))))))))))
  obtain ⟨o2, hF, hK2⟩ := bindS hF
  refine r_block (r_sub [(1, _), (3, _), (7, _), (8, _), (58, _), (59, _), (60, _)] ⟨rfl, rfl, rfl, rfl, rfl, rfl, rfl, trivial⟩ ?_)
  refine r_loop (fun m e w' => ∃ (S7 : Nat → Prop) (x5 : (List (List Int))) (x6 : (List Int)) (i3 : Int), impl_newView_L2 r1 m x5 x6 i3 = some o2 ∧ e = [(1, .pointer (some ⟨bb1, 0, none⟩)), (3, .pointer (some ⟨bb2, 0, none⟩)), (7, .slice p11 x3.length x3.length), (8, .slice p12 x4.length x4.length), (58, .slice p6 r1.length k6), (59, .int .i64 (r1.length : Int)), (60, .int .i64 i3)] ∧ SH w w' [Ch.own S7 (x5 : List (List Int)) [.slice p12 x4.length x4.length], Ch.own S5 (x6 : List Int) [.slice p11 x3.length x3.length], Ch.own S2 (x1 : List TLink) [.slice p7 x1.length k7], Ch.box bb2 [.slice p1 a_0.Library.Cells.length k1, .slice p2 a_0.Design.Instances.length k2, .slice p3 a_0.Design.Nets.length k3, .slice p4 a_0.Design.Ports.length k4, .slice p5 a_0.Wires.length k5, .slice p6 r1.length k6, .slice p7 x1.length k7, .slice none 0 0, .slice none 0 0, .slice none 0 0] 151, Ch.own S1 (r1 : List Tplace) [.slice p6 r1.length k6], Ch.box bb1 [.slice p1 a_0.Library.Cells.length k1, .slice p2 a_0.Design.Instances.length k2, .slice p3 a_0.Design.Nets.length k3, .slice p4 a_0.Design.Ports.length k4, .slice p5 a_0.Wires.length k5] 44]) n ⟨_, _, _, _, hF, rfl, h⟩ ?_
  rintro m2 e2 w15 ⟨S7, x5, x6, i3, hF, rfl, h⟩
  rcases m2 with _ | m2
  · rw [impl_newView_L2] at hF
    cases hF
  rw [impl_newView_L2] at hF
  refine r_seq (r_region (rp rfl rfl (r_nil (r_seq ?_))))
  refine r_if rfl hF (fun hF => ?_) (fun hF => ?_)
  · refine r_skip (r_seq (r_block (r_seq (r_region (rp rfl rfl ?_)))))
    obtain ⟨y2, hy2, hF⟩ := bindS hF
    have he2 := idx_some hy2
    obtain ⟨b2, o_2, q2, cs3, hp2, hq2, -, hr5, hc4⟩ := (h.sl 4 rfl).1.at hy2
    obtain rfl := open_Tplace hr5
    refine r_v (v_ix tabOk hp2 hq2 ⟨he2.1, lt_ln he2.2.1 (h.sl 4 rfl).2⟩ rfl rfl rfl rfl rfl rfl) rfl (r_v (v_ld tabOk hc4 (j := 0) rfl rfl rfl) rfl (r_alloc tabOk h rfl rfl rfl ?_))
    intro w16 bb4 h
    refine rp rfl rfl (r_stbox tabOk 0 h rfl rfl rfl rfl rfl rfl rfl ?_)
    intro w17 h
    refine r_nil (r_seq (r_region (rp rfl rfl (r_v (v_ld tabOk (h.box 0 rfl) (j := 3) rfl rfl rfl) rfl (r_nil ?_)))))
    refine r_if rfl hF (fun hF => ?_) (fun hF => ?_)
    · refine r_region (rp rfl rfl (rp rfl rfl (r_v (v_ld tabOk (h.box 0 rfl) (j := 2) rfl rfl rfl) rfl (rp rfl rfl ?_))))
      obtain ⟨y3, hy3, hF⟩ := bindS hF
      have he3 := idx_some hy3
      obtain ⟨b3, o_3, q3, cs4, hp3, hq3, -, hr6, hc6⟩ := (h.sl 2 rfl).1.at hy3
      obtain rfl := hr6
      refine r_v (v_ix tabOk hp3 hq3 ⟨he3.1, lt_ln he3.2.1 (h.sl 2 rfl).2⟩ rfl rfl rfl rfl rfl rfl) rfl (r_stown tabOk 2 0 i3 h rfl hy3 hp3 hq3 rfl hc6 rfl rfl rfl rfl rfl rfl rfl ?_)
      intro w18 h
      refine r_nil (r_blk (r_region (rp rfl rfl (rp rfl rfl (r_nil ?_)))))
      replace h := h.pick [1, 2, 3, 4, 5, 6] rfl
      exact r_back m2 [(1, _), (3, _), (7, _), (8, _), (58, _), (59, _), (60, _)] (Nat.lt_succ_self m2) ⟨rfl, rfl, rfl, rfl, rfl, rfl, rfl, trivial⟩ ⟨_, _, _, _, hF, rfl, h⟩
    obtain ⟨y4, hy4, hF⟩ := bindS hF
    have he4 := idx_some hy4
    replace h := h.pick [1, 0, 2, 3, 4, 5, 6] rfl
    obtain ⟨S8, S9, cs5, h⟩ := h.take hy4
    obtain ⟨p13, k11, rfl, -⟩ := h.own 0 rfl
    refine r_any [12] (fun w' => SH w w' [Ch.hole S9 (x5 : List (List Int)) p12 x4.length x4.length (y2.net).toNat [.slice p13 y4.length k11], Ch.box bb4 [.int .i64 y2.instance_, .int .i64 y2.pin, .int .i64 y2.net, .bool y2.drives] 126]) rfl 13 rfl #[ff, ff, ff, ff, ff, ff, ff, ff, ff, ff, ff, ff, ff] (by kernel_rfl) (fun w19 hb => ?_)
    replace h := h.ext hb
    clear hb
    refine a_take 0 rfl #[tt, ff, ff, ff, ff, ff, ff, ff, ff, ff, ff, ff, ff] (by kernel_rfl) (by kernel_rfl) (fun w' hw => v_p tabOk rfl w') (h.pick [1, 2] rfl) rfl ?_
    refine a_take 1 rfl #[tt, tt, ff, ff, ff, ff, ff, ff, ff, ff, ff, ff, ff] (by kernel_rfl) (by kernel_rfl) (fun w' hw => v_p tabOk rfl w') (h.pick [1, 2] rfl) rfl ?_
    refine a_take 2 rfl #[tt, tt, tt, ff, ff, ff, ff, ff, ff, ff, ff, ff, ff] (by kernel_rfl) (by kernel_rfl) (fun w' hw => v_ld tabOk (hw.box 1 rfl) (j := 2) rfl rfl rfl) (h.pick [1, 2] rfl) rfl ?_
    refine a_take 3 rfl #[tt, tt, tt, tt, ff, ff, ff, ff, ff, ff, ff, ff, ff] (by kernel_rfl) (by kernel_rfl) (fun w' hw => v_p tabOk rfl w') (h.pick [1, 2] rfl) rfl ?_
    refine a_take 4 rfl #[tt, tt, tt, tt, tt, ff, ff, ff, ff, ff, ff, ff, ff] (by kernel_rfl) (by kernel_rfl) (fun w' hw => v_p tabOk rfl w') (h.pick [1, 2] rfl) rfl ?_
    refine a_take 5 rfl #[tt, tt, tt, tt, tt, tt, ff, ff, ff, ff, ff, ff, ff] (by kernel_rfl) (by kernel_rfl) (fun w' hw => v_ld tabOk (hw.box 1 rfl) (j := 2) rfl rfl rfl) (h.pick [1, 2] rfl) rfl ?_
    obtain ⟨b4, hp4, -, -, hl2⟩ := h.holeAt 1 rfl
    obtain ⟨q4, hq4⟩ : ∃ q, q = 0 + (y2.net).toNat * GoT.k (List Int) := ⟨_, rfl⟩
    refine a_take 6 rfl #[tt, tt, tt, tt, tt, tt, tt, ff, ff, ff, ff, ff, ff] (by kernel_rfl) (by kernel_rfl) (fun w' hw => v_ix tabOk hp4 hq4 ⟨he4.1, lt_ln he4.2.1 hl2⟩ rfl rfl rfl rfl rfl rfl) (h.pick [1, 2] rfl) rfl ?_
    refine a_take 7 rfl #[tt, tt, tt, tt, tt, tt, tt, tt, ff, ff, ff, ff, ff] (by kernel_rfl) (by kernel_rfl) (fun w' hw => v_ld tabOk (hole_cells hw 0 rfl hp4 hq4) (j := 0) rfl rfl rfl) (h.pick [1, 2] rfl) rfl ?_
    refine a_take 8 rfl #[tt, tt, tt, tt, tt, tt, tt, tt, tt, ff, ff, ff, ff] (by kernel_rfl) (by kernel_rfl) (fun w' hw => v_p tabOk rfl w') (h.pick [1, 2] rfl) rfl ?_
    refine a_only 9 rfl #[tt, tt, tt, tt, tt, tt, tt, tt, tt, tt, ff, ff, ff] (by kernel_rfl) (by kernel_rfl) ?_
    refine r_bslice tabOk [.tmp 80] _ ([i3] : List Int) h rfl rfl rfl rfl rfl rfl rfl rfl rfl ⟨rfl, trivial⟩ rfl ?_
    intro w20 p14 S10 h
    refine a_goal (fun _ => (h.pick [2, 3] rfl)) ?_
    refine a_only 10 rfl #[tt, tt, tt, tt, tt, tt, tt, tt, tt, tt, tt, ff, ff] (by kernel_rfl) (by kernel_rfl) ?_
    obtain ⟨x7, hx4, hF⟩ := bindS hF
    obtain ⟨g6, hx4⟩ := appS_some hx4
    refine r_appE tabOk 1 h rfl (h.sl 0 rfl).1 (h.sl 0 rfl).2 rfl rfl rfl rfl rfl rfl rfl rfl rfl g6 hx4 rfl ?_
    intro w21 p15 k12 S11 h
    refine a_goal (fun _ => (h.pick [2, 3] rfl)) ?_
    obtain ⟨b5, hp5, -, -, hl4⟩ := h.holeAt 2 rfl
    obtain ⟨q5, hq5⟩ : ∃ q, q = 0 + (y2.net).toNat * GoT.k (List Int) := ⟨_, rfl⟩
    refine a_take 11 rfl #[tt, tt, tt, tt, tt, tt, tt, tt, tt, tt, tt, tt, ff] (by kernel_rfl) (by kernel_rfl) (fun w' hw => v_ix tabOk hp5 hq5 ⟨he4.1, lt_ln he4.2.1 hl4⟩ rfl rfl rfl rfl rfl rfl) (h.pick [2, 3] rfl) rfl ?_
    refine a_only 12 rfl #[tt, tt, tt, tt, tt, tt, tt, tt, tt, tt, tt, tt, tt] (by kernel_rfl) (by kernel_rfl) ?_
    refine r_sthole tabOk 2 0 h rfl hp5 hq5 rfl rfl rfl rfl rfl rfl ?_
    intro w22 h
    refine a_goal (fun hs => absurd (hs 12 (by decide)) (by decide)) ?_
    refine a_done (by kernel_rfl) ?_
    refine r_blk (r_region (rp rfl rfl (rp rfl rfl (r_nil ?_))))
    replace h := h.pick [1, 2, 0, 3, 4, 5, 6, 7, 8] rfl
    replace h := h.put
    obtain ⟨S12, h⟩ := sh_any (S := _) h
    replace h := h.pick [0, 3, 4, 5, 6, 7] rfl
    exact r_back m2 [(1, _), (3, _), (7, _), (8, _), (58, _), (59, _), (60, _)] (Nat.lt_succ_self m2) ⟨rfl, rfl, rfl, rfl, rfl, rfl, rfl, trivial⟩ ⟨_, _, _, _, hF, rfl, h⟩
  refine r_exit rfl ?_
  obtain rfl := someI hF; replace hF := hK2
  refine r_seq (r_seq (r_region (rp rfl rfl (r_v (v_ld tabOk (h.box 5 rfl) (j := 4) rfl rfl rfl) rfl (rp rfl rfl (rp rfl rfl (r_nil ?_)))))))
  replace h := h.nil (α := Int)
  replace h := h.nil (α := (List Int))
  obtain ⟨o3, hF, hK3⟩ := bindS hF
  refine r_block (r_sub [(1, _), (3, _), (7, _), (8, _), (87, _), (88, _)] ⟨rfl, rfl, rfl, rfl, rfl, rfl, trivial⟩ ?_)
  refine r_loop (fun m e w' => ∃ (S13 : Nat → Prop) (p16 : Option Addr) (ln2 : Nat) (k13 : Nat) (x8 : (List (List Int))) (S14 : Nat → Prop) (p17 : Option Addr) (ln3 : Nat) (k14 : Nat) (x9 : (List Int)) (S15 : Nat → Prop) (p18 : Option Addr) (ln4 : Nat) (k15 : Nat) (x10 : (List TLink)) (i4 : Int), impl_newView_L3 a_0 x5 x6 m x8 x9 x10 i4 = some o3 ∧ e = [(1, .pointer (some ⟨bb1, 0, none⟩)), (3, .pointer (some ⟨bb2, 0, none⟩)), (7, .slice p11 x3.length x3.length), (8, .slice p12 x4.length x4.length), (87, .int .i64 (a_0.Wires.length : Int)), (88, .int .i64 i4)] ∧ SH w w' [Ch.own S13 (x8 : List (List Int)) [.slice p16 ln2 k13], Ch.own S14 (x9 : List Int) [.slice p17 ln3 k14], Ch.own S7 (x5 : List (List Int)) [.slice p12 x4.length x4.length], Ch.own S5 (x6 : List Int) [.slice p11 x3.length x3.length], Ch.own S15 (x10 : List TLink) [.slice p18 ln4 k15], Ch.box bb2 [.slice p1 a_0.Library.Cells.length k1, .slice p2 a_0.Design.Instances.length k2, .slice p3 a_0.Design.Nets.length k3, .slice p4 a_0.Design.Ports.length k4, .slice p5 a_0.Wires.length k5, .slice p6 r1.length k6, .slice p18 ln4 k15, .slice p17 ln3 k14, .slice p16 ln2 k13, .slice none 0 0] 151, Ch.own S1 (r1 : List Tplace) [.slice p6 r1.length k6], Ch.box bb1 [.slice p1 a_0.Library.Cells.length k1, .slice p2 a_0.Design.Instances.length k2, .slice p3 a_0.Design.Nets.length k3, .slice p4 a_0.Design.Ports.length k4, .slice p5 a_0.Wires.length k5] 44]) n ⟨_, _, _, _, _, _, _, _, _, _, _, _, _, _, _, _, hF, rfl, h⟩ ?_
  rintro m3 e3 w23 ⟨S13, p16, ln2, k13, x8, S14, p17, ln3, k14, x9, S15, p18, ln4, k15, x10, i4, hF, rfl, h⟩
  obtain rfl := (h.sl 0 rfl).2
  obtain rfl := (h.sl 1 rfl).2
  obtain rfl := (h.sl 4 rfl).2
  rcases m3 with _ | m3
  · rw [impl_newView_L3] at hF
    cases hF
  rw [impl_newView_L3] at hF
  refine r_seq (r_region (rp rfl rfl (r_nil (r_seq ?_))))
  refine r_if rfl hF (fun hF => ?_) (fun hF => ?_)
  · refine r_skip (r_seq (r_block (r_seq (r_region (rp rfl rfl (rp rfl rfl (r_nil (r_seq ?_))))))))
    refine r_any [14] (fun w' => SH w w' [Ch.box bb2 [.slice p1 a_0.Library.Cells.length k1, .slice p2 a_0.Design.Instances.length k2, .slice p3 a_0.Design.Nets.length k3, .slice p4 a_0.Design.Ports.length k4, .slice p5 a_0.Wires.length k5, .slice p6 r1.length k6, .slice p18 x10.length k15, .slice p17 x9.length k14, .slice p16 x8.length k13, .slice none 0 0] 151, Ch.box bb1 [.slice p1 a_0.Library.Cells.length k1, .slice p2 a_0.Design.Instances.length k2, .slice p3 a_0.Design.Nets.length k3, .slice p4 a_0.Design.Ports.length k4, .slice p5 a_0.Wires.length k5] 44]) rfl 15 rfl #[ff, ff, ff, ff, ff, ff, ff, ff, ff, ff, ff, ff, ff, ff, ff] (by kernel_rfl) (fun w24 hb => ?_)
    replace h := h.ext hb
    clear hb
    refine a_take 0 rfl #[tt, ff, ff, ff, ff, ff, ff, ff, ff, ff, ff, ff, ff, ff, ff] (by kernel_rfl) (by kernel_rfl) (fun w' hw => v_p tabOk rfl w') (h.pick [5, 7] rfl) rfl ?_
    refine a_take 1 rfl #[tt, tt, ff, ff, ff, ff, ff, ff, ff, ff, ff, ff, ff, ff, ff] (by kernel_rfl) (by kernel_rfl) (fun w' hw => v_p tabOk rfl w') (h.pick [5, 7] rfl) rfl ?_
    refine a_take 2 rfl #[tt, tt, tt, ff, ff, ff, ff, ff, ff, ff, ff, ff, ff, ff, ff] (by kernel_rfl) (by kernel_rfl) (fun w' hw => v_p tabOk rfl w') (h.pick [5, 7] rfl) rfl ?_
    refine a_take 3 rfl #[tt, tt, tt, tt, ff, ff, ff, ff, ff, ff, ff, ff, ff, ff, ff] (by kernel_rfl) (by kernel_rfl) (fun w' hw => v_p tabOk rfl w') (h.pick [5, 7] rfl) rfl ?_
    refine a_take 4 rfl #[tt, tt, tt, tt, tt, ff, ff, ff, ff, ff, ff, ff, ff, ff, ff] (by kernel_rfl) (by kernel_rfl) (fun w' hw => v_ld tabOk (hw.box 0 rfl) (j := 7) rfl rfl rfl) (h.pick [5, 7] rfl) rfl ?_
    refine a_take 5 rfl #[tt, tt, tt, tt, tt, tt, ff, ff, ff, ff, ff, ff, ff, ff, ff] (by kernel_rfl) (by kernel_rfl) (fun w' hw => v_ld tabOk (hw.box 1 rfl) (j := 0) rfl rfl rfl) (h.pick [5, 7] rfl) rfl ?_
    refine a_take 6 rfl #[tt, tt, tt, tt, tt, tt, tt, ff, ff, ff, ff, ff, ff, ff, ff] (by kernel_rfl) (by kernel_rfl) (fun w' hw => v_p tabOk rfl w') (h.pick [5, 7] rfl) rfl ?_
    refine a_only 7 rfl #[tt, tt, tt, tt, tt, tt, tt, tt, ff, ff, ff, ff, ff, ff, ff] (by kernel_rfl) (by kernel_rfl) ?_
    obtain ⟨r4, hr7, hF⟩ := bindS hF
    refine r_callL r4 h call102 (impl_Block_nodeLoads_ok (h.old (GoT.mono ha1 hg.old)) hr7) rfl rfl rfl rfl ?_
    intro w25 S16 p19 k16 h
    refine a_goal (fun _ => (h.pick [6, 8] rfl)) ?_
    obtain ⟨y5, hy5, hF⟩ := bindS hF
    have he5 := idx_some hy5
    obtain ⟨b6, o_4, q6, cs6, hp6, hq6, -, hr8, hc8⟩ := (h.sl 0 rfl).1.at hy5
    obtain rfl := hr8
    refine a_take 8 rfl #[tt, tt, tt, tt, tt, tt, tt, tt, tt, ff, ff, ff, ff, ff, ff] (by kernel_rfl) (by kernel_rfl) (fun w' hw => v_ix tabOk hp6 hq6 ⟨he5.1, lt_ln he5.2.1 (h.sl 0 rfl).2⟩ rfl rfl rfl rfl rfl rfl) (h.pick [6, 8] rfl) rfl ?_
    refine a_only 9 rfl #[tt, tt, tt, tt, tt, tt, tt, tt, tt, tt, ff, ff, ff, ff, ff] (by kernel_rfl) (by kernel_rfl) ?_
    refine r_v (v_ld tabOk hc8 (j := 0) rfl rfl rfl) rfl ?_
    refine a_goal (fun _ => (h.pick [6, 8] rfl)) ?_
    refine a_only 10 rfl #[tt, tt, tt, tt, tt, tt, tt, tt, tt, tt, tt, ff, ff, ff, ff] (by kernel_rfl) (by kernel_rfl) ?_
    refine r_bslice tabOk [.tmp 100] _ ([y5] : List Int) h rfl rfl rfl rfl rfl rfl rfl rfl rfl ⟨rfl, trivial⟩ rfl ?_
    intro w26 p20 S17 h
    refine a_goal (fun _ => (h.pick [7, 9] rfl)) ?_
    refine a_only 11 rfl #[tt, tt, tt, tt, tt, tt, tt, tt, tt, tt, tt, tt, ff, ff, ff] (by kernel_rfl) (by kernel_rfl) ?_
    obtain ⟨x11, hx5, hF⟩ := bindS hF
    obtain ⟨g7, hx5⟩ := appS_some hx5
    refine r_appE tabOk 3 h rfl (h.sl 0 rfl).1 (h.sl 0 rfl).2 rfl rfl rfl rfl rfl rfl rfl rfl rfl g7 hx5 rfl ?_
    intro w27 p21 k17 S18 h
    refine a_goal (fun _ => (h.pick [7, 9] rfl)) ?_
    refine a_only 12 rfl #[tt, tt, tt, tt, tt, tt, tt, tt, tt, tt, tt, tt, tt, ff, ff] (by kernel_rfl) (by kernel_rfl) ?_
    refine rp rfl rfl ?_
    refine a_goal (fun _ => (h.pick [7, 9] rfl)) ?_
    refine a_take 13 rfl #[tt, tt, tt, tt, tt, tt, tt, tt, tt, tt, tt, tt, tt, tt, ff] (by kernel_rfl) (by kernel_rfl) (fun w' hw => v_p tabOk rfl w') (h.pick [7, 9] rfl) rfl ?_
    refine a_only 14 rfl #[tt, tt, tt, tt, tt, tt, tt, tt, tt, tt, tt, tt, tt, tt, tt] (by kernel_rfl) (by kernel_rfl) ?_
    refine r_stbox tabOk 7 h rfl rfl rfl rfl rfl rfl rfl ?_
    intro w28 h
    refine a_goal (fun hs => absurd (hs 14 (by decide)) (by decide)) ?_
    refine a_done (by kernel_rfl) ?_
    refine r_seq ?_
    refine r_any [12] (fun w' => SH w w' [Ch.box bb2 [.slice p1 a_0.Library.Cells.length k1, .slice p2 a_0.Design.Instances.length k2, .slice p3 a_0.Design.Nets.length k3, .slice p4 a_0.Design.Ports.length k4, .slice p5 a_0.Wires.length k5, .slice p6 r1.length k6, .slice p18 x10.length k15, .slice p21 x11.length k17, .slice p16 x8.length k13, .slice none 0 0] 151, Ch.box bb1 [.slice p1 a_0.Library.Cells.length k1, .slice p2 a_0.Design.Instances.length k2, .slice p3 a_0.Design.Nets.length k3, .slice p4 a_0.Design.Ports.length k4, .slice p5 a_0.Wires.length k5] 44]) rfl 13 rfl #[ff, ff, ff, ff, ff, ff, ff, ff, ff, ff, ff, ff, ff] (by kernel_rfl) (fun w29 hb => ?_)
    replace h := h.ext hb
    clear hb
    refine a_take 0 rfl #[tt, ff, ff, ff, ff, ff, ff, ff, ff, ff, ff, ff, ff] (by kernel_rfl) (by kernel_rfl) (fun w' hw => v_p tabOk rfl w') (h.pick [7, 9] rfl) rfl ?_
    refine a_take 1 rfl #[tt, tt, ff, ff, ff, ff, ff, ff, ff, ff, ff, ff, ff] (by kernel_rfl) (by kernel_rfl) (fun w' hw => v_p tabOk rfl w') (h.pick [7, 9] rfl) rfl ?_
    refine a_take 2 rfl #[tt, tt, tt, ff, ff, ff, ff, ff, ff, ff, ff, ff, ff] (by kernel_rfl) (by kernel_rfl) (fun w' hw => v_p tabOk rfl w') (h.pick [7, 9] rfl) rfl ?_
    refine a_take 3 rfl #[tt, tt, tt, tt, ff, ff, ff, ff, ff, ff, ff, ff, ff] (by kernel_rfl) (by kernel_rfl) (fun w' hw => v_p tabOk rfl w') (h.pick [7, 9] rfl) rfl ?_
    refine a_take 4 rfl #[tt, tt, tt, tt, tt, ff, ff, ff, ff, ff, ff, ff, ff] (by kernel_rfl) (by kernel_rfl) (fun w' hw => v_ld tabOk (hw.box 0 rfl) (j := 8) rfl rfl rfl) (h.pick [7, 9] rfl) rfl ?_
    refine a_take 5 rfl #[tt, tt, tt, tt, tt, tt, ff, ff, ff, ff, ff, ff, ff] (by kernel_rfl) (by kernel_rfl) (fun w' hw => v_ld tabOk (hw.box 1 rfl) (j := 0) rfl rfl rfl) (h.pick [7, 9] rfl) rfl ?_
    refine a_take 6 rfl #[tt, tt, tt, tt, tt, tt, tt, ff, ff, ff, ff, ff, ff] (by kernel_rfl) (by kernel_rfl) (fun w' hw => v_p tabOk rfl w') (h.pick [7, 9] rfl) rfl ?_
    refine a_only 7 rfl #[tt, tt, tt, tt, tt, tt, tt, tt, ff, ff, ff, ff, ff] (by kernel_rfl) (by kernel_rfl) ?_
    obtain ⟨r5, hr9, hF⟩ := bindS hF
    refine r_callL r5 h call103 (impl_Block_exactDelays_ok (h.old (GoT.mono ha1 hg.old)) hr9) rfl rfl rfl rfl ?_
    intro w30 S19 p22 k18 h
    refine a_goal (fun _ => (h.pick [8, 10] rfl)) ?_
    refine a_only 8 rfl #[tt, tt, tt, tt, tt, tt, tt, tt, tt, ff, ff, ff, ff] (by kernel_rfl) (by kernel_rfl) ?_
    refine r_bsliceN tabOk [.tmp 112] _ ([r5] : List (List Int)) [1, 2, 3, 4, 5, 6, 7, 8, 9, 10] h rfl rfl rfl rfl rfl rfl rfl rfl rfl (pos_cons (po_own 0 h rfl) pos_nil rfl) rfl rfl ?_
    intro w31 p23 S20 h
    refine a_goal (fun _ => (h.pick [8, 10] rfl)) ?_
    refine a_only 9 rfl #[tt, tt, tt, tt, tt, tt, tt, tt, tt, tt, ff, ff, ff] (by kernel_rfl) (by kernel_rfl) ?_
    obtain ⟨x12, hx6, hF⟩ := bindS hF
    obtain ⟨g8, hx6⟩ := appS_some hx6
    replace h := h.pick [0, 3, 1, 2, 4, 5, 6, 7, 8, 9, 10] rfl
    refine r_appNE tabOk h rfl rfl rfl rfl rfl rfl rfl rfl rfl g8 hx6 rfl ?_
    intro w32 p24 k19 S21 h
    refine a_goal (fun _ => (h.pick [7, 9] rfl)) ?_
    refine a_only 10 rfl #[tt, tt, tt, tt, tt, tt, tt, tt, tt, tt, tt, ff, ff] (by kernel_rfl) (by kernel_rfl) ?_
    refine rp rfl rfl ?_
    refine a_goal (fun _ => (h.pick [7, 9] rfl)) ?_
    refine a_take 11 rfl #[tt, tt, tt, tt, tt, tt, tt, tt, tt, tt, tt, tt, ff] (by kernel_rfl) (by kernel_rfl) (fun w' hw => v_p tabOk rfl w') (h.pick [7, 9] rfl) rfl ?_
    refine a_only 12 rfl #[tt, tt, tt, tt, tt, tt, tt, tt, tt, tt, tt, tt, tt] (by kernel_rfl) (by kernel_rfl) ?_
    refine r_stbox tabOk 7 h rfl rfl rfl rfl rfl rfl rfl ?_
    intro w33 h
    refine a_goal (fun hs => absurd (hs 12 (by decide)) (by decide)) ?_
    refine a_done (by kernel_rfl) ?_
    refine r_seq (r_region (rp rfl rfl (rp rfl rfl ?_)))
    obtain ⟨y6, hy6, hF⟩ := bindS hF
    have he6 := idx_some hy6
    replace h := h.lrn0 4 rfl
    obtain ⟨b7, o_5, q7, cs7, hp7, hq7, -, hr10, hc9⟩ := (sl_of (h.lrnO 4 rfl)).1.at hy6
    have hr11 := hr10
    obtain ⟨p25, k20, rfl, s7⟩ := hr10
    replace h := h.lrnAdd 4 rfl hr11
    refine r_v (v_ix tabOk hp7 hq7 ⟨he6.1, lt_ln he6.2.1 (sl_of (h.lrnO 4 rfl)).2⟩ rfl rfl rfl rfl rfl rfl) rfl (r_v (v_ld tabOk hc9 (j := 0) rfl rfl rfl) rfl (rp rfl rfl (rp rfl rfl (r_nil ?_))))
    obtain ⟨o4, hF, hK4⟩ := bindS hF
    refine r_block ?_
    replace h := h.pick [0, 3, 4, 5, 6, 7, 8, 9] rfl
    refine r_sub [(1, _), (3, _), (7, _), (8, _), (11, _), (87, _), (88, _), (120, _), (121, _), (122, _)] ⟨rfl, rfl, rfl, rfl, rfl, rfl, rfl, rfl, rfl, rfl, trivial⟩ ?_
    refine r_loop (fun m e w' => ∃ (S22 : Nat → Prop) (p26 : Option Addr) (ln5 : Nat) (k21 : Nat) (x13 : (List TLink)) (i5 : Int), impl_newView_L4 x6 i4 y6 m x13 i5 = some o4 ∧ e = [(1, .pointer (some ⟨bb1, 0, none⟩)), (3, .pointer (some ⟨bb2, 0, none⟩)), (7, .slice p11 x3.length x3.length), (8, .slice p12 x4.length x4.length), (11, .int .i64 i4), (87, .int .i64 (a_0.Wires.length : Int)), (88, .int .i64 i4), (120, .slice p25 y6.length k20), (121, .int .i64 (y6.length : Int)), (122, .int .i64 i5)] ∧ SH w w' [Ch.own S21 (x12 : List (List Int)) [.slice p24 x12.length k19], Ch.own S18 (x11 : List Int) [.slice p21 x11.length k17], Ch.lrn S7 (x5 : List (List Int)) [.slice p12 x4.length x4.length] [fct (y6 : (List Int)) [.slice p25 y6.length k20]], Ch.own S5 (x6 : List Int) [.slice p11 x3.length x3.length], Ch.own S22 (x13 : List TLink) [.slice p26 ln5 k21], Ch.box bb2 [.slice p1 a_0.Library.Cells.length k1, .slice p2 a_0.Design.Instances.length k2, .slice p3 a_0.Design.Nets.length k3, .slice p4 a_0.Design.Ports.length k4, .slice p5 a_0.Wires.length k5, .slice p6 r1.length k6, .slice p26 ln5 k21, .slice p21 x11.length k17, .slice p24 x12.length k19, .slice none 0 0] 151, Ch.own S1 (r1 : List Tplace) [.slice p6 r1.length k6], Ch.box bb1 [.slice p1 a_0.Library.Cells.length k1, .slice p2 a_0.Design.Instances.length k2, .slice p3 a_0.Design.Nets.length k3, .slice p4 a_0.Design.Ports.length k4, .slice p5 a_0.Wires.length k5] 44]) m3 ⟨_, _, _, _, _, _, hF, rfl, h⟩ ?_
    rintro m4 e4 w34 ⟨S22, p26, ln5, k21, x13, i5, hF, rfl, h⟩
    obtain rfl := (h.sl 4 rfl).2
    rcases m4 with _ | m4
    · rw [impl_newView_L4] at hF
      cases hF
    rw [impl_newView_L4] at hF
    refine r_seq (r_region (rp rfl rfl (r_nil (r_seq ?_))))
    refine r_if rfl hF (fun hF => ?_) (fun hF => ?_)
    · refine r_skip (r_seq (r_block (r_seq (r_region (rp rfl rfl ?_)))))
      obtain ⟨y7, hy7, hF⟩ := bindS hF
      have he7 := idx_some hy7
      obtain ⟨b8, o_6, q8, cs8, hp8, hq8, -, hr12, hc11⟩ := (sl_of (GoT.mono (h.lrnS 2 0 rfl rfl) (h.lrnB 2 rfl))).1.at hy7
      obtain rfl := hr12
      refine r_v (v_ix tabOk hp8 hq8 ⟨he7.1, lt_ln he7.2.1 (sl_of (GoT.mono (h.lrnS 2 0 rfl rfl) (h.lrnB 2 rfl))).2⟩ rfl rfl rfl rfl rfl rfl) rfl (r_v (v_ld tabOk hc11 (j := 0) rfl rfl rfl) rfl (rp rfl rfl (rp rfl rfl (r_nil (r_seq (r_region (rp rfl rfl (r_nil ?_))))))))
      obtain ⟨o5, hF, hK5⟩ := bindS hF
      refine r_block (r_sub [(1, _), (3, _), (7, _), (8, _), (11, _), (12, _), (13, _), (87, _), (88, _), (120, _), (121, _), (122, _), (127, _)] ⟨rfl, rfl, rfl, rfl, rfl, rfl, rfl, rfl, rfl, rfl, rfl, rfl, rfl, trivial⟩ ?_)
      refine r_loop (fun m e w' => ∃ (S23 : Nat → Prop) (p27 : Option Addr) (ln6 : Nat) (k22 : Nat) (x14 : (List TLink)) (i6 : Int), impl_newView_L5 x6 i4 i5 y7 m x14 i6 = some o5 ∧ e = [(1, .pointer (some ⟨bb1, 0, none⟩)), (3, .pointer (some ⟨bb2, 0, none⟩)), (7, .slice p11 x3.length x3.length), (8, .slice p12 x4.length x4.length), (11, .int .i64 i4), (12, .int .i64 i5), (13, .int .i64 y7), (87, .int .i64 (a_0.Wires.length : Int)), (88, .int .i64 i4), (120, .slice p25 y6.length k20), (121, .int .i64 (y6.length : Int)), (122, .int .i64 i5), (127, .int .i64 i6)] ∧ SH w w' [Ch.own S21 (x12 : List (List Int)) [.slice p24 x12.length k19], Ch.own S18 (x11 : List Int) [.slice p21 x11.length k17], Ch.lrn S7 (x5 : List (List Int)) [.slice p12 x4.length x4.length] [fct (y6 : (List Int)) [.slice p25 y6.length k20]], Ch.own S5 (x6 : List Int) [.slice p11 x3.length x3.length], Ch.own S23 (x14 : List TLink) [.slice p27 ln6 k22], Ch.box bb2 [.slice p1 a_0.Library.Cells.length k1, .slice p2 a_0.Design.Instances.length k2, .slice p3 a_0.Design.Nets.length k3, .slice p4 a_0.Design.Ports.length k4, .slice p5 a_0.Wires.length k5, .slice p6 r1.length k6, .slice p27 ln6 k22, .slice p21 x11.length k17, .slice p24 x12.length k19, .slice none 0 0] 151, Ch.own S1 (r1 : List Tplace) [.slice p6 r1.length k6], Ch.box bb1 [.slice p1 a_0.Library.Cells.length k1, .slice p2 a_0.Design.Instances.length k2, .slice p3 a_0.Design.Nets.length k3, .slice p4 a_0.Design.Ports.length k4, .slice p5 a_0.Wires.length k5] 44]) m4 ⟨_, _, _, _, _, _, hF, rfl, h⟩ ?_
      rintro m5 e5 w35 ⟨S23, p27, ln6, k22, x14, i6, hF, rfl, h⟩
      obtain rfl := (h.sl 4 rfl).2
      rcases m5 with _ | m5
      · rw [impl_newView_L5] at hF
        cases hF
      rw [impl_newView_L5] at hF
      refine r_seq (r_region (rp rfl rfl (r_nil (r_seq ?_))))
      refine r_if rfl hF (fun hF => ?_) (fun hF => ?_)
      · refine r_skip (r_seq (r_block (r_seq (r_region (rp rfl rfl (rp rfl rfl (r_nil ?_)))))))
        refine r_any [22] (fun w' => SH w w' [Ch.own S5 (x6 : List Int) [.slice p11 x3.length x3.length], Ch.box bb2 [.slice p1 a_0.Library.Cells.length k1, .slice p2 a_0.Design.Instances.length k2, .slice p3 a_0.Design.Nets.length k3, .slice p4 a_0.Design.Ports.length k4, .slice p5 a_0.Wires.length k5, .slice p6 r1.length k6, .slice p27 x14.length k22, .slice p21 x11.length k17, .slice p24 x12.length k19, .slice none 0 0] 151]) rfl 23 rfl #[ff, ff, ff, ff, ff, ff, ff, ff, ff, ff, ff, ff, ff, ff, ff, ff, ff, ff, ff, ff, ff, ff, ff] (by kernel_rfl) (fun w36 hb => ?_)
        replace h := h.ext hb
        clear hb
        refine a_take 0 rfl #[tt, ff, ff, ff, ff, ff, ff, ff, ff, ff, ff, ff, ff, ff, ff, ff, ff, ff, ff, ff, ff, ff, ff] (by kernel_rfl) (by kernel_rfl) (fun w' hw => v_p tabOk rfl w') (h.pick [3, 5] rfl) rfl ?_
        refine a_take 1 rfl #[tt, tt, ff, ff, ff, ff, ff, ff, ff, ff, ff, ff, ff, ff, ff, ff, ff, ff, ff, ff, ff, ff, ff] (by kernel_rfl) (by kernel_rfl) (fun w' hw => v_p tabOk rfl w') (h.pick [3, 5] rfl) rfl ?_
        refine a_take 2 rfl #[tt, tt, tt, ff, ff, ff, ff, ff, ff, ff, ff, ff, ff, ff, ff, ff, ff, ff, ff, ff, ff, ff, ff] (by kernel_rfl) (by kernel_rfl) (fun w' hw => v_p tabOk rfl w') (h.pick [3, 5] rfl) rfl ?_
        refine a_take 3 rfl #[tt, tt, tt, tt, ff, ff, ff, ff, ff, ff, ff, ff, ff, ff, ff, ff, ff, ff, ff, ff, ff, ff, ff] (by kernel_rfl) (by kernel_rfl) (fun w' hw => v_p tabOk rfl w') (h.pick [3, 5] rfl) rfl ?_
        refine a_take 4 rfl #[tt, tt, tt, tt, tt, ff, ff, ff, ff, ff, ff, ff, ff, ff, ff, ff, ff, ff, ff, ff, ff, ff, ff] (by kernel_rfl) (by kernel_rfl) (fun w' hw => v_ld tabOk (hw.box 1 rfl) (j := 6) rfl rfl rfl) (h.pick [3, 5] rfl) rfl ?_
        refine a_take 5 rfl #[tt, tt, tt, tt, tt, tt, ff, ff, ff, ff, ff, ff, ff, ff, ff, ff, ff, ff, ff, ff, ff, ff, ff] (by kernel_rfl) (by kernel_rfl) (fun w' hw => v_p tabOk rfl w') (h.pick [3, 5] rfl) rfl ?_
        refine a_take 6 rfl #[tt, tt, tt, tt, tt, tt, tt, ff, ff, ff, ff, ff, ff, ff, ff, ff, ff, ff, ff, ff, ff, ff, ff] (by kernel_rfl) (by kernel_rfl) (fun w' hw => v_p tabOk rfl w') (h.pick [3, 5] rfl) rfl ?_
        obtain ⟨y8, hy8, hF⟩ := bindS hF
        have he8 := idx_some hy8
        obtain ⟨b9, o_7, q9, cs9, hp9, hq9, -, hr13, hc13⟩ := (h.sl 3 rfl).1.at hy8
        obtain rfl := hr13
        refine a_take 7 rfl #[tt, tt, tt, tt, tt, tt, tt, tt, ff, ff, ff, ff, ff, ff, ff, ff, ff, ff, ff, ff, ff, ff, ff] (by kernel_rfl) (by kernel_rfl) (fun w' hw => v_ix tabOk hp9 hq9 ⟨he8.1, lt_ln he8.2.1 (h.sl 3 rfl).2⟩ rfl rfl rfl rfl rfl rfl) (h.pick [3, 5] rfl) rfl ?_
        refine a_take 8 rfl #[tt, tt, tt, tt, tt, tt, tt, tt, tt, ff, ff, ff, ff, ff, ff, ff, ff, ff, ff, ff, ff, ff, ff] (by kernel_rfl) (by kernel_rfl) (fun w' hw => v_ld tabOk (own_cells (w1 := w) (S1 := fun _ => False) hw 0 rfl hy8 hp9 hq9 rfl) (j := 0) rfl rfl rfl) (h.pick [3, 5] rfl) rfl ?_
        refine a_take 9 rfl #[tt, tt, tt, tt, tt, tt, tt, tt, tt, tt, ff, ff, ff, ff, ff, ff, ff, ff, ff, ff, ff, ff, ff] (by kernel_rfl) (by kernel_rfl) (fun w' hw => v_p tabOk rfl w') (h.pick [3, 5] rfl) rfl ?_
        refine a_take 10 rfl #[tt, tt, tt, tt, tt, tt, tt, tt, tt, tt, tt, ff, ff, ff, ff, ff, ff, ff, ff, ff, ff, ff, ff] (by kernel_rfl) (by kernel_rfl) (fun w' hw => v_p tabOk rfl w') (h.pick [3, 5] rfl) rfl ?_
        refine a_take 11 rfl #[tt, tt, tt, tt, tt, tt, tt, tt, tt, tt, tt, tt, ff, ff, ff, ff, ff, ff, ff, ff, ff, ff, ff] (by kernel_rfl) (by kernel_rfl) (fun w' hw => v_p tabOk rfl w') (h.pick [3, 5] rfl) rfl ?_
        refine a_take 12 rfl #[tt, tt, tt, tt, tt, tt, tt, tt, tt, tt, tt, tt, tt, ff, ff, ff, ff, ff, ff, ff, ff, ff, ff] (by kernel_rfl) (by kernel_rfl) (fun w' hw => v_p tabOk rfl w') (h.pick [3, 5] rfl) rfl ?_
        refine a_take 13 rfl #[tt, tt, tt, tt, tt, tt, tt, tt, tt, tt, tt, tt, tt, tt, ff, ff, ff, ff, ff, ff, ff, ff, ff] (by kernel_rfl) (by kernel_rfl) (fun w' hw => v_p tabOk rfl w') (h.pick [3, 5] rfl) rfl ?_
        refine a_take 14 rfl #[tt, tt, tt, tt, tt, tt, tt, tt, tt, tt, tt, tt, tt, tt, tt, ff, ff, ff, ff, ff, ff, ff, ff] (by kernel_rfl) (by kernel_rfl) (fun w' hw => v_p tabOk rfl w') (h.pick [3, 5] rfl) rfl ?_
        refine a_take 15 rfl #[tt, tt, tt, tt, tt, tt, tt, tt, tt, tt, tt, tt, tt, tt, tt, tt, ff, ff, ff, ff, ff, ff, ff] (by kernel_rfl) (by kernel_rfl) (fun w' hw => v_p tabOk rfl w') (h.pick [3, 5] rfl) rfl ?_
        refine a_take 16 rfl #[tt, tt, tt, tt, tt, tt, tt, tt, tt, tt, tt, tt, tt, tt, tt, tt, tt, ff, ff, ff, ff, ff, ff] (by kernel_rfl) (by kernel_rfl) (fun w' hw => v_p tabOk rfl w') (h.pick [3, 5] rfl) rfl ?_
        refine a_take 17 rfl #[tt, tt, tt, tt, tt, tt, tt, tt, tt, tt, tt, tt, tt, tt, tt, tt, tt, tt, ff, ff, ff, ff, ff] (by kernel_rfl) (by kernel_rfl) (fun w' hw => v_build tabOk [0, 1, 2, 3] [.tmp 141, .tmp 145, .const (.int .i64 (2)), .tmp 146] rfl rfl rfl rfl rfl rfl rfl rfl) (h.pick [3, 5] rfl) rfl ?_
        refine a_only 18 rfl #[tt, tt, tt, tt, tt, tt, tt, tt, tt, tt, tt, tt, tt, tt, tt, tt, tt, tt, tt, ff, ff, ff, ff] (by kernel_rfl) (by kernel_rfl) ?_
        refine r_bslice tabOk [.tmp 147] _ ([(⟨W64 ((W64 (2 * y8)) + i6), W64 ((W64 (2 * y7)) + i6), 2, i5⟩ : TLink)] : List TLink) h rfl rfl rfl rfl rfl rfl rfl rfl rfl ⟨(mkR_TLink (⟨W64 ((W64 (2 * y8)) + i6), W64 ((W64 (2 * y7)) + i6), 2, i5⟩ : TLink)), trivial⟩ rfl ?_
        intro w37 p28 S24 h
        refine a_goal (fun _ => (h.pick [4, 6] rfl)) ?_
        refine a_only 19 rfl #[tt, tt, tt, tt, tt, tt, tt, tt, tt, tt, tt, tt, tt, tt, tt, tt, tt, tt, tt, tt, ff, ff, ff] (by kernel_rfl) (by kernel_rfl) ?_
        obtain ⟨x15, hx7, hF⟩ := bindS hF
        obtain ⟨g9, hx7⟩ := appS_some hx7
        refine r_appE tabOk 5 h rfl (h.sl 0 rfl).1 (h.sl 0 rfl).2 rfl rfl rfl rfl rfl rfl rfl rfl rfl g9 hx7 rfl ?_
        intro w38 p29 k23 S25 h
        refine a_goal (fun _ => (h.pick [4, 6] rfl)) ?_
        refine a_only 20 rfl #[tt, tt, tt, tt, tt, tt, tt, tt, tt, tt, tt, tt, tt, tt, tt, tt, tt, tt, tt, tt, tt, ff, ff] (by kernel_rfl) (by kernel_rfl) ?_
        refine rp rfl rfl ?_
        refine a_goal (fun _ => (h.pick [4, 6] rfl)) ?_
        refine a_take 21 rfl #[tt, tt, tt, tt, tt, tt, tt, tt, tt, tt, tt, tt, tt, tt, tt, tt, tt, tt, tt, tt, tt, tt, ff] (by kernel_rfl) (by kernel_rfl) (fun w' hw => v_p tabOk rfl w') (h.pick [4, 6] rfl) rfl ?_
        refine a_only 22 rfl #[tt, tt, tt, tt, tt, tt, tt, tt, tt, tt, tt, tt, tt, tt, tt, tt, tt, tt, tt, tt, tt, tt, tt] (by kernel_rfl) (by kernel_rfl) ?_
        refine r_stbox tabOk 6 h rfl rfl rfl rfl rfl rfl rfl ?_
        intro w39 h
        refine a_goal (fun hs => absurd (hs 22 (by decide)) (by decide)) ?_
        refine a_done (by kernel_rfl) ?_
        refine r_blk (r_region (rp rfl rfl (rp rfl rfl (r_nil ?_))))
        replace h := h.pick [1, 2, 3, 4, 5, 6, 7, 8] rfl
        exact r_back m5 [(1, _), (3, _), (7, _), (8, _), (11, _), (12, _), (13, _), (87, _), (88, _), (120, _), (121, _), (122, _), (127, _)] (Nat.lt_succ_self m5) ⟨rfl, rfl, rfl, rfl, rfl, rfl, rfl, rfl, rfl, rfl, rfl, rfl, rfl, trivial⟩ ⟨_, _, _, _, _, _, hF, rfl, h⟩
      refine r_exit rfl ?_
      obtain rfl := someI hF; replace hF := hK5
      exact r_blk (r_region (rp rfl rfl (rp rfl rfl (r_nil (r_back m4 [(1, _), (3, _), (7, _), (8, _), (11, _), (87, _), (88, _), (120, _), (121, _), (122, _)] (Nat.lt_succ_self m4) ⟨rfl, rfl, rfl, rfl, rfl, rfl, rfl, rfl, rfl, rfl, trivial⟩ ⟨_, _, _, _, _, _, hF, rfl, h⟩)))))
    refine r_exit rfl ?_
    obtain rfl := someI hF; replace hF := hK4
    refine r_blk (r_region (rp rfl rfl (rp rfl rfl (r_nil ?_))))
    replace h := h.unlrn 2 rfl
    exact r_back m3 [(1, _), (3, _), (7, _), (8, _), (87, _), (88, _)] (Nat.lt_succ_self m3) ⟨rfl, rfl, rfl, rfl, rfl, rfl, trivial⟩ ⟨_, _, _, _, _, _, _, _, _, _, _, _, _, _, _, _, hF, rfl, h⟩
  refine r_exit rfl ?_
  obtain rfl := someI hF; replace hF := hK3
  refine r_seq (r_region (rp rfl rfl (rp rfl rfl (r_nil ?_))))
  obtain rfl := someI hF
  have hv1 : GoRs.Rs _ (reg A w _) (some (⟨(⟨(⟨a_0.Library.Cells⟩ : TLibrary), (⟨a_0.Design.Instances, a_0.Design.Nets, a_0.Design.Ports⟩ : TDesign), a_0.Wires⟩ : TBlock), r1, x10, x9, x8, []⟩ : Tview)) [GoT.v (Option Tview) [.pointer (some ⟨bb2, 0, none⟩)]] := ⟨_, rfl, (hg.outR h (Rg.boxR (x := (⟨(⟨(⟨a_0.Library.Cells⟩ : TLibrary), (⟨a_0.Design.Instances, a_0.Design.Nets, a_0.Design.Ports⟩ : TDesign), a_0.Wires⟩ : TBlock), r1, x10, x9, x8, []⟩ : Tview)) 5 h rfl (⟨[.slice p1 a_0.Library.Cells.length k1, .slice p2 a_0.Design.Instances.length k2, .slice p3 a_0.Design.Nets.length k3, .slice p4 a_0.Design.Ports.length k4, .slice p5 a_0.Wires.length k5], [.slice p6 r1.length k6, .slice p18 x10.length k15, .slice p17 x9.length k14, .slice p16 x8.length k13, .slice none 0 0], rfl, ⟨[.slice p1 a_0.Library.Cells.length k1], [.slice p2 a_0.Design.Instances.length k2, .slice p3 a_0.Design.Nets.length k3, .slice p4 a_0.Design.Ports.length k4, .slice p5 a_0.Wires.length k5], rfl, ⟨_, _, rfl, (hg.inS h s1)⟩, ⟨[.slice p2 a_0.Design.Instances.length k2, .slice p3 a_0.Design.Nets.length k3, .slice p4 a_0.Design.Ports.length k4], [.slice p5 a_0.Wires.length k5], rfl, ⟨[.slice p2 a_0.Design.Instances.length k2], [.slice p3 a_0.Design.Nets.length k3, .slice p4 a_0.Design.Ports.length k4], rfl, ⟨_, _, rfl, (hg.inS h s2)⟩, ⟨[.slice p3 a_0.Design.Nets.length k3], [.slice p4 a_0.Design.Ports.length k4], rfl, ⟨_, _, rfl, (hg.inS h s3)⟩, ⟨_, _, rfl, (hg.inS h s4)⟩⟩⟩, ⟨_, _, rfl, (hg.inS h s5)⟩⟩⟩, ⟨[.slice p6 r1.length k6], [.slice p18 x10.length k15, .slice p17 x9.length k14, .slice p16 x8.length k13, .slice none 0 0], rfl, (Rg.ownR 6 h rfl), ⟨[.slice p18 x10.length k15], [.slice p17 x9.length k14, .slice p16 x8.length k13, .slice none 0 0], rfl, (Rg.ownR 4 h rfl), ⟨[.slice p17 x9.length k14], [.slice p16 x8.length k13, .slice none 0 0], rfl, (Rg.ownR 1 h rfl), ⟨[.slice p16 x8.length k13], [.slice none 0 0], rfl, (Rg.ownR 0 h rfl), ⟨_, _, rfl, slr_nil⟩⟩⟩⟩⟩⟩)))⟩
  exact r_retG tabOk (ρ := (Option Tview)) (r := (some (⟨(⟨(⟨a_0.Library.Cells⟩ : TLibrary), (⟨a_0.Design.Instances, a_0.Design.Nets, a_0.Design.Ports⟩ : TDesign), a_0.Wires⟩ : TBlock), r1, x10, x9, x8, []⟩ : Tview))) [GoT.v (Option Tview) [.pointer (some ⟨bb2, 0, none⟩)]] h ⟨rfl, trivial⟩ hv1

end Go.Fw
