/- By a program of mine (gen.py): for each function a plain function and the proof that the code computes it. -/
import Derived.Test.YtbpmddedhekleaaGreatDoorD1
namespace Go.Fw
open Go Go.Proofs
open Go.RowKit (Below)
set_option maxRecDepth 100000
def impl_view_isClockPin (_ : Nat) (v : (Option Tview)) (p : Tplace) : Option Bool :=
  bif decide (p.instance_ ≥ 0) then
    (v).bind fun y1 =>
    (idx y1.Block.Design.Instances p.instance_).bind fun y2 =>
    (idx y1.Block.Library.Cells y2.Cell).bind fun y3 =>
    (idx y3.Pins p.pin).bind fun y4 =>
    some y4.Clock
  else
    some false

theorem impl_view_isClockPin_ok {n : Nat} {w : World} {v : (Option Tview)} {p : Tplace} {cs1 : List Value} (ha1 : GoT.R w (old w) v cs1) {cs2 : List Value} (ha2 : GoT.R w (old w) p cs2) {r : Bool} (hF : impl_view_isClockPin n v p = some r) : RetV Tryz.prog 108 [GoT.v (Option Tview) cs1, GoT.v Tplace cs2] w r := by
  obtain ⟨p1, rfl, s1⟩ := open_ptr ha1
  obtain rfl := open_Tplace ha2
  refine retV_of_run Tryz.func108 rfl (m := 35) rfl rfl (fun h => ?_)
  rw [impl_view_isClockPin] at hF
  refine r_seq (r_region (r_box h rfl rfl ?_))
  intro w1 bb1 h
  refine rp rfl rfl (r_nil (r_seq ?_))
  refine r_draw rfl (by kernel_rfl) ?_
  refine dp rfl rfl ?_
  refine d_v (fun _ hb => v_ld tabOk ((h.box 0 rfl).below hb) (j := 0) rfl rfl rfl) rfl ?_
  refine dp rfl rfl (dp rfl rfl ?_)
  by_cases hc1 : (decide (p.instance_ ≥ 0)) = true
  · replace hF := bifT hc1 hF
    refine d_setT hc1 (t := 8) rfl (d_wanted rfl (dp rfl rfl (d_wanted rfl ?_)))
    obtain ⟨y1, hy1, hF⟩ := bindS hF
    obtain ⟨b1, o_1, cs3, rfl, -, hr1, hc2⟩ := PtR.get s1 hy1
    obtain ⟨p2, k1, p3, k2, p4, k3, p5, k4, p6, k5, p7, k6, p8, k7, p9, k8, p10, k9, p11, k10, rfl, s2, s3, s4, s5, s6, s7, s8, s9, s10, s11⟩ := open_Tview hr1
    refine dp rfl rfl (d_wanted rfl (dp rfl rfl (d_wanted rfl (dp rfl rfl (d_wanted rfl (dp rfl rfl (d_wanted rfl ?_)))))))
    refine d_v (fun _ hb => v_ld tabOk ((hc2.below h.below).below hb) (j := 0) rfl rfl rfl) rfl ?_
    refine d_wanted rfl (dp rfl rfl (d_wanted rfl (dp rfl rfl (d_wanted rfl (dp rfl rfl (d_wanted rfl (dp rfl rfl (d_wanted rfl (dp rfl rfl (d_wanted rfl ?_))))))))))
    refine d_v (fun _ hb => v_ld tabOk ((hc2.below h.below).below hb) (j := 1) rfl rfl rfl) rfl ?_
    refine d_wanted rfl (dp rfl rfl (d_wanted rfl ?_))
    refine d_v (fun _ hb => v_ld tabOk ((h.box 0 rfl).below hb) (j := 0) rfl rfl rfl) rfl ?_
    refine d_wanted rfl ?_
    obtain ⟨y2, hy2, hF⟩ := bindS hF
    have he1 := idx_some hy2
    obtain ⟨b2, o_2, q1, cs4, hp1, hq1, -, hr2, hc3⟩ := s3.at hy2
    obtain ⟨p12, k11, rfl, s12⟩ := open_TInstance hr2
    refine d_v (fun _ hb => v_ix tabOk hp1 hq1 ⟨he1.1, he1.2.1⟩ rfl rfl rfl rfl rfl rfl) rfl ?_
    refine d_wanted rfl (dp rfl rfl (d_wanted rfl ?_))
    refine d_v (fun _ hb => v_ld tabOk ((hc3.below h.below).below hb) (j := 1) rfl rfl rfl) rfl ?_
    refine d_wanted rfl ?_
    obtain ⟨y3, hy3, hF⟩ := bindS hF
    have he2 := idx_some hy3
    obtain ⟨b3, o_3, q2, cs5, hp2, hq2, -, hr3, hc4⟩ := s2.at hy3
    obtain ⟨p13, k12, p14, k13, p15, k14, rfl, s13, s14, s15⟩ := open_TCell hr3
    refine d_v (fun _ hb => v_ix tabOk hp2 hq2 ⟨he2.1, he2.2.1⟩ rfl rfl rfl rfl rfl rfl) rfl ?_
    refine d_wanted rfl (dp rfl rfl (d_wanted rfl ?_))
    refine d_v (fun _ hb => v_ld tabOk ((hc4.below h.below).below hb) (j := 2) rfl rfl rfl) rfl ?_
    refine d_wanted rfl (dp rfl rfl (d_wanted rfl ?_))
    refine d_v (fun _ hb => v_ld tabOk ((h.box 0 rfl).below hb) (j := 1) rfl rfl rfl) rfl ?_
    refine d_wanted rfl ?_
    obtain ⟨y4, hy4, hF⟩ := bindS hF
    have he3 := idx_some hy4
    obtain ⟨b4, o_4, q3, cs6, hp3, hq3, -, hr4, hc5⟩ := s13.at hy4
    obtain rfl := open_TPin hr4
    refine d_v (fun _ hb => v_ix tabOk hp3 hq3 ⟨he3.1, he3.2.1⟩ rfl rfl rfl rfl rfl rfl) rfl ?_
    refine d_wanted rfl (dp rfl rfl (d_wanted rfl ?_))
    refine d_v (fun _ hb => v_ld tabOk ((hc5.below h.below).below hb) (j := 3) rfl rfl rfl) rfl ?_
    refine dp rfl rfl (dp rfl rfl ?_)
    refine d_nil (fun w2 hb => ?_)
    replace h := h.ext hb
    clear hb
    exact r_rB tabOk h hF ⟨rfl, trivial⟩
  replace hc1 := Bool.eq_false_iff.2 hc1
  replace hF := bifF hc1 hF
  refine d_setF hc1 (t := 8) rfl (d_not rfl rfl rfl (d_not rfl rfl rfl (d_not rfl rfl rfl (d_not rfl rfl rfl (d_not rfl rfl rfl (d_not rfl rfl rfl (d_not rfl rfl rfl (d_not rfl rfl rfl (d_not rfl rfl rfl (d_not rfl rfl rfl (d_not rfl rfl rfl ?_)))))))))))
  refine d_not rfl rfl rfl (d_not rfl rfl rfl (d_not rfl rfl rfl (d_not rfl rfl rfl (d_not rfl rfl rfl (d_not rfl rfl rfl (d_not rfl rfl rfl (d_not rfl rfl rfl (d_not rfl rfl rfl (d_not rfl rfl rfl (d_not rfl rfl rfl (d_not rfl rfl rfl ?_)))))))))))
  refine d_not rfl rfl rfl (d_not rfl rfl rfl (dp rfl rfl (dp rfl rfl ?_)))
  refine d_nil (fun w3 hb => ?_)
  replace h := h.ext hb
  clear hb
  exact r_rB tabOk h hF ⟨rfl, trivial⟩

def impl_Block_cellOf (_ : Nat) (b : TBlock) (a_instance : Int) : Option TCell :=
  (idx b.Design.Instances a_instance).bind fun y1 =>
  (idx b.Library.Cells y1.Cell).bind fun y2 =>
  some y2

theorem impl_Block_cellOf_ok {n : Nat} {w : World} {A : Nat → Prop} (hA : ∀ b, A b → old w b) {b : TBlock} {a_instance : Int} {cs1 : List Value} (ha1 : GoT.R w A b cs1) {r : TCell} (hF : impl_Block_cellOf n b a_instance = some r) : RetG Tryz.prog 115 [GoT.v TBlock cs1, .int .i64 a_instance] w A r := by
  obtain ⟨p1, k1, p2, k2, p3, k3, p4, k4, p5, k5, rfl, s1, s2, s3, s4, s5⟩ := open_TBlock ha1
  have hg := Rg.start hA
  refine retG_of_run Tryz.func115 rfl (m := 17) rfl rfl (fun h => ?_)
  rw [impl_Block_cellOf] at hF
  refine r_seq (r_region (r_box h rfl rfl ?_))
  intro w1 bb1 h
  refine r_alloc tabOk h rfl rfl rfl ?_
  intro w2 bb2 h
  refine r_nil (r_seq ?_)
  refine r_any [] (fun w' => SH w w' [Ch.box bb1 [.slice p1 b.Library.Cells.length k1, .slice p2 b.Design.Instances.length k2, .slice p3 b.Design.Nets.length k3, .slice p4 b.Design.Ports.length k4, .slice p5 b.Wires.length k5] 44]) rfl 13 rfl #[ff, ff, ff, ff, ff, ff, ff, ff, ff, ff, ff, ff, ff] (by kernel_rfl) (fun w3 hb => ?_)
  replace h := h.ext hb
  clear hb
  refine a_take 0 rfl #[tt, ff, ff, ff, ff, ff, ff, ff, ff, ff, ff, ff, ff] (by kernel_rfl) (by kernel_rfl) (fun w' hw => v_p tabOk rfl w') (h.pick [1] rfl) rfl ?_
  refine a_take 1 rfl #[tt, tt, ff, ff, ff, ff, ff, ff, ff, ff, ff, ff, ff] (by kernel_rfl) (by kernel_rfl) (fun w' hw => v_p tabOk rfl w') (h.pick [1] rfl) rfl ?_
  refine a_take 2 rfl #[tt, tt, tt, ff, ff, ff, ff, ff, ff, ff, ff, ff, ff] (by kernel_rfl) (by kernel_rfl) (fun w' hw => v_ld tabOk (hw.box 0 rfl) (j := 0) rfl rfl rfl) (h.pick [1] rfl) rfl ?_
  refine a_take 3 rfl #[tt, tt, tt, tt, ff, ff, ff, ff, ff, ff, ff, ff, ff] (by kernel_rfl) (by kernel_rfl) (fun w' hw => v_p tabOk rfl w') (h.pick [1] rfl) rfl ?_
  refine a_take 4 rfl #[tt, tt, tt, tt, tt, ff, ff, ff, ff, ff, ff, ff, ff] (by kernel_rfl) (by kernel_rfl) (fun w' hw => v_p tabOk rfl w') (h.pick [1] rfl) rfl ?_
  refine a_take 5 rfl #[tt, tt, tt, tt, tt, tt, ff, ff, ff, ff, ff, ff, ff] (by kernel_rfl) (by kernel_rfl) (fun w' hw => v_ld tabOk (hw.box 0 rfl) (j := 1) rfl rfl rfl) (h.pick [1] rfl) rfl ?_
  refine a_take 6 rfl #[tt, tt, tt, tt, tt, tt, tt, ff, ff, ff, ff, ff, ff] (by kernel_rfl) (by kernel_rfl) (fun w' hw => v_p tabOk rfl w') (h.pick [1] rfl) rfl ?_
  obtain ⟨y1, hy1, hF⟩ := bindS hF
  have he1 := idx_some hy1
  obtain ⟨b1, o_1, q1, cs2, hp1, hq1, -, hr1, hc1⟩ := s2.at hy1
  obtain ⟨p6, k6, rfl, s6⟩ := open_TInstance hr1
  refine a_take 7 rfl #[tt, tt, tt, tt, tt, tt, tt, tt, ff, ff, ff, ff, ff] (by kernel_rfl) (by kernel_rfl) (fun w' hw => v_ix tabOk hp1 hq1 ⟨he1.1, he1.2.1⟩ rfl rfl rfl rfl rfl rfl) (h.pick [1] rfl) rfl ?_
  refine a_take 8 rfl #[tt, tt, tt, tt, tt, tt, tt, tt, tt, ff, ff, ff, ff] (by kernel_rfl) (by kernel_rfl) (fun w' hw => v_p tabOk rfl w') (h.pick [1] rfl) rfl ?_
  refine a_take 9 rfl #[tt, tt, tt, tt, tt, tt, tt, tt, tt, tt, ff, ff, ff] (by kernel_rfl) (by kernel_rfl) (fun w' hw => v_ld tabOk (hc1.below hw.below) (j := 1) rfl rfl rfl) (h.pick [1] rfl) rfl ?_
  obtain ⟨y2, hy2, hF⟩ := bindS hF
  have he2 := idx_some hy2
  obtain ⟨b2, o_2, q2, cs3, hp2, hq2, -, hr2, hc2⟩ := s1.at hy2
  obtain ⟨p7, k7, p8, k8, p9, k9, rfl, s7, s8, s9⟩ := open_TCell hr2
  refine a_take 10 rfl #[tt, tt, tt, tt, tt, tt, tt, tt, tt, tt, tt, ff, ff] (by kernel_rfl) (by kernel_rfl) (fun w' hw => v_ix tabOk hp2 hq2 ⟨he2.1, he2.2.1⟩ rfl rfl rfl rfl rfl rfl) (h.pick [1] rfl) rfl ?_
  refine a_take 11 rfl #[tt, tt, tt, tt, tt, tt, tt, tt, tt, tt, tt, tt, ff] (by kernel_rfl) (by kernel_rfl) (fun w' hw => v_ld tabOk (hc2.below hw.below) (j := 0) rfl rfl rfl) (h.pick [1] rfl) rfl ?_
  refine a_only 12 rfl #[tt, tt, tt, tt, tt, tt, tt, tt, tt, tt, tt, tt, tt] (by kernel_rfl) (by kernel_rfl) ?_
  refine r_stbox tabOk 0 h rfl rfl rfl rfl rfl rfl rfl ?_
  intro w4 h
  replace h : SH _ _ [Ch.box bb2 [.string y2.Name, .int .i64 y2.Kind, .slice p7 y2.Pins.length k7, .slice p8 y2.Arcs.length k8, .slice p9 y2.Truth.length k9, .int .i64 y2.Leak, .int .i64 y2.Energy] 70, Ch.box bb1 [.slice p1 b.Library.Cells.length k1, .slice p2 b.Design.Instances.length k2, .slice p3 b.Design.Nets.length k3, .slice p4 b.Design.Ports.length k4, .slice p5 b.Wires.length k5] 44] := h
  refine a_goal (fun _ => (h.pick [1] rfl)) ?_
  refine a_done (by kernel_rfl) ?_
  obtain rfl := someI hF
  have hv1 : GoRs.Rs _ (reg A w _) y2 [GoT.v TCell [.string y2.Name, .int .i64 y2.Kind, .slice p7 y2.Pins.length k7, .slice p8 y2.Arcs.length k8, .slice p9 y2.Truth.length k9, .int .i64 y2.Leak, .int .i64 y2.Energy]] := ⟨_, rfl, (hg.outR h (mkR_TCell y2 (hg.inS h s7) (hg.inS h s8) (hg.inS h s9)))⟩
  exact r_retG tabOk (ρ := TCell) (r := y2) [GoT.v TCell [.string y2.Name, .int .i64 y2.Kind, .slice p7 y2.Pins.length k7, .slice p8 y2.Arcs.length k8, .slice p9 y2.Truth.length k9, .int .i64 y2.Leak, .int .i64 y2.Energy]] h ⟨⟨_, _, _, rfl, rfl, h.box 0 rfl, rfl⟩, trivial⟩ hv1

def impl_isDataArc (_ : Nat) (a : TArc) : Option Bool :=
  bif (a.Kind == 1) then
    some true
  else
    bif (a.Kind == 2) then
      some true
    else
      some (a.Kind == 3)

theorem impl_isDataArc_ok {n : Nat} {w : World} {a : TArc} {cs1 : List Value} (ha1 : GoT.R w (old w) a cs1) {r : Bool} (hF : impl_isDataArc n a = some r) : RetV Tryz.prog 149 [GoT.v TArc cs1] w r := by
  obtain ⟨p1, k1, p2, k2, rfl, s1, s2⟩ := open_TArc ha1
  refine retV_of_run Tryz.func149 rfl (m := 16) rfl rfl (fun h => ?_)
  rw [impl_isDataArc] at hF
  refine r_seq (r_region (r_box h rfl rfl ?_))
  intro w1 bb1 h
  refine rp rfl rfl (r_nil (r_seq (r_region (rp rfl rfl (r_v (v_ld tabOk (h.box 0 rfl) (j := 0) rfl rfl rfl) rfl (rp rfl rfl (rp rfl rfl ?_)))))))
  by_cases hc1 : (a.Kind == 1) = true
  · replace hF := bifT hc1 hF
    refine r_setT hc1 (t := 6) rfl (r_not rfl rfl rfl (r_not rfl rfl rfl (r_not rfl rfl rfl (rp rfl rfl (rp rfl rfl (r_not rfl rfl rfl (r_not rfl rfl rfl (r_not rfl rfl rfl (rp rfl rfl (rp rfl rfl (r_nil ?_)))))))))))
    exact r_rB tabOk h hF ⟨rfl, trivial⟩
  replace hc1 := Bool.eq_false_iff.2 hc1
  replace hF := bifF hc1 hF
  refine r_setF hc1 (t := 6) rfl (r_wanted rfl (rp rfl rfl (r_wanted rfl (r_v (v_ld tabOk (h.box 0 rfl) (j := 0) rfl rfl rfl) rfl (r_wanted rfl (rp rfl rfl (rp rfl rfl (rp rfl rfl ?_))))))))
  by_cases hc2 : (a.Kind == 2) = true
  · replace hF := bifT hc2 hF
    exact r_setT hc2 (t := 11) rfl (r_not rfl rfl rfl (r_not rfl rfl rfl (r_not rfl rfl rfl (rp rfl rfl (rp rfl rfl (r_nil (r_rB tabOk h hF ⟨rfl, trivial⟩)))))))
  replace hc2 := Bool.eq_false_iff.2 hc2
  replace hF := bifF hc2 hF
  exact r_setF hc2 (t := 11) rfl (r_wanted rfl (rp rfl rfl (r_wanted rfl (r_v (v_ld tabOk (h.box 0 rfl) (j := 0) rfl rfl rfl) rfl (r_wanted rfl (rp rfl rfl (rp rfl rfl (rp rfl rfl (r_nil (r_rB tabOk h hF ⟨rfl, trivial⟩))))))))))

def impl_view_successors_1 (n : Nat) (a : TArc) (v0 : Tplace) : Option Bool :=
  (impl_isDataArc n a).bind fun r1 =>
  bif r1 then
    some (a.From == v0.pin)
  else
    some false

theorem impl_view_successors_1_ok {n : Nat} {w : World} {a : TArc} {v0 : Tplace} {cs1 : List Value} (ha1 : GoT.R w (old w) a cs1) {p3 : Option Addr} (ha2 : GoT.R w (old w) (some v0) [.pointer p3]) {r : Bool} (hF : impl_view_successors_1 n a v0 = some r) : RetV Tryz.prog 148 [GoT.v TArc cs1, .pointer p3] w r := by
  obtain ⟨p1, k1, p2, k2, rfl, s1, s2⟩ := open_TArc ha1
  obtain ⟨b1, o_1, cs2, rfl, -, hr1, hc1⟩ := PtR.get ha2 rfl
  obtain rfl := open_Tplace hr1
  refine retV_of_run Tryz.func148 rfl (m := 13) rfl rfl (fun h => ?_)
  rw [impl_view_successors_1] at hF
  refine r_seq (r_region (r_box h rfl rfl ?_))
  intro w1 bb1 h
  refine rp rfl rfl (r_nil (r_seq (r_region (r_v (v_ld tabOk (h.box 0 rfl) (j := 0) rfl rfl rfl) rfl ?_))))
  obtain ⟨r1, hr2, hF⟩ := bindS hF
  refine r_callB r1 h call149 (impl_isDataArc_ok (h.old ha1) hr2) rfl rfl rfl rfl ?_
  intro w2 h
  refine rp rfl rfl ?_
  by_cases hc2 : r1 = true
  · replace hF := bifT hc2 hF
    refine r_setT hc2 (t := 6) rfl (r_wanted rfl (rp rfl rfl (r_wanted rfl (r_v (v_ld tabOk (h.box 0 rfl) (j := 1) rfl rfl rfl) rfl (r_wanted rfl (rp rfl rfl (r_wanted rfl (r_v (v_ld tabOk (hc1.below h.below) (j := 1) rfl rfl rfl) rfl (r_wanted rfl (rp rfl rfl (rp rfl rfl ?_)))))))))))
    exact rp rfl rfl (r_nil (r_rB tabOk h hF ⟨rfl, trivial⟩))
  replace hc2 := Bool.eq_false_iff.2 hc2
  replace hF := bifF hc2 hF
  exact r_setF hc2 (t := 6) rfl (r_not rfl rfl rfl (r_not rfl rfl rfl (r_not rfl rfl rfl (r_not rfl rfl rfl (r_not rfl rfl rfl (rp rfl rfl (rp rfl rfl (r_nil (r_rB tabOk h hF ⟨rfl, trivial⟩)))))))))

def slices_IndexFunc_impl_Arc_impl_view_successors_1_L1 (s : (List TArc)) (f_0 : Tplace) : Nat → Int → Option (Flow Int Int)
  | 0, _ => none
  | n + 1, i1 =>
    bif decide (i1 < (s.length : Int)) then
      (idx s i1).bind fun y1 =>
      (impl_view_successors_1 n y1 f_0).bind fun r1 =>
      bif r1 then
        some (.ret i1)
      else
        slices_IndexFunc_impl_Arc_impl_view_successors_1_L1 s f_0 n (W64 (i1 + 1))
    else
      some (.nxt i1)

def slices_IndexFunc_impl_Arc_impl_view_successors_1 (n : Nat) (s : (List TArc)) (f_0 : Tplace) : Option Int :=
  (slices_IndexFunc_impl_Arc_impl_view_successors_1_L1 s f_0 n 0).bind fun o => match o with
  | .ret r => some r
  | .nxt _ =>
    some (-1)

theorem slices_IndexFunc_impl_Arc_impl_view_successors_1_ok {n : Nat} {w : World} {s : (List TArc)} {f_0 : Tplace} {cs1 : List Value} (ha1 : GoT.R w (old w) s cs1) {p2 : Option Addr} (ha2 : GoT.R w (old w) (some f_0) [.pointer p2]) {r : Int} (hF : slices_IndexFunc_impl_Arc_impl_view_successors_1 n s f_0 = some r) : RetV Tryz.prog 154 [GoT.v (List TArc) cs1, .func (.func 148) #[] #[.pointer p2]] w r := by
  obtain ⟨p1, k1, rfl, s1⟩ := ha1
  obtain ⟨b1, o_1, cs2, rfl, -, hr1, hc1⟩ := PtR.get ha2 rfl
  obtain rfl := open_Tplace hr1
  refine retV_of_run Tryz.func154 rfl (m := 19) rfl rfl (fun h => ?_)
  rw [slices_IndexFunc_impl_Arc_impl_view_successors_1] at hF
  refine r_seq (r_region (rp rfl rfl (r_nil (r_seq (r_seq (r_region (rp rfl rfl (rp rfl rfl (rp rfl rfl (r_nil ?_))))))))))
  obtain ⟨o1, hF, hK1⟩ := bindS hF
  refine r_block (r_sub [(0, _), (1, _), (7, _), (8, _)] ⟨rfl, rfl, rfl, rfl, trivial⟩ ?_)
  refine r_loop (fun m e w' => ∃ (i1 : Int), slices_IndexFunc_impl_Arc_impl_view_successors_1_L1 s f_0 m i1 = some o1 ∧ e = [(0, .slice p1 s.length k1), (1, .func (.func 148) #[] #[.pointer (some ⟨b1, o_1, none⟩)]), (7, .int .i64 (s.length : Int)), (8, .int .i64 i1)] ∧ SH w w' []) n ⟨_, hF, rfl, h⟩ ?_
  rintro m1 e1 w1 ⟨i1, hF, rfl, h⟩
  rcases m1 with _ | m1
  · rw [slices_IndexFunc_impl_Arc_impl_view_successors_1_L1] at hF
    cases hF
  rw [slices_IndexFunc_impl_Arc_impl_view_successors_1_L1] at hF
  refine r_seq (r_region (rp rfl rfl (r_nil (r_seq ?_))))
  refine r_if rfl hF (fun hF => ?_) (fun hF => ?_)
  · refine r_skip (r_seq (r_block (r_seq (r_region (rp rfl rfl (rp rfl rfl (r_nil (r_seq (r_region (rp rfl rfl (rp rfl rfl ?_)))))))))))
    refine rp rfl rfl ?_
    obtain ⟨y1, hy1, hF⟩ := bindS hF
    have he1 := idx_some hy1
    obtain ⟨b2, o_2, q1, cs3, hp1, hq1, -, hr2, hc3⟩ := s1.at hy1
    obtain ⟨p3, k2, p4, k3, rfl, s2, s3⟩ := open_TArc hr2
    refine r_v (v_ix tabOk hp1 hq1 ⟨he1.1, he1.2.1⟩ rfl rfl rfl rfl rfl rfl) rfl (r_v (v_ld tabOk (hc3.below h.below) (j := 0) rfl rfl rfl) rfl ?_)
    obtain ⟨r1, hr3, hF⟩ := bindS hF
    refine r_callB r1 h call148 (impl_view_successors_1_ok (mkR_TArc y1 (h.oldS s2) (h.oldS s3)) (h.old ha2) hr3) rfl rfl rfl rfl ?_
    intro w2 h
    refine r_nil ?_
    refine r_if rfl hF (fun hF => ?_) (fun hF => ?_)
    · refine r_seq (r_region (rp rfl rfl (rp rfl rfl (r_nil ?_))))
      obtain rfl := someI hF; replace hF := hK1
      exact r_rI tabOk h hF ⟨rfl, trivial⟩
    exact r_skip (r_blk (r_region (rp rfl rfl (rp rfl rfl (r_nil (r_back m1 [(0, _), (1, _), (7, _), (8, _)] (Nat.lt_succ_self m1) ⟨rfl, rfl, rfl, rfl, trivial⟩ ⟨_, hF, rfl, h⟩))))))
  refine r_exit rfl ?_
  obtain rfl := someI hF; replace hF := hK1
  exact r_seq (r_region (rp rfl rfl (r_nil (r_rI tabOk h hF ⟨rfl, trivial⟩))))

def slices_ContainsFunc_impl_Arc_impl_view_successors_1 (n : Nat) (s : (List TArc)) (f_0 : Tplace) : Option Bool :=
  (slices_IndexFunc_impl_Arc_impl_view_successors_1 n s f_0).bind fun r1 =>
  some (decide (r1 ≥ 0))

theorem slices_ContainsFunc_impl_Arc_impl_view_successors_1_ok {n : Nat} {w : World} {s : (List TArc)} {f_0 : Tplace} {cs1 : List Value} (ha1 : GoT.R w (old w) s cs1) {p2 : Option Addr} (ha2 : GoT.R w (old w) (some f_0) [.pointer p2]) {r : Bool} (hF : slices_ContainsFunc_impl_Arc_impl_view_successors_1 n s f_0 = some r) : RetV Tryz.prog 114 [GoT.v (List TArc) cs1, .func (.func 148) #[] #[.pointer p2]] w r := by
  obtain ⟨p1, k1, rfl, s1⟩ := ha1
  obtain ⟨b1, o_1, cs2, rfl, -, hr1, hc1⟩ := PtR.get ha2 rfl
  obtain rfl := open_Tplace hr1
  refine retV_of_run Tryz.func114 rfl (m := 9) rfl rfl (fun h => ?_)
  rw [slices_ContainsFunc_impl_Arc_impl_view_successors_1] at hF
  refine r_seq (r_region (rp rfl rfl (r_nil (r_seq (r_region (rp rfl rfl (rp rfl rfl ?_)))))))
  obtain ⟨r1, hr2, hF⟩ := bindS hF
  refine r_callI r1 h call154 (slices_IndexFunc_impl_Arc_impl_view_successors_1_ok ⟨_, _, rfl, (h.oldS s1)⟩ (h.old ha2) hr2) rfl rfl rfl rfl ?_
  intro w1 h
  exact rp rfl rfl (rp rfl rfl (r_nil (r_rB tabOk h hF ⟨rfl, trivial⟩)))

def impl_view_successors_L1 (a_0 : (Option Tview)) (y1 : Tview) (y2 : Tplace) : Nat → (List Int) → Int → Option ((List Int) × Int)
  | 0, _, _ => none
  | n + 1, x1, i1 =>
    bif decide (i1 < (y1.places.length : Int)) then
      (idx y1.places i1).bind fun y3 =>
      bif (y3.net == y2.net) then
        bif (!y3.drives) then
          (impl_view_isClockPin n a_0 y3).bind fun r1 =>
          bif (!r1) then
            (appS x1 ([i1] : List Int)).bind fun x2 =>
            impl_view_successors_L1 a_0 y1 y2 n x2 (W64 (i1 + 1))
          else
            impl_view_successors_L1 a_0 y1 y2 n x1 (W64 (i1 + 1))
        else
          impl_view_successors_L1 a_0 y1 y2 n x1 (W64 (i1 + 1))
      else
        impl_view_successors_L1 a_0 y1 y2 n x1 (W64 (i1 + 1))
    else
      some (x1, i1)

def impl_view_successors (n : Nat) (a_0 : (Option Tview)) (a_1 : Int) : Option (List Int) :=
  (a_0).bind fun y1 =>
  (idx y1.places a_1).bind fun y2 =>
  bif y2.drives then
    (impl_view_successors_L1 a_0 y1 y2 n ([] : List Int) 0).bind fun o => match o with
    | (x1, _) =>
      some x1
  else
    bif decide (y2.instance_ < 0) then
      some []
    else
      (impl_Block_cellOf n (⟨(⟨y1.Block.Library.Cells⟩ : TLibrary), (⟨y1.Block.Design.Instances, y1.Block.Design.Nets, y1.Block.Design.Ports⟩ : TDesign), y1.Block.Wires⟩ : TBlock) y2.instance_).bind fun r2 =>
      (slices_ContainsFunc_impl_Arc_impl_view_successors_1 n r2.Arcs y2).bind fun r3 =>
      bif r3 then
        (impl_Cell_output n r2).bind fun r4 =>
        some ([W64 ((W64 (a_1 - y2.pin)) + r4)] : List Int)
      else
        some []

theorem impl_view_successors_ok {n : Nat} {w : World} {a_0 : (Option Tview)} {a_1 : Int} {cs1 : List Value} (ha1 : GoT.R w (old w) a_0 cs1) {r : (List Int)} (hF : impl_view_successors n a_0 a_1 = some r) : RetV Tryz.prog 107 [GoT.v (Option Tview) cs1, .int .i64 a_1] w r := by
  obtain ⟨p1, rfl, s1⟩ := open_ptr ha1
  refine retV_of_run Tryz.func107 rfl (m := 73) rfl rfl (fun h => ?_)
  rw [impl_view_successors] at hF
  refine r_seq (r_region (rp rfl rfl (r_nil (r_seq (r_region (rp rfl rfl ?_))))))
  obtain ⟨y1, hy1, hF⟩ := bindS hF
  obtain ⟨b1, o_1, cs2, rfl, -, hr1, hc1⟩ := PtR.get s1 hy1
  obtain ⟨p2, k1, p3, k2, p4, k3, p5, k4, p6, k5, p7, k6, p8, k7, p9, k8, p10, k9, p11, k10, rfl, s2, s3, s4, s5, s6, s7, s8, s9, s10, s11⟩ := open_Tview hr1
  refine rp rfl rfl (rp rfl rfl (r_v (v_ld tabOk (hc1.below h.below) (j := 5) rfl rfl rfl) rfl (rp rfl rfl ?_)))
  obtain ⟨y2, hy2, hF⟩ := bindS hF
  have he1 := idx_some hy2
  obtain ⟨b2, o_2, q1, cs3, hp1, hq1, -, hr2, hc2⟩ := s7.at hy2
  obtain rfl := open_Tplace hr2
  refine r_v (v_ix tabOk hp1 hq1 ⟨he1.1, he1.2.1⟩ rfl rfl rfl rfl rfl rfl) rfl (r_v (v_ld tabOk (hc2.below h.below) (j := 0) rfl rfl rfl) rfl (r_alloc tabOk h rfl rfl rfl ?_))
  intro w1 bb1 h
  refine r_stbox tabOk 0 h rfl rfl rfl rfl rfl rfl rfl ?_
  intro w2 h
  refine r_nil (r_seq (r_region (rp rfl rfl (r_nil (r_seq (r_seq (r_region (rp rfl rfl (r_v (v_ld tabOk (h.box 0 rfl) (j := 3) rfl rfl rfl) rfl (r_nil ?_))))))))))
  refine r_if rfl hF (fun hF => ?_) (fun hF => ?_)
  · refine r_seq (r_seq (r_region (rp rfl rfl (rp rfl rfl (rp rfl rfl (r_v (v_ld tabOk (hc1.below h.below) (j := 5) rfl rfl rfl) rfl (rp rfl rfl (rp rfl rfl (r_nil ?_)))))))))
    replace h := h.nil (α := Int)
    obtain ⟨o1, hF, hK1⟩ := bindS hF
    refine r_block (r_sub [(0, _), (5, _), (6, _), (22, _), (23, _), (24, _)] ⟨rfl, rfl, rfl, rfl, rfl, rfl, trivial⟩ ?_)
    refine r_loop (fun m e w' => ∃ (S1 : Nat → Prop) (p12 : Option Addr) (ln1 : Nat) (k11 : Nat) (x1 : (List Int)) (i1 : Int), impl_view_successors_L1 a_0 y1 y2 m x1 i1 = some o1 ∧ e = [(0, .pointer (some ⟨b1, o_1, none⟩)), (5, .pointer (some ⟨bb1, 0, none⟩)), (6, .slice p12 ln1 k11), (22, .slice p7 y1.places.length k6), (23, .int .i64 (y1.places.length : Int)), (24, .int .i64 i1)] ∧ SH w w' [Ch.own S1 (x1 : List Int) [.slice p12 ln1 k11], Ch.box bb1 [.int .i64 y2.instance_, .int .i64 y2.pin, .int .i64 y2.net, .bool y2.drives] 126]) n ⟨_, _, _, _, _, _, hF, rfl, h⟩ ?_
    rintro m1 e1 w3 ⟨S1, p12, ln1, k11, x1, i1, hF, rfl, h⟩
    obtain rfl := (h.sl 0 rfl).2
    rcases m1 with _ | m1
    · rw [impl_view_successors_L1] at hF
      cases hF
    rw [impl_view_successors_L1] at hF
    refine r_seq (r_region (rp rfl rfl (r_nil (r_seq ?_))))
    refine r_if rfl hF (fun hF => ?_) (fun hF => ?_)
    · refine r_skip (r_seq (r_block (r_seq (r_region (rp rfl rfl ?_)))))
      obtain ⟨y3, hy3, hF⟩ := bindS hF
      have he2 := idx_some hy3
      obtain ⟨b3, o_3, q2, cs4, hp2, hq2, -, hr3, hc5⟩ := s7.at hy3
      obtain rfl := open_Tplace hr3
      refine r_v (v_ix tabOk hp2 hq2 ⟨he2.1, he2.2.1⟩ rfl rfl rfl rfl rfl rfl) rfl (r_v (v_ld tabOk (hc5.below h.below) (j := 0) rfl rfl rfl) rfl (r_alloc tabOk h rfl rfl rfl ?_))
      intro w4 bb2 h
      refine rp rfl rfl (r_stbox tabOk 0 h rfl rfl rfl rfl rfl rfl rfl ?_)
      intro w5 h
      refine r_nil (r_seq (r_region (rp rfl rfl (r_v (v_ld tabOk (h.box 0 rfl) (j := 2) rfl rfl rfl) rfl (rp rfl rfl (r_v (v_ld tabOk (h.box 2 rfl) (j := 2) rfl rfl rfl) rfl (rp rfl rfl (rp rfl rfl ?_))))))))
      by_cases hc6 : (y3.net == y2.net) = true
      · replace hF := bifT hc6 hF
        refine r_setT hc6 (t := 34) rfl (r_wanted rfl (rp rfl rfl (r_wanted rfl (r_v (v_ld tabOk (h.box 0 rfl) (j := 3) rfl rfl rfl) rfl (r_wanted rfl (rp rfl rfl (rp rfl rfl (rp rfl rfl ?_))))))))
        by_cases hc7 : (!y3.drives) = true
        · replace hF := bifT hc7 hF
          refine r_setT hc7 (t := 39) rfl (r_wanted rfl (rp rfl rfl (r_wanted rfl (r_v (v_ld tabOk (h.box 0 rfl) (j := 0) rfl rfl rfl) rfl (r_wanted rfl ?_)))))
          obtain ⟨r1, hr4, hF⟩ := bindS hF
          refine r_callB r1 h call108 (impl_view_isClockPin_ok (h.old s1) (mkR_Tplace y3) hr4) rfl rfl rfl rfl ?_
          intro w6 h
          refine r_wanted rfl (rp rfl rfl (rp rfl rfl (r_nil ?_)))
          refine r_if rfl hF (fun hF => ?_) (fun hF => ?_)
          · refine r_region (rp rfl rfl (rp rfl rfl (r_bslice tabOk [.tmp 46] _ ([i1] : List Int) h rfl rfl rfl rfl rfl rfl rfl rfl rfl ⟨rfl, trivial⟩ rfl ?_)))
            intro w7 p13 S2 h
            obtain ⟨x2, hx1, hF⟩ := bindS hF
            obtain ⟨g1, hx1⟩ := appS_some hx1
            refine r_appE tabOk 2 h rfl (h.sl 0 rfl).1 (h.sl 0 rfl).2 rfl rfl rfl rfl rfl rfl rfl rfl rfl g1 hx1 rfl ?_
            intro w8 p14 k12 S3 h
            refine rp rfl rfl (r_nil (r_blk (r_region (rp rfl rfl (rp rfl rfl (r_nil ?_))))))
            replace h := h.pick [2, 3] rfl
            exact r_back m1 [(0, _), (5, _), (6, _), (22, _), (23, _), (24, _)] (Nat.lt_succ_self m1) ⟨rfl, rfl, rfl, rfl, rfl, rfl, trivial⟩ ⟨_, _, _, _, _, _, hF, rfl, h⟩
          refine r_skip (r_blk (r_region (rp rfl rfl (rp rfl rfl (r_nil ?_)))))
          replace h := h.pick [1, 2] rfl
          exact r_back m1 [(0, _), (5, _), (6, _), (22, _), (23, _), (24, _)] (Nat.lt_succ_self m1) ⟨rfl, rfl, rfl, rfl, rfl, rfl, trivial⟩ ⟨_, _, _, _, _, _, hF, rfl, h⟩
        replace hc7 := Bool.eq_false_iff.2 hc7
        replace hF := bifF hc7 hF
        refine r_setF hc7 (t := 39) rfl (r_not rfl rfl rfl (r_not rfl rfl rfl (r_not rfl rfl rfl (r_not rfl rfl rfl (rp rfl rfl (r_nil (r_condF rfl rfl (r_skip (r_blk (r_region (rp rfl rfl ?_)))))))))))
        refine rp rfl rfl (r_nil ?_)
        replace h := h.pick [1, 2] rfl
        exact r_back m1 [(0, _), (5, _), (6, _), (22, _), (23, _), (24, _)] (Nat.lt_succ_self m1) ⟨rfl, rfl, rfl, rfl, rfl, rfl, trivial⟩ ⟨_, _, _, _, _, _, hF, rfl, h⟩
      replace hc6 := Bool.eq_false_iff.2 hc6
      replace hF := bifF hc6 hF
      refine r_setF hc6 (t := 34) rfl (r_not rfl rfl rfl (r_not rfl rfl rfl (r_not rfl rfl rfl (rp rfl rfl (rp rfl rfl (r_not rfl rfl rfl (r_not rfl rfl rfl (r_not rfl rfl rfl (r_not rfl rfl rfl (rp rfl rfl (r_nil ?_)))))))))))
      refine r_condF rfl rfl (r_skip (r_blk (r_region (rp rfl rfl (rp rfl rfl (r_nil ?_))))))
      replace h := h.pick [1, 2] rfl
      exact r_back m1 [(0, _), (5, _), (6, _), (22, _), (23, _), (24, _)] (Nat.lt_succ_self m1) ⟨rfl, rfl, rfl, rfl, rfl, rfl, trivial⟩ ⟨_, _, _, _, _, _, hF, rfl, h⟩
    refine r_exit rfl ?_
    obtain rfl := someI hF; replace hF := hK1
    refine r_seq (r_region (rp rfl rfl (rp rfl rfl (r_nil ?_))))
    obtain rfl := someI hF
    exact r_retV tabOk (ρ := (List Int)) [GoT.v (List Int) [.slice p12 x1.length k11]] h ⟨rfl, trivial⟩ (PV.done h (pv_one (po_own 0 h rfl)))
  refine r_skip (r_seq (r_seq (r_region (rp rfl rfl (r_v (v_ld tabOk (h.box 0 rfl) (j := 0) rfl rfl rfl) rfl (rp rfl rfl (r_nil ?_)))))))
  refine r_if rfl hF (fun hF => ?_) (fun hF => ?_)
  · refine r_seq (r_region (rp rfl rfl (r_nil ?_)))
    obtain rfl := someI hF
    exact r_retV tabOk (ρ := (List Int)) [GoT.v (List Int) [.slice none 0 0]] h ⟨rfl, trivial⟩ (PV.done h (pv_one po_nil))
  refine r_skip (r_seq ?_)
  refine r_any [] (fun w' => SH w w' [Ch.box bb1 [.int .i64 y2.instance_, .int .i64 y2.pin, .int .i64 y2.net, .bool y2.drives] 126]) rfl 9 rfl #[ff, ff, ff, ff, ff, ff, ff, ff, ff] (by kernel_rfl) (fun w9 hb => ?_)
  replace h := h.ext hb
  clear hb
  refine a_take 0 rfl #[tt, ff, ff, ff, ff, ff, ff, ff, ff] (by kernel_rfl) (by kernel_rfl) (fun w' hw => v_p tabOk rfl w') (h.pick [0] rfl) rfl ?_
  refine a_take 1 rfl #[tt, tt, ff, ff, ff, ff, ff, ff, ff] (by kernel_rfl) (by kernel_rfl) (fun w' hw => v_p tabOk rfl w') (h.pick [0] rfl) rfl ?_
  refine a_take 2 rfl #[tt, tt, tt, ff, ff, ff, ff, ff, ff] (by kernel_rfl) (by kernel_rfl) (fun w' hw => v_p tabOk rfl w') (h.pick [0] rfl) rfl ?_
  refine a_take 3 rfl #[tt, tt, tt, tt, ff, ff, ff, ff, ff] (by kernel_rfl) (by kernel_rfl) (fun w' hw => v_ld tabOk (hc1.below hw.below) (j := 0) rfl rfl rfl) (h.pick [0] rfl) rfl ?_
  refine a_take 4 rfl #[tt, tt, tt, tt, tt, ff, ff, ff, ff] (by kernel_rfl) (by kernel_rfl) (fun w' hw => v_p tabOk rfl w') (h.pick [0] rfl) rfl ?_
  refine a_take 5 rfl #[tt, tt, tt, tt, tt, tt, ff, ff, ff] (by kernel_rfl) (by kernel_rfl) (fun w' hw => v_ld tabOk (hw.box 0 rfl) (j := 0) rfl rfl rfl) (h.pick [0] rfl) rfl ?_
  obtain ⟨r2, hr5, hF⟩ := bindS hF
  refine a_merge (fun e w' => ∃ (bb9 : Nat) (p33 : Option Addr) (k31 : Nat) (p34 : Option Addr) (k32 : Nat) (p35 : Option Addr) (k33 : Nat) (S10 : Nat → Prop), e = [(1, .int .i64 a_1), (5, .pointer (some ⟨bb1, 0, none⟩)), (9, .pointer (some ⟨bb9, 0, none⟩))] ∧ SH w w' [Ch.box bb9 [.string r2.Name, .int .i64 r2.Kind, .slice p33 r2.Pins.length k31, .slice p34 r2.Arcs.length k32, .slice p35 r2.Truth.length k33, .int .i64 r2.Leak, .int .i64 r2.Energy] 70, Ch.grp (old w) S10 [fct (r2 : TCell) [.string r2.Name, .int .i64 r2.Kind, .slice p33 r2.Pins.length k31, .slice p34 r2.Arcs.length k32, .slice p35 r2.Truth.length k33, .int .i64 r2.Leak, .int .i64 r2.Energy]], Ch.box bb1 [.int .i64 y2.instance_, .int .i64 y2.pin, .int .i64 y2.net, .bool y2.drives] 126]) 0 #[tt, tt, tt, tt, tt, tt, tt, tt, tt] ?_ ?_
  · intro K
    refine a_two 6 7 rfl rfl #[tt, tt, tt, tt, tt, tt, tt, ff, ff] #[tt, tt, tt, tt, tt, tt, ff, tt, ff] (by kernel_rfl) (by kernel_rfl) (by kernel_rfl) ?_ ?_
    · have hg4 : Rg (old w) w (old w) w := .start (fun _ h => h)
      refine r_callP r2 hg4 h call115 (impl_Block_cellOf_ok (hg4.atB h) (mkR_TBlock (⟨(⟨y1.Block.Library.Cells⟩ : TLibrary), (⟨y1.Block.Design.Instances, y1.Block.Design.Nets, y1.Block.Design.Ports⟩ : TDesign), y1.Block.Wires⟩ : TBlock) (hg4.inBS h s2) (hg4.inBS h s3) (hg4.inBS h s4) (hg4.inBS h s5) (hg4.inBS h s6)) hr5) rfl rfl rfl rfl ?_
      intro w20 us4 S8 h hv4
      obtain ⟨cs8, rfl, hr12⟩ := rs_one hv4
      have hr13 := hr12
      obtain ⟨p27, k25, p28, k26, p29, k27, rfl, s21, s22, s23⟩ := open_TCell hr12
      replace h := h.grpAdd 0 rfl hr13
      refine a_goal (fun _ => (h.pick [1] rfl)) ?_
      refine a_only 7 rfl #[tt, tt, tt, tt, tt, tt, tt, tt, ff] (by kernel_rfl) (by kernel_rfl) ?_
      refine r_alloc tabOk h rfl rfl rfl ?_
      intro w21 bb7 h
      refine a_goal (fun _ => (h.pick [2] rfl)) ?_
      refine a_only 8 rfl #[tt, tt, tt, tt, tt, tt, tt, tt, tt] (by kernel_rfl) (by kernel_rfl) ?_
      refine r_stbox tabOk 0 h rfl rfl rfl rfl rfl rfl rfl ?_
      intro w22 h
      replace h : SH _ _ [Ch.box bb7 [.string r2.Name, .int .i64 r2.Kind, .slice p27 r2.Pins.length k25, .slice p28 r2.Arcs.length k26, .slice p29 r2.Truth.length k27, .int .i64 r2.Leak, .int .i64 r2.Energy] 70, Ch.grp (old w) S8 [fct (r2 : TCell) [.string r2.Name, .int .i64 r2.Kind, .slice p27 r2.Pins.length k25, .slice p28 r2.Arcs.length k26, .slice p29 r2.Truth.length k27, .int .i64 r2.Leak, .int .i64 r2.Energy]], Ch.box bb1 [.int .i64 y2.instance_, .int .i64 y2.pin, .int .i64 y2.net, .bool y2.drives] 126] := h
      refine a_goal (fun _ => (h.pick [2] rfl)) ?_
      exact a_sub [(1, _), (5, _), (9, _)] ⟨rfl, rfl, rfl, trivial⟩ (K _ _ ⟨_, _, _, _, _, _, _, _, rfl, h⟩)
    refine r_alloc tabOk h rfl rfl rfl ?_
    intro w23 bb8 h
    refine a_goal (fun _ => (h.pick [1] rfl)) ?_
    refine a_only 6 rfl #[tt, tt, tt, tt, tt, tt, tt, tt, ff] (by kernel_rfl) (by kernel_rfl) ?_
    have hg5 : Rg (old w) w (old w) w := .start (fun _ h => h)
    refine r_callP r2 hg5 h call115 (impl_Block_cellOf_ok (hg5.atB h) (mkR_TBlock (⟨(⟨y1.Block.Library.Cells⟩ : TLibrary), (⟨y1.Block.Design.Instances, y1.Block.Design.Nets, y1.Block.Design.Ports⟩ : TDesign), y1.Block.Wires⟩ : TBlock) (hg5.inBS h s2) (hg5.inBS h s3) (hg5.inBS h s4) (hg5.inBS h s5) (hg5.inBS h s6)) hr5) rfl rfl rfl rfl ?_
    intro w24 us5 S9 h hv5
    obtain ⟨cs9, rfl, hr14⟩ := rs_one hv5
    have hr15 := hr14
    obtain ⟨p30, k28, p31, k29, p32, k30, rfl, s24, s25, s26⟩ := open_TCell hr14
    replace h := h.grpAdd 0 rfl hr15
    refine a_goal (fun _ => (h.pick [2] rfl)) ?_
    refine a_only 8 rfl #[tt, tt, tt, tt, tt, tt, tt, tt, tt] (by kernel_rfl) (by kernel_rfl) ?_
    refine r_stbox tabOk 1 h rfl rfl rfl rfl rfl rfl rfl ?_
    intro w25 h
    refine a_goal (fun _ => (h.pick [2] rfl)) ?_
    replace h := h.pick [1, 0, 2] rfl
    exact a_sub [(1, _), (5, _), (9, _)] ⟨rfl, rfl, rfl, trivial⟩ (K _ _ ⟨_, _, _, _, _, _, _, _, rfl, h⟩)
  rintro e3 w26 ⟨bb9, p33, k31, p34, k32, p35, k33, S10, rfl, h⟩
  refine a_done (by kernel_rfl) ?_
  refine r_seq (r_seq (r_region (rp rfl rfl (r_v (v_ld tabOk (h.box 0 rfl) (j := 3) rfl rfl rfl) rfl (rp rfl rfl ?_)))))
  obtain ⟨r3, hr16, hF⟩ := bindS hF
  refine r_callB r3 h call114 (slices_ContainsFunc_impl_Arc_impl_view_successors_1_ok ⟨_, _, rfl, (prt_TCell (h.grp 1 0 rfl rfl)).2.1.1⟩ (ptr_boxB (x := y2) 2 h rfl (mkR_Tplace y2)) hr16) rfl rfl rfl rfl ?_
  intro w27 h
  refine r_nil ?_
  refine r_if rfl hF (fun hF => ?_) (fun hF => ?_)
  · refine r_seq ?_
    refine r_any [] (fun w' => SH w w' [Ch.box bb9 [.string r2.Name, .int .i64 r2.Kind, .slice p33 r2.Pins.length k31, .slice p34 r2.Arcs.length k32, .slice p35 r2.Truth.length k33, .int .i64 r2.Leak, .int .i64 r2.Energy] 70, Ch.box bb1 [.int .i64 y2.instance_, .int .i64 y2.pin, .int .i64 y2.net, .bool y2.drives] 126]) rfl 9 rfl #[ff, ff, ff, ff, ff, ff, ff, ff, ff] (by kernel_rfl) (fun w28 hb => ?_)
    replace h := h.ext hb
    clear hb
    refine a_take 0 rfl #[tt, ff, ff, ff, ff, ff, ff, ff, ff] (by kernel_rfl) (by kernel_rfl) (fun w' hw => v_p tabOk rfl w') (h.pick [0, 2] rfl) rfl ?_
    refine a_take 1 rfl #[tt, tt, ff, ff, ff, ff, ff, ff, ff] (by kernel_rfl) (by kernel_rfl) (fun w' hw => v_p tabOk rfl w') (h.pick [0, 2] rfl) rfl ?_
    refine a_take 2 rfl #[tt, tt, tt, ff, ff, ff, ff, ff, ff] (by kernel_rfl) (by kernel_rfl) (fun w' hw => v_ld tabOk (hw.box 1 rfl) (j := 1) rfl rfl rfl) (h.pick [0, 2] rfl) rfl ?_
    refine a_take 3 rfl #[tt, tt, tt, tt, ff, ff, ff, ff, ff] (by kernel_rfl) (by kernel_rfl) (fun w' hw => v_p tabOk rfl w') (h.pick [0, 2] rfl) rfl ?_
    refine a_take 4 rfl #[tt, tt, tt, tt, tt, ff, ff, ff, ff] (by kernel_rfl) (by kernel_rfl) (fun w' hw => v_ld tabOk (hw.box 0 rfl) (j := 0) rfl rfl rfl) (h.pick [0, 2] rfl) rfl ?_
    refine a_only 5 rfl #[tt, tt, tt, tt, tt, tt, ff, ff, ff] (by kernel_rfl) (by kernel_rfl) ?_
    obtain ⟨r4, hr17, hF⟩ := bindS hF
    refine r_callI r4 h call150 (impl_Cell_output_ok (h.grp 1 0 rfl rfl) hr17) rfl rfl rfl rfl ?_
    intro w29 h
    refine a_goal (fun _ => (h.pick [0, 2] rfl)) ?_
    refine a_take 6 rfl #[tt, tt, tt, tt, tt, tt, tt, ff, ff] (by kernel_rfl) (by kernel_rfl) (fun w' hw => v_p tabOk rfl w') (h.pick [0, 2] rfl) rfl ?_
    refine a_only 7 rfl #[tt, tt, tt, tt, tt, tt, tt, tt, ff] (by kernel_rfl) (by kernel_rfl) ?_
    refine r_bslice tabOk [.tmp 71] _ ([W64 ((W64 (a_1 - y2.pin)) + r4)] : List Int) h rfl rfl rfl rfl rfl rfl rfl rfl rfl ⟨rfl, trivial⟩ rfl ?_
    intro w30 p36 S11 h
    refine a_goal (fun _ => (h.pick [1, 3] rfl)) ?_
    refine a_take 8 rfl #[tt, tt, tt, tt, tt, tt, tt, tt, tt] (by kernel_rfl) (by kernel_rfl) (fun w' hw => v_p tabOk rfl w') (h.pick [1, 3] rfl) rfl ?_
    refine a_done (by kernel_rfl) ?_
    replace h := h.pick [0, 1, 3] rfl
    obtain rfl := someI hF
    exact r_retV tabOk (ρ := (List Int)) [GoT.v (List Int) [.slice p36 1 1]] h ⟨rfl, trivial⟩ (PV.done h (pv_one (po_own 0 h rfl)))
  refine r_skip (r_seq (r_region (rp rfl rfl (r_nil ?_))))
  replace h := h.pick [0, 2] rfl
  obtain rfl := someI hF
  exact r_retV tabOk (ρ := (List Int)) [GoT.v (List Int) [.slice none 0 0]] h ⟨rfl, trivial⟩ (PV.done h (pv_one po_nil))

def impl_view_isDataPath_L1 (v : (Option Tview)) (path : (List Int)) : Nat → Int → Option (Flow Bool Int)
  | 0, _ => none
  | n + 1, i1 =>
    bif decide (i1 < (path.length : Int)) then
      (idx path (W64 (i1 - 1))).bind fun y1 =>
      (idx path i1).bind fun y2 =>
      (impl_view_successors n v y1).bind fun r1 =>
      (slices_Contains_int64 n r1 y2).bind fun r2 =>
      bif (!r2) then
        some (.ret false)
      else
        impl_view_isDataPath_L1 v path n (W64 (i1 + 1))
    else
      some (.nxt i1)

def impl_view_isDataPath (n : Nat) (v : (Option Tview)) (path : (List Int)) : Option Bool :=
  (
    (impl_length_int64 n path).bind fun r3 =>
    (impl_within n r3 1 60).bind fun r4 =>
    bif (!r4) then
      some true
    else
      (v).bind fun y3 =>
      (impl_length_impl_place n y3.places).bind fun r5 =>
      (impl_areWithin n path 0 (W64 (r5 - 1))).bind fun r6 =>
      some (!r6)).bind fun b1 =>
  bif b1 then
    some false
  else
    (impl_view_isDataPath_L1 v path n 1).bind fun o => match o with
    | .ret r => some r
    | .nxt _ =>
      some true

theorem impl_view_isDataPath_ok {n : Nat} {w : World} {v : (Option Tview)} {path : (List Int)} {cs1 : List Value} (ha1 : GoT.R w (old w) v cs1) {cs2 : List Value} (ha2 : GoT.R w (old w) path cs2) {r : Bool} (hF : impl_view_isDataPath n v path = some r) : RetV Tryz.prog 55 [GoT.v (Option Tview) cs1, GoT.v (List Int) cs2] w r := by
  obtain ⟨p1, rfl, s1⟩ := open_ptr ha1
  obtain ⟨p2, k1, rfl, s2⟩ := ha2
  refine retV_of_run Tryz.func55 rfl (m := 40) rfl rfl (fun h => ?_)
  rw [impl_view_isDataPath] at hF
  refine r_seq (r_region (rp rfl rfl (r_nil (r_seq (r_seq ?_)))))
  obtain ⟨KF1, hKF1, o2, hF, hK2⟩ := bindE hF
  refine r_cut (fun e w' => ∃ (b1 : Bool), KF1 b1 = some r ∧ e = [(0, .pointer p1), (1, .slice p2 path.length k1), (20, .bool b1)] ∧ SH w w' []) ?_ ?_
  · refine r_region (rp rfl rfl ?_)
    obtain ⟨r3, hr5, hF⟩ := bindS hF
    refine r_callI r3 h call101 (impl_length_int64_ok ⟨_, _, rfl, (h.oldS s2)⟩ hr5) rfl rfl rfl rfl ?_
    intro w5 h
    obtain ⟨r4, hr6, hF⟩ := bindS hF
    refine r_callB r4 h call90 (impl_within_ok hr6) rfl rfl rfl rfl ?_
    intro w6 h
    refine rp rfl rfl (rp rfl rfl ?_)
    by_cases hc6 : (!r4) = true
    · replace hF := bifT hc6 hF
      refine r_setT hc6 (t := 10) rfl (r_not rfl rfl rfl (r_not rfl rfl rfl (r_not rfl rfl rfl (r_not rfl rfl rfl (r_not rfl rfl rfl (r_not rfl rfl rfl (r_not rfl rfl rfl (r_not rfl rfl rfl (r_not rfl rfl rfl (rp rfl rfl (r_nil ?_)))))))))))
      obtain rfl := someI hF
      exact r_cutgoal [(0, _), (1, _), (20, _)] ⟨rfl, rfl, rfl, trivial⟩ ⟨_, hK2, rfl, h⟩
    replace hc6 := Bool.eq_false_iff.2 hc6
    replace hF := bifF hc6 hF
    refine r_setF hc6 (t := 10) rfl (r_wanted rfl (rp rfl rfl (r_wanted rfl (rp rfl rfl (r_wanted rfl ?_)))))
    obtain ⟨y3, hy3, hF⟩ := bindS hF
    obtain ⟨b4, o_3, cs5, rfl, -, hr7, hc7⟩ := PtR.get s1 hy3
    obtain ⟨p4, k3, p5, k4, p6, k5, p7, k6, p8, k7, p9, k8, p10, k9, p11, k10, p12, k11, p13, k12, rfl, s3, s4, s5, s6, s7, s8, s9, s10, s11, s12⟩ := open_Tview hr7
    refine rp rfl rfl (r_wanted rfl (rp rfl rfl (r_wanted rfl (r_v (v_ld tabOk (hc7.below h.below) (j := 5) rfl rfl rfl) rfl (r_wanted rfl ?_)))))
    obtain ⟨r5, hr8, hF⟩ := bindS hF
    refine r_callI r5 h call105 (impl_length_impl_place_ok ⟨_, _, rfl, (h.oldS s8)⟩ hr8) rfl rfl rfl rfl ?_
    intro w7 h
    refine r_wanted rfl (rp rfl rfl (r_wanted rfl ?_))
    obtain ⟨r6, hr9, hF⟩ := bindS hF
    refine r_callB r6 h call104 (impl_areWithin_ok ⟨_, _, rfl, (h.oldS s2)⟩ hr9) rfl rfl rfl rfl ?_
    intro w8 h
    refine r_wanted rfl (rp rfl rfl (rp rfl rfl (r_nil ?_)))
    obtain rfl := someI hF
    exact r_cutgoal [(0, _), (1, _), (20, _)] ⟨rfl, rfl, rfl, trivial⟩ ⟨_, hK2, rfl, h⟩
  rintro e2 w9 ⟨b1, hF, rfl, h⟩
  subst hKF1
  refine r_if rfl hF (fun hF => ?_) (fun hF => ?_)
  · exact r_seq (r_region (rp rfl rfl (r_nil (r_rB tabOk h hF ⟨rfl, trivial⟩))))
  refine r_skip (r_seq (r_seq (r_region (rp rfl rfl (r_nil ?_)))))
  obtain ⟨o1, hF, hK1⟩ := bindS hF
  refine r_block (r_sub [(0, _), (1, _), (5, _)] ⟨rfl, rfl, rfl, trivial⟩ ?_)
  refine r_loop (fun m e w' => ∃ (i1 : Int), impl_view_isDataPath_L1 v path m i1 = some o1 ∧ e = [(0, .pointer p1), (1, .slice p2 path.length k1), (5, .int .i64 i1)] ∧ SH w w' []) n ⟨_, hF, rfl, h⟩ ?_
  rintro m1 e1 w1 ⟨i1, hF, rfl, h⟩
  rcases m1 with _ | m1
  · rw [impl_view_isDataPath_L1] at hF
    cases hF
  rw [impl_view_isDataPath_L1] at hF
  refine r_seq (r_seq (r_region (rp rfl rfl (rp rfl rfl (rp rfl rfl (rp rfl rfl (r_nil ?_)))))))
  refine r_if rfl hF (fun hF => ?_) (fun hF => ?_)
  · refine r_skip (r_seq (r_block (r_seq ?_)))
    refine r_any [] (fun w' => SH w w' []) rfl 13 rfl #[ff, ff, ff, ff, ff, ff, ff, ff, ff, ff, ff, ff, ff] (by kernel_rfl) (fun w2 hb => ?_)
    replace h := h.ext hb
    clear hb
    refine a_take 0 rfl #[tt, ff, ff, ff, ff, ff, ff, ff, ff, ff, ff, ff, ff] (by kernel_rfl) (by kernel_rfl) (fun w' hw => v_p tabOk rfl w') (h.pick [] rfl) rfl ?_
    refine a_take 1 rfl #[tt, tt, ff, ff, ff, ff, ff, ff, ff, ff, ff, ff, ff] (by kernel_rfl) (by kernel_rfl) (fun w' hw => v_p tabOk rfl w') (h.pick [] rfl) rfl ?_
    refine a_take 2 rfl #[tt, tt, tt, ff, ff, ff, ff, ff, ff, ff, ff, ff, ff] (by kernel_rfl) (by kernel_rfl) (fun w' hw => v_p tabOk rfl w') (h.pick [] rfl) rfl ?_
    refine a_take 3 rfl #[tt, tt, tt, tt, ff, ff, ff, ff, ff, ff, ff, ff, ff] (by kernel_rfl) (by kernel_rfl) (fun w' hw => v_p tabOk rfl w') (h.pick [] rfl) rfl ?_
    obtain ⟨y1, hy1, hF⟩ := bindS hF
    have he1 := idx_some hy1
    obtain ⟨b2, o_1, q1, cs3, hp1, hq1, -, hr1, hc3⟩ := s2.at hy1
    obtain rfl := hr1
    refine a_take 4 rfl #[tt, tt, tt, tt, tt, ff, ff, ff, ff, ff, ff, ff, ff] (by kernel_rfl) (by kernel_rfl) (fun w' hw => v_ix tabOk hp1 hq1 ⟨he1.1, he1.2.1⟩ rfl rfl rfl rfl rfl rfl) (h.pick [] rfl) rfl ?_
    refine a_take 5 rfl #[tt, tt, tt, tt, tt, tt, ff, ff, ff, ff, ff, ff, ff] (by kernel_rfl) (by kernel_rfl) (fun w' hw => v_ld tabOk (hc3.below hw.below) (j := 0) rfl rfl rfl) (h.pick [] rfl) rfl ?_
    refine a_take 7 rfl #[tt, tt, tt, tt, tt, tt, ff, tt, ff, ff, ff, ff, ff] (by kernel_rfl) (by kernel_rfl) (fun w' hw => v_p tabOk rfl w') (h.pick [] rfl) rfl ?_
    refine a_take 8 rfl #[tt, tt, tt, tt, tt, tt, ff, tt, tt, ff, ff, ff, ff] (by kernel_rfl) (by kernel_rfl) (fun w' hw => v_p tabOk rfl w') (h.pick [] rfl) rfl ?_
    obtain ⟨y2, hy2, hF⟩ := bindS hF
    have he2 := idx_some hy2
    obtain ⟨b3, o_2, q2, cs4, hp2, hq2, -, hr2, hc4⟩ := s2.at hy2
    obtain rfl := hr2
    refine a_take 9 rfl #[tt, tt, tt, tt, tt, tt, ff, tt, tt, tt, ff, ff, ff] (by kernel_rfl) (by kernel_rfl) (fun w' hw => v_ix tabOk hp2 hq2 ⟨he2.1, he2.2.1⟩ rfl rfl rfl rfl rfl rfl) (h.pick [] rfl) rfl ?_
    refine a_take 10 rfl #[tt, tt, tt, tt, tt, tt, ff, tt, tt, tt, tt, ff, ff] (by kernel_rfl) (by kernel_rfl) (fun w' hw => v_ld tabOk (hc4.below hw.below) (j := 0) rfl rfl rfl) (h.pick [] rfl) rfl ?_
    refine a_only 6 rfl #[tt, tt, tt, tt, tt, tt, tt, tt, tt, tt, tt, ff, ff] (by kernel_rfl) (by kernel_rfl) ?_
    obtain ⟨r1, hr3, hF⟩ := bindS hF
    refine r_callL r1 h call107 (impl_view_successors_ok (h.old s1) hr3) rfl rfl rfl rfl ?_
    intro w3 S1 p3 k2 h
    refine a_goal (fun _ => (h.pick [] rfl)) ?_
    refine a_only 11 rfl #[tt, tt, tt, tt, tt, tt, tt, tt, tt, tt, tt, tt, ff] (by kernel_rfl) (by kernel_rfl) ?_
    obtain ⟨r2, hr4, hF⟩ := bindS hF
    refine r_callB r2 h call106 (slices_Contains_int64_ok (h.own 0 rfl) hr4) rfl rfl rfl rfl ?_
    intro w4 h
    refine a_goal (fun _ => (h.pick [] rfl)) ?_
    refine a_take 12 rfl #[tt, tt, tt, tt, tt, tt, tt, tt, tt, tt, tt, tt, tt] (by kernel_rfl) (by kernel_rfl) (fun w' hw => v_p tabOk rfl w') (h.pick [] rfl) rfl ?_
    refine a_done (by kernel_rfl) ?_
    refine r_if rfl hF (fun hF => ?_) (fun hF => ?_)
    · refine r_seq (r_region (rp rfl rfl (r_nil ?_)))
      obtain rfl := someI hF; replace hF := hK1
      exact r_rB tabOk h hF ⟨rfl, trivial⟩
    refine r_skip (r_blk (r_region (rp rfl rfl (rp rfl rfl (rp rfl rfl (r_nil ?_))))))
    replace h := h.pick [] rfl
    exact r_back m1 [(0, _), (1, _), (5, _)] (Nat.lt_succ_self m1) ⟨rfl, rfl, rfl, trivial⟩ ⟨_, hF, rfl, h⟩
  refine r_exit rfl ?_
  obtain rfl := someI hF; replace hF := hK1
  exact r_seq (r_region (rp rfl rfl (r_nil (r_rB tabOk h hF ⟨rfl, trivial⟩))))

def impl_IsDataPath (n : Nat) (b : TBlock) (path : (List Int)) : Option Bool :=
  (impl_IsBlock n b).bind fun r1 =>
  bif r1 then
    (impl_newView n b).bind fun r2 =>
    (impl_view_isDataPath n r2 path).bind fun r3 =>
    some r3
  else
    some false

theorem impl_IsDataPath_ok {n : Nat} {w : World} {b : TBlock} {path : (List Int)} {cs1 : List Value} (ha1 : GoT.R w (old w) b cs1) {cs2 : List Value} (ha2 : GoT.R w (old w) path cs2) {r : Bool} (hF : impl_IsDataPath n b path = some r) : RetV Tryz.prog 20 [GoT.v TBlock cs1, GoT.v (List Int) cs2] w r := by
  obtain ⟨p1, k1, p2, k2, p3, k3, p4, k4, p5, k5, rfl, s1, s2, s3, s4, s5⟩ := open_TBlock ha1
  obtain ⟨p6, k6, rfl, s6⟩ := ha2
  refine retV_of_run Tryz.func20 rfl (m := 13) rfl rfl (fun h => ?_)
  rw [impl_IsDataPath] at hF
  refine r_seq (r_region (r_box h rfl rfl ?_))
  intro w1 bb1 h
  refine rp rfl rfl (r_nil (r_seq (r_region (r_v (v_ld tabOk (h.box 0 rfl) (j := 0) rfl rfl rfl) rfl ?_))))
  obtain ⟨r1, hr1, hF⟩ := bindS hF
  refine r_callB r1 h call37 (impl_IsBlock_ok (h.old ha1) hr1) rfl rfl rfl rfl ?_
  intro w2 h
  refine rp rfl rfl ?_
  by_cases hc1 : r1 = true
  · replace hF := bifT hc1 hF
    refine r_setT hc1 (t := 7) rfl (r_wanted rfl (r_v (v_ld tabOk (h.box 0 rfl) (j := 0) rfl rfl rfl) rfl (r_wanted rfl ?_)))
    have hg1 : Rg (old w) w (old w) w := .start (fun _ h => h)
    obtain ⟨r2, hr2, hF⟩ := bindS hF
    refine r_callR r2 hg1 h call54 (impl_newView_ok (hg1.regOld h) (hg1.inR h ha1) hr2) rfl rfl rfl rfl ?_
    intro w3 us1 B1 hg2 hu1 hz1 hv1
    have s7 := Up.S hg1 h hu1 s6
    have hb1 := h.below.trans (hu1.below.mono h.below.size)
    replace h := hz1
    obtain ⟨cs3, rfl, hr3⟩ := rs_one hv1
    obtain ⟨p7, rfl, s8⟩ := open_ptr hr3
    refine r_wanted rfl (rp rfl rfl (r_wanted rfl ?_))
    obtain ⟨r3, hr4, hF⟩ := bindS hF
    refine r_callB r3 h call55 (impl_view_isDataPath_ok (h.old (GoT.mono s8 hg2.old)) ⟨_, _, rfl, (h.oldS (s7.mono hg2.old))⟩ hr4) rfl rfl rfl rfl ?_
    intro w4 h
    refine rp rfl rfl (rp rfl rfl (r_nil ?_))
    replace h := h.unbase hg2.below (show NoD [] from trivial)
    exact r_rB tabOk h hF ⟨rfl, trivial⟩
  replace hc1 := Bool.eq_false_iff.2 hc1
  replace hF := bifF hc1 hF
  exact r_setF hc1 (t := 7) rfl (r_not rfl rfl rfl (r_not rfl rfl rfl (r_not rfl rfl rfl (r_not rfl rfl rfl (rp rfl rfl (rp rfl rfl (r_nil (r_rB tabOk h hF ⟨rfl, trivial⟩))))))))

def laws_FnExactIsDataPath (n : Nat) (aB : TBlock) (aPath : (List Int)) : Option Bool :=
  bif decide ((aPath.length : Int) > 1048576) then
    some true
  else
    (laws_szBlock n aB 1048576).bind fun r1 =>
    bif decide (r1 < 0) then
      some true
    else
      (laws_toBlock n aB).bind fun r2 =>
      (laws_toInt64S n aPath).bind fun r3 =>
      (spec_IsDataPath n r2 r3).bind fun r4 =>
      (laws_toBlock n aB).bind fun r5 =>
      (laws_toInt64S n aPath).bind fun r6 =>
      (impl_IsDataPath n r5 r6).bind fun r7 =>
      bif (!(r7 == r4)) then
        some false
      else
        (laws_toBlock n aB).bind fun r8 =>
        (laws_eqBlock n r5 r8).bind fun r9 =>
        bif (!r9) then
          some false
        else
          (laws_toInt64S n aPath).bind fun r10 =>
          (laws_eqInt64S n r6 r10).bind fun r11 =>
          bif (!r11) then
            some false
          else
            some true

theorem laws_FnExactIsDataPath_ok {n : Nat} {w : World} {aB : TBlock} {aPath : (List Int)} {cs1 : List Value} (ha1 : GoT.R w (old w) aB cs1) {cs2 : List Value} (ha2 : GoT.R w (old w) aPath cs2) {r : Bool} (hF : laws_FnExactIsDataPath n aB aPath = some r) : RetV Tryz.prog 5 [GoT.v TBlock cs1, GoT.v (List Int) cs2] w r := by
  obtain ⟨p1, k1, p2, k2, p3, k3, p4, k4, p5, k5, rfl, s1, s2, s3, s4, s5⟩ := open_TBlock ha1
  obtain ⟨p6, k6, rfl, s6⟩ := ha2
  refine retV_of_run Tryz.func5 rfl (m := 43) rfl rfl (fun h => ?_)
  rw [laws_FnExactIsDataPath] at hF
  refine r_seq (r_region (r_box h rfl rfl ?_))
  intro w1 bb1 h
  refine rp rfl rfl (r_nil (r_seq (r_seq (r_region (rp rfl rfl (rp rfl rfl (rp rfl rfl (r_nil ?_))))))))
  refine r_if rfl hF (fun hF => ?_) (fun hF => ?_)
  · exact r_seq (r_region (rp rfl rfl (r_nil (r_rB tabOk h hF ⟨rfl, trivial⟩))))
  refine r_skip (r_seq (r_region (rp rfl rfl (r_nil (r_seq (r_region (r_v (v_ld tabOk (h.box 0 rfl) (j := 0) rfl rfl rfl) rfl (rp rfl rfl ?_))))))))
  obtain ⟨r1, hr1, hF⟩ := bindS hF
  refine r_callI r1 h call8 (laws_szBlock_ok (h.old ha1) hr1) rfl rfl rfl rfl ?_
  intro w2 h
  refine rp rfl rfl (r_nil (r_seq (r_seq (r_region (rp rfl rfl (rp rfl rfl (r_nil ?_)))))))
  refine r_if rfl hF (fun hF => ?_) (fun hF => ?_)
  · exact r_seq (r_region (rp rfl rfl (r_nil (r_rB tabOk h hF ⟨rfl, trivial⟩))))
  refine r_skip (r_seq (r_region (r_v (v_ld tabOk (h.box 0 rfl) (j := 0) rfl rfl rfl) rfl ?_)))
  obtain ⟨r2, hr2, hF⟩ := bindS hF
  refine r_callO r2 h call10 (laws_toBlock_ok (h.old ha1) hr2) rfl rfl rfl rfl ?_
  intro w3 S1 cs3 h
  obtain ⟨p7, k7, p8, k8, p9, k9, p10, k10, p11, k11, rfl, -, -, -, -, -⟩ := open_TBlock (h.own 0 rfl)
  refine rp rfl rfl ?_
  obtain ⟨r3, hr3, hF⟩ := bindS hF
  refine r_callL r3 h call19 (laws_toInt64S_ok ⟨_, _, rfl, (h.oldS s6)⟩ hr3) rfl rfl rfl rfl ?_
  intro w4 S2 p12 k12 h
  obtain ⟨r4, hr4, hF⟩ := bindS hF
  refine r_callB r4 h call18 (spec_IsDataPath_ok (h.own 1 rfl) (h.own 0 rfl) hr4) rfl rfl rfl rfl ?_
  intro w5 h
  refine rp rfl rfl (r_nil (r_seq (r_region (r_v (v_ld tabOk (h.box 2 rfl) (j := 0) rfl rfl rfl) rfl ?_))))
  obtain ⟨r5, hr5, hF⟩ := bindS hF
  refine r_callO r5 h call10 (laws_toBlock_ok (h.old ha1) hr5) rfl rfl rfl rfl ?_
  intro w6 S3 cs4 h
  obtain ⟨p13, k13, p14, k14, p15, k15, p16, k16, p17, k17, rfl, -, -, -, -, -⟩ := open_TBlock (h.own 0 rfl)
  refine r_alloc tabOk h rfl rfl rfl ?_
  intro w7 bb2 h
  refine r_stbox tabOk 0 h rfl rfl rfl rfl rfl rfl rfl ?_
  intro w8 h
  refine r_nil (r_seq (r_region (rp rfl rfl ?_)))
  obtain ⟨r6, hr6, hF⟩ := bindS hF
  refine r_callL r6 h call19 (laws_toInt64S_ok ⟨_, _, rfl, (h.oldS s6)⟩ hr6) rfl rfl rfl rfl ?_
  intro w9 S4 p18 k18 h
  refine rp rfl rfl (r_nil (r_seq (r_region (r_v (v_ld tabOk (h.box 1 rfl) (j := 0) rfl rfl rfl) rfl (rp rfl rfl ?_)))))
  obtain ⟨r7, hr7, hF⟩ := bindS hF
  refine r_callB r7 h call20 (impl_IsDataPath_ok (h.own 2 rfl) (h.own 0 rfl) hr7) rfl rfl rfl rfl ?_
  intro w10 h
  refine rp rfl rfl (r_nil (r_seq (r_seq (r_region (rp rfl rfl (rp rfl rfl (rp rfl rfl (r_nil ?_))))))))
  refine r_if rfl hF (fun hF => ?_) (fun hF => ?_)
  · exact r_seq (r_region (rp rfl rfl (r_nil (r_rB tabOk h hF ⟨rfl, trivial⟩))))
  refine r_skip (r_seq (r_seq ?_))
  refine r_any [] (fun w' => SH w w' [Ch.box bb2 [.slice p13 r5.Library.Cells.length k13, .slice p14 r5.Design.Instances.length k14, .slice p15 r5.Design.Nets.length k15, .slice p16 r5.Design.Ports.length k16, .slice p17 r5.Wires.length k17] 44, Ch.box bb1 [.slice p1 aB.Library.Cells.length k1, .slice p2 aB.Design.Instances.length k2, .slice p3 aB.Design.Nets.length k3, .slice p4 aB.Design.Ports.length k4, .slice p5 aB.Wires.length k5] 32]) rfl 5 rfl #[ff, ff, ff, ff, ff] (by kernel_rfl) (fun w11 hb => ?_)
  replace h := h.ext hb
  clear hb
  refine a_take 0 rfl #[tt, ff, ff, ff, ff] (by kernel_rfl) (by kernel_rfl) (fun w' hw => v_ld tabOk (hw.box 0 rfl) (j := 0) rfl rfl rfl) (h.pick [1, 5] rfl) rfl ?_
  refine a_take 1 rfl #[tt, tt, ff, ff, ff] (by kernel_rfl) (by kernel_rfl) (fun w' hw => v_ld tabOk (hw.box 1 rfl) (j := 0) rfl rfl rfl) (h.pick [1, 5] rfl) rfl ?_
  refine a_only 2 rfl #[tt, tt, tt, ff, ff] (by kernel_rfl) (by kernel_rfl) ?_
  obtain ⟨r8, hr8, hF⟩ := bindS hF
  refine r_callO r8 h call10 (laws_toBlock_ok (h.old ha1) hr8) rfl rfl rfl rfl ?_
  intro w12 S5 cs5 h
  obtain ⟨p19, k19, p20, k20, p21, k21, p22, k22, p23, k23, rfl, -, -, -, -, -⟩ := open_TBlock (h.own 0 rfl)
  refine a_goal (fun _ => (h.pick [2, 6] rfl)) ?_
  refine a_only 3 rfl #[tt, tt, tt, tt, ff] (by kernel_rfl) (by kernel_rfl) ?_
  obtain ⟨r9, hr9, hF⟩ := bindS hF
  refine r_callB r9 h call12 (laws_eqBlock_ok (h.own 3 rfl) (h.own 0 rfl) hr9) rfl rfl rfl rfl ?_
  intro w13 h
  refine a_goal (fun _ => (h.pick [2, 6] rfl)) ?_
  refine a_take 4 rfl #[tt, tt, tt, tt, tt] (by kernel_rfl) (by kernel_rfl) (fun w' hw => v_p tabOk rfl w') (h.pick [2, 6] rfl) rfl ?_
  refine a_done (by kernel_rfl) ?_
  refine r_if rfl hF (fun hF => ?_) (fun hF => ?_)
  · exact r_seq (r_region (rp rfl rfl (r_nil (r_rB tabOk h hF ⟨rfl, trivial⟩))))
  refine r_skip (r_seq (r_seq (r_region (rp rfl rfl (rp rfl rfl ?_)))))
  obtain ⟨r10, hr10, hF⟩ := bindS hF
  refine r_callL r10 h call19 (laws_toInt64S_ok ⟨_, _, rfl, (h.oldS s6)⟩ hr10) rfl rfl rfl rfl ?_
  intro w14 S6 p24 k24 h
  obtain ⟨r11, hr11, hF⟩ := bindS hF
  refine r_callB r11 h call21 (laws_eqInt64S_ok (h.own 2 rfl) (h.own 0 rfl) hr11) rfl rfl rfl rfl ?_
  intro w15 h
  refine rp rfl rfl (r_nil ?_)
  refine r_if rfl hF (fun hF => ?_) (fun hF => ?_)
  · exact r_seq (r_region (rp rfl rfl (r_nil (r_rB tabOk h hF ⟨rfl, trivial⟩))))
  exact r_skip (r_seq (r_region (rp rfl rfl (r_nil (r_rB tabOk h hF ⟨rfl, trivial⟩)))))

end Go.Fw
