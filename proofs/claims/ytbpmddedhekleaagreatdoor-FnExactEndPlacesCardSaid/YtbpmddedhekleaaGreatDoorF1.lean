/- By a program of mine (gen.py): for each function a plain function and the proof that the code computes it. -/
import Derived.Test.YtbpmddedhekleaaGreatDoorE1
namespace Go.Fw
open Go Go.Proofs
open Go.RowKit (Below)
set_option maxRecDepth 100000
def spec_l22Checked_L1 (c : TCell) (pin : Int) : Nat → Int → Option (Flow Bool Int)
  | 0, _ => none
  | n + 1, i1 =>
    bif decide (i1 < (c.Arcs.length : Int)) then
      (idx c.Arcs i1).bind fun y1 =>
      bif (y1.To == pin) then
        (idx c.Arcs i1).bind fun y2 =>
        bif decide (y2.Kind ≥ 4) then
          some (.ret true)
        else
          spec_l22Checked_L1 c pin n (W64 (i1 + 1))
      else
        spec_l22Checked_L1 c pin n (W64 (i1 + 1))
    else
      some (.nxt i1)

def spec_l22Checked (n : Nat) (c : TCell) (pin : Int) : Option Bool :=
  (spec_l22Checked_L1 c pin n 0).bind fun o => match o with
  | .ret r => some r
  | .nxt _ =>
    some false

theorem spec_l22Checked_ok {n : Nat} {w : World} {c : TCell} {pin : Int} {cs1 : List Value} (ha1 : GoT.R w (old w) c cs1) {r : Bool} (hF : spec_l22Checked n c pin = some r) : RetV Tryz.prog 113 [GoT.v TCell cs1, .int .i64 pin] w r := by
  obtain ⟨p1, k1, p2, k2, p3, k3, rfl, s1, s2, s3⟩ := open_TCell ha1
  refine retV_of_run Tryz.func113 rfl (m := 30) rfl rfl (fun h => ?_)
  rw [spec_l22Checked] at hF
  refine r_seq (r_region (r_box h rfl rfl ?_))
  intro w1 bb1 h
  refine rp rfl rfl (r_nil (r_seq (r_seq (r_region (rp rfl rfl (r_nil ?_))))))
  obtain ⟨o1, hF, hK1⟩ := bindS hF
  refine r_block (r_sub [(1, _), (2, _), (5, _)] ⟨rfl, rfl, rfl, trivial⟩ ?_)
  refine r_loop (fun m e w' => ∃ (i1 : Int), spec_l22Checked_L1 c pin m i1 = some o1 ∧ e = [(1, .int .i64 pin), (2, .pointer (some ⟨bb1, 0, none⟩)), (5, .int .i64 i1)] ∧ SH w w' [Ch.box bb1 [.string c.Name, .int .i64 c.Kind, .slice p1 c.Pins.length k1, .slice p2 c.Arcs.length k2, .slice p3 c.Truth.length k3, .int .i64 c.Leak, .int .i64 c.Energy] 70]) n ⟨_, hF, rfl, h⟩ ?_
  rintro m1 e1 w2 ⟨i1, hF, rfl, h⟩
  rcases m1 with _ | m1
  · rw [spec_l22Checked_L1] at hF
    cases hF
  rw [spec_l22Checked_L1] at hF
  refine r_seq (r_seq (r_region (rp rfl rfl (rp rfl rfl (r_v (v_ld tabOk (h.box 0 rfl) (j := 3) rfl rfl rfl) rfl (rp rfl rfl (rp rfl rfl (r_nil ?_))))))))
  refine r_if rfl hF (fun hF => ?_) (fun hF => ?_)
  · refine r_skip (r_seq (r_block (r_seq (r_region (rp rfl rfl (r_v (v_ld tabOk (h.box 0 rfl) (j := 3) rfl rfl rfl) rfl (rp rfl rfl ?_)))))))
    obtain ⟨y1, hy1, hF⟩ := bindS hF
    have he1 := idx_some hy1
    obtain ⟨b1, o_1, q1, cs2, hp1, hq1, -, hr1, hc2⟩ := s2.at hy1
    obtain ⟨p4, k4, p5, k5, rfl, s4, s5⟩ := open_TArc hr1
    refine r_v (v_ix tabOk hp1 hq1 ⟨he1.1, he1.2.1⟩ rfl rfl rfl rfl rfl rfl) rfl (rp rfl rfl (r_v (v_ld tabOk (hc2.below h.below) (j := 2) rfl rfl rfl) rfl (rp rfl rfl (rp rfl rfl (rp rfl rfl ?_)))))
    by_cases hc3 : (y1.To == pin) = true
    · replace hF := bifT hc3 hF
      refine r_setT hc3 (t := 21) rfl (r_wanted rfl (rp rfl rfl (r_wanted rfl (r_v (v_ld tabOk (h.box 0 rfl) (j := 3) rfl rfl rfl) rfl (r_wanted rfl (rp rfl rfl (r_wanted rfl ?_)))))))
      obtain ⟨y2, hy2, hF⟩ := bindS hF
      have he2 := idx_some hy2
      obtain ⟨b2, o_2, q2, cs3, hp2, hq2, -, hr2, hc4⟩ := s2.at hy2
      obtain ⟨p6, k6, p7, k7, rfl, s6, s7⟩ := open_TArc hr2
      refine r_v (v_ix tabOk hp2 hq2 ⟨he2.1, he2.2.1⟩ rfl rfl rfl rfl rfl rfl) rfl (r_wanted rfl (rp rfl rfl (r_wanted rfl (r_v (v_ld tabOk (hc4.below h.below) (j := 0) rfl rfl rfl) rfl (r_wanted rfl (rp rfl rfl (rp rfl rfl (r_nil ?_))))))))
      refine r_if rfl hF (fun hF => ?_) (fun hF => ?_)
      · refine r_seq (r_region (rp rfl rfl (r_nil ?_)))
        obtain rfl := someI hF; replace hF := hK1
        exact r_rB tabOk h hF ⟨rfl, trivial⟩
      exact r_skip (r_blk (r_region (rp rfl rfl (rp rfl rfl (rp rfl rfl (r_nil (r_back m1 [(1, _), (2, _), (5, _)] (Nat.lt_succ_self m1) ⟨rfl, rfl, rfl, trivial⟩ ⟨_, hF, rfl, h⟩)))))))
    replace hc3 := Bool.eq_false_iff.2 hc3
    replace hF := bifF hc3 hF
    refine r_setF hc3 (t := 21) rfl (r_not rfl rfl rfl (r_not rfl rfl rfl (r_not rfl rfl rfl (r_not rfl rfl rfl (r_not rfl rfl rfl (r_not rfl rfl rfl (r_not rfl rfl rfl (rp rfl rfl (r_nil (r_condF rfl rfl (r_skip ?_)))))))))))
    exact r_blk (r_region (rp rfl rfl (rp rfl rfl (rp rfl rfl (r_nil (r_back m1 [(1, _), (2, _), (5, _)] (Nat.lt_succ_self m1) ⟨rfl, rfl, rfl, trivial⟩ ⟨_, hF, rfl, h⟩))))))
  refine r_exit rfl ?_
  obtain rfl := someI hF; replace hF := hK1
  exact r_seq (r_region (rp rfl rfl (r_nil (r_rB tabOk h hF ⟨rfl, trivial⟩))))

def spec_l22Ends_L1 (b : TBlock) : Nat → (List Int) → Int → Option ((List Int) × Int)
  | 0, _, _ => none
  | n + 1, x1, i1 =>
    (spec_l22Count n b).bind fun r1 =>
    bif decide (i1 < r1) then
      (spec_l05At n (⟨b.Library.Cells⟩ : TLibrary) (⟨b.Design.Instances, b.Design.Nets, b.Design.Ports⟩ : TDesign) i1).bind fun o => match o with
        | (r3, _) =>
          bif decide (r3.instance_ < 0) then
            (idx b.Design.Ports r3.pin).bind fun y1 =>
            bif (y1.Dir == 2) then
              (appS x1 ([i1] : List Int)).bind fun x2 =>
              spec_l22Ends_L1 b n x2 (W64 (i1 + 1))
            else
              spec_l22Ends_L1 b n x1 (W64 (i1 + 1))
          else
            (spec_l22Cell n b r3.instance_).bind fun r5 =>
            (spec_l22Checked n r5 r3.pin).bind fun r6 =>
            bif r6 then
              (appS x1 ([i1] : List Int)).bind fun x3 =>
              spec_l22Ends_L1 b n x3 (W64 (i1 + 1))
            else
              spec_l22Ends_L1 b n x1 (W64 (i1 + 1))
    else
      some (x1, i1)

def spec_l22Ends (n : Nat) (b : TBlock) : Option (List Int) :=
  (spec_l22Ends_L1 b n ([] : List Int) 0).bind fun o => match o with
  | (x1, _) =>
    some x1

theorem spec_l22Ends_ok {n : Nat} {w : World} {b : TBlock} {cs1 : List Value} (ha1 : GoT.R w (old w) b cs1) {r : (List Int)} (hF : spec_l22Ends n b = some r) : RetV Tryz.prog 62 [GoT.v TBlock cs1] w r := by
  obtain ⟨p1, k1, p2, k2, p3, k3, p4, k4, p5, k5, rfl, s1, s2, s3, s4, s5⟩ := open_TBlock ha1
  refine retV_of_run Tryz.func62 rfl (m := 51) rfl rfl (fun h => ?_)
  rw [spec_l22Ends] at hF
  refine r_seq (r_region (r_box h rfl rfl ?_))
  intro w1 bb1 h
  refine rp rfl rfl (r_nil (r_seq (r_region (r_bslice tabOk [] _ ([] : List Int) h rfl rfl rfl rfl rfl rfl rfl rfl rfl trivial rfl ?_))))
  intro w2 p6 S1 h
  refine rp rfl rfl (r_nil (r_seq (r_seq (r_region (rp rfl rfl (r_nil ?_))))))
  obtain ⟨o1, hF, hK1⟩ := bindS hF
  refine r_block (r_sub [(1, _), (3, _), (4, _)] ⟨rfl, rfl, rfl, trivial⟩ ?_)
  refine r_loop (fun m e w' => ∃ (S2 : Nat → Prop) (p7 : Option Addr) (ln1 : Nat) (k6 : Nat) (x1 : (List Int)) (i1 : Int), spec_l22Ends_L1 b m x1 i1 = some o1 ∧ e = [(1, .pointer (some ⟨bb1, 0, none⟩)), (3, .slice p7 ln1 k6), (4, .int .i64 i1)] ∧ SH w w' [Ch.own S2 (x1 : List Int) [.slice p7 ln1 k6], Ch.box bb1 [.slice p1 b.Library.Cells.length k1, .slice p2 b.Design.Instances.length k2, .slice p3 b.Design.Nets.length k3, .slice p4 b.Design.Ports.length k4, .slice p5 b.Wires.length k5] 44]) n ⟨_, _, _, _, _, _, hF, rfl, h⟩ ?_
  rintro m1 e1 w3 ⟨S2, p7, ln1, k6, x1, i1, hF, rfl, h⟩
  obtain rfl := (h.sl 0 rfl).2
  rcases m1 with _ | m1
  · rw [spec_l22Ends_L1] at hF
    cases hF
  rw [spec_l22Ends_L1] at hF
  refine r_seq (r_seq (r_region (rp rfl rfl (r_v (v_ld tabOk (h.box 1 rfl) (j := 0) rfl rfl rfl) rfl ?_))))
  obtain ⟨r1, hr1, hF⟩ := bindS hF
  refine r_callI r1 h call51 (spec_l22Count_ok (h.old ha1) hr1) rfl rfl rfl rfl ?_
  intro w4 h
  refine rp rfl rfl (r_nil ?_)
  refine r_if rfl hF (fun hF => ?_) (fun hF => ?_)
  · refine r_skip (r_seq (r_block (r_seq (r_region (rp rfl rfl (r_v (v_ld tabOk (h.box 1 rfl) (j := 0) rfl rfl rfl) rfl (rp rfl rfl (r_v (v_ld tabOk (h.box 1 rfl) (j := 1) rfl rfl rfl) rfl (rp rfl rfl ?_)))))))))
    obtain ⟨r2, hr2, hF⟩ := bindS hF
    obtain ⟨r3, r4⟩ := r2
    refine r_call (r3, r4) h call94 (spec_l05At_ok (mkR_TLibrary (⟨b.Library.Cells⟩ : TLibrary) (h.oldS s1)) (mkR_TDesign (⟨b.Design.Instances, b.Design.Nets, b.Design.Ports⟩ : TDesign) (h.oldS s2) (h.oldS s3) (h.oldS s4)) hr2) rfl rfl rfl rfl ?_
    intro w5 S3 us1 hv1 hr3
    obtain ⟨S4, S5, cs2, us2, rfl, hv2, hr4⟩ := hv1.cons hr3
    obtain rfl := open_Tl05Place (hv2.sh.own 0 rfl)
    obtain ⟨rfl, h⟩ := hv2.lastB hr4
    refine rp rfl rfl (rp rfl rfl (rp rfl rfl (r_alloc tabOk h rfl rfl rfl ?_)))
    intro w6 bb2 h
    refine r_stbox tabOk 0 h rfl rfl rfl rfl rfl rfl rfl ?_
    intro w7 h
    refine rp rfl rfl (r_nil (r_seq (r_region (rp rfl rfl (r_v (v_ld tabOk (h.box 0 rfl) (j := 0) rfl rfl rfl) rfl (rp rfl rfl (r_nil ?_)))))))
    refine r_if rfl hF (fun hF => ?_) (fun hF => ?_)
    · refine r_seq (r_region (rp rfl rfl (rp rfl rfl (r_v (v_ld tabOk (h.box 3 rfl) (j := 3) rfl rfl rfl) rfl (rp rfl rfl (r_v (v_ld tabOk (h.box 0 rfl) (j := 1) rfl rfl rfl) rfl ?_))))))
      obtain ⟨y1, hy1, hF⟩ := bindS hF
      have he1 := idx_some hy1
      obtain ⟨b1, o_1, q1, cs3, hp1, hq1, -, hr6, hc3⟩ := s4.at hy1
      obtain rfl := open_TPort hr6
      refine r_v (v_ix tabOk hp1 hq1 ⟨he1.1, he1.2.1⟩ rfl rfl rfl rfl rfl rfl) rfl (rp rfl rfl (r_v (v_ld tabOk (hc3.below h.below) (j := 1) rfl rfl rfl) rfl (rp rfl rfl (r_nil ?_))))
      refine r_if rfl hF (fun hF => ?_) (fun hF => ?_)
      · refine r_region (rp rfl rfl (rp rfl rfl (r_bslice tabOk [.tmp 36] _ ([i1] : List Int) h rfl rfl rfl rfl rfl rfl rfl rfl rfl ⟨rfl, trivial⟩ rfl ?_)))
        intro w8 p8 S7 h
        obtain ⟨x2, hx1, hF⟩ := bindS hF
        obtain ⟨g1, hx1⟩ := appS_some hx1
        refine r_appE tabOk 3 h rfl (h.sl 0 rfl).1 (h.sl 0 rfl).2 rfl rfl rfl rfl rfl rfl rfl rfl rfl g1 hx1 rfl ?_
        intro w9 p9 k7 S8 h
        refine rp rfl rfl (r_nil (r_blk (r_region (rp rfl rfl (rp rfl rfl (rp rfl rfl (r_nil ?_)))))))
        replace h := h.pick [3, 4] rfl
        exact r_back m1 [(1, _), (3, _), (4, _)] (Nat.lt_succ_self m1) ⟨rfl, rfl, rfl, trivial⟩ ⟨_, _, _, _, _, _, hF, rfl, h⟩
      refine r_skip (r_blk (r_region (rp rfl rfl (rp rfl rfl (rp rfl rfl (r_nil ?_))))))
      replace h := h.pick [2, 3] rfl
      exact r_back m1 [(1, _), (3, _), (4, _)] (Nat.lt_succ_self m1) ⟨rfl, rfl, rfl, trivial⟩ ⟨_, _, _, _, _, _, hF, rfl, h⟩
    refine r_seq ?_
    refine r_any [] (fun w' => SH w w' [Ch.box bb2 [.int .i64 r3.instance_, .int .i64 r3.pin, .int .i64 r3.net, .bool r3.drives] 140, Ch.box bb1 [.slice p1 b.Library.Cells.length k1, .slice p2 b.Design.Instances.length k2, .slice p3 b.Design.Nets.length k3, .slice p4 b.Design.Ports.length k4, .slice p5 b.Wires.length k5] 44]) rfl 7 rfl #[ff, ff, ff, ff, ff, ff, ff] (by kernel_rfl) (fun w10 hb => ?_)
    replace h := h.ext hb
    clear hb
    refine a_take 0 rfl #[tt, ff, ff, ff, ff, ff, ff] (by kernel_rfl) (by kernel_rfl) (fun w' hw => v_ld tabOk (hw.box 1 rfl) (j := 0) rfl rfl rfl) (h.pick [0, 3] rfl) rfl ?_
    refine a_take 1 rfl #[tt, tt, ff, ff, ff, ff, ff] (by kernel_rfl) (by kernel_rfl) (fun w' hw => v_p tabOk rfl w') (h.pick [0, 3] rfl) rfl ?_
    refine a_take 2 rfl #[tt, tt, tt, ff, ff, ff, ff] (by kernel_rfl) (by kernel_rfl) (fun w' hw => v_ld tabOk (hw.box 0 rfl) (j := 0) rfl rfl rfl) (h.pick [0, 3] rfl) rfl ?_
    refine a_take 4 rfl #[tt, tt, tt, ff, tt, ff, ff] (by kernel_rfl) (by kernel_rfl) (fun w' hw => v_p tabOk rfl w') (h.pick [0, 3] rfl) rfl ?_
    refine a_take 5 rfl #[tt, tt, tt, ff, tt, tt, ff] (by kernel_rfl) (by kernel_rfl) (fun w' hw => v_ld tabOk (hw.box 0 rfl) (j := 1) rfl rfl rfl) (h.pick [0, 3] rfl) rfl ?_
    refine a_only 3 rfl #[tt, tt, tt, tt, tt, tt, ff] (by kernel_rfl) (by kernel_rfl) ?_
    have hg1 : Rg (old w) w (old w) w := .start (fun _ h => h)
    obtain ⟨r5, hr7, hF⟩ := bindS hF
    refine r_callP r5 hg1 h call98 (spec_l22Cell_ok (hg1.atB h) (hg1.inBR h ha1) hr7) rfl rfl rfl rfl ?_
    intro w11 us3 S9 h hv4
    obtain ⟨cs4, rfl, hr8⟩ := rs_one hv4
    have hr9 := hr8
    obtain ⟨p10, k8, p11, k9, p12, k10, rfl, s6, s7, s8⟩ := open_TCell hr8
    replace h := h.grpAdd 0 rfl hr9
    refine a_goal (fun _ => (h.pick [1, 4] rfl)) ?_
    refine a_only 6 rfl #[tt, tt, tt, tt, tt, tt, tt] (by kernel_rfl) (by kernel_rfl) ?_
    obtain ⟨r6, hr10, hF⟩ := bindS hF
    refine r_callB r6 h call113 (spec_l22Checked_ok (h.grp 0 0 rfl rfl) hr10) rfl rfl rfl rfl ?_
    intro w12 h
    refine a_goal (fun _ => (h.pick [1, 4] rfl)) ?_
    refine a_done (by kernel_rfl) ?_
    refine r_if rfl hF (fun hF => ?_) (fun hF => ?_)
    · refine r_region (rp rfl rfl (rp rfl rfl (r_bslice tabOk [.tmp 47] _ ([i1] : List Int) h rfl rfl rfl rfl rfl rfl rfl rfl rfl ⟨rfl, trivial⟩ rfl ?_)))
      intro w13 p13 S10 h
      obtain ⟨x3, hx2, hF⟩ := bindS hF
      obtain ⟨g2, hx2⟩ := appS_some hx2
      refine r_appE tabOk 4 h rfl (h.sl 0 rfl).1 (h.sl 0 rfl).2 rfl rfl rfl rfl rfl rfl rfl rfl rfl g2 hx2 rfl ?_
      intro w14 p14 k11 S11 h
      refine rp rfl rfl (r_nil (r_blk (r_region (rp rfl rfl (rp rfl rfl (rp rfl rfl (r_nil ?_)))))))
      replace h := h.pick [0, 2, 3, 4, 5] rfl
      replace h := h.pick [3, 4] rfl
      exact r_back m1 [(1, _), (3, _), (4, _)] (Nat.lt_succ_self m1) ⟨rfl, rfl, rfl, trivial⟩ ⟨_, _, _, _, _, _, hF, rfl, h⟩
    refine r_skip (r_blk (r_region (rp rfl rfl (rp rfl rfl (rp rfl rfl (r_nil ?_))))))
    replace h := h.pick [1, 2, 3, 4] rfl
    replace h := h.pick [2, 3] rfl
    exact r_back m1 [(1, _), (3, _), (4, _)] (Nat.lt_succ_self m1) ⟨rfl, rfl, rfl, trivial⟩ ⟨_, _, _, _, _, _, hF, rfl, h⟩
  refine r_exit rfl ?_
  obtain rfl := someI hF; replace hF := hK1
  refine r_seq (r_region (rp rfl rfl (rp rfl rfl (r_nil ?_))))
  obtain rfl := someI hF
  exact r_retV tabOk (ρ := (List Int)) [GoT.v (List Int) [.slice p7 x1.length k6]] h ⟨rfl, trivial⟩ (PV.done h (pv_one (po_own 0 h rfl)))

def spec_EndPlaces (n : Nat) (b : TBlock) : Option ((List Int) × Int) :=
  (spec_IsBlock n b).bind fun r1 =>
  bif (!r1) then
    some ([], 1)
  else
    (spec_l22Ends n b).bind fun r2 =>
    some (r2, 0)

theorem spec_EndPlaces_ok {n : Nat} {w : World} {b : TBlock} {cs1 : List Value} (ha1 : GoT.R w (old w) b cs1) {r : ((List Int) × Int)} (hF : spec_EndPlaces n b = some r) : RetV Tryz.prog 27 [GoT.v TBlock cs1] w r := by
  obtain ⟨p1, k1, p2, k2, p3, k3, p4, k4, p5, k5, rfl, s1, s2, s3, s4, s5⟩ := open_TBlock ha1
  refine retV_of_run Tryz.func27 rfl (m := 9) rfl rfl (fun h => ?_)
  rw [spec_EndPlaces] at hF
  refine r_seq (r_region (r_box h rfl rfl ?_))
  intro w1 bb1 h
  refine rp rfl rfl (rp rfl rfl (r_nil (r_seq (r_seq (r_region (r_v (v_ld tabOk (h.box 0 rfl) (j := 0) rfl rfl rfl) rfl ?_))))))
  obtain ⟨r1, hr1, hF⟩ := bindS hF
  refine r_callB r1 h call32 (spec_IsBlock_ok (h.old ha1) hr1) rfl rfl rfl rfl ?_
  intro w2 h
  refine rp rfl rfl (r_nil ?_)
  refine r_if rfl hF (fun hF => ?_) (fun hF => ?_)
  · refine r_seq (r_region (rp rfl rfl (rp rfl rfl (r_nil ?_))))
    obtain rfl := someI hF
    exact r_retV tabOk (ρ := ((List Int) × Int)) [GoT.v (List Int) [.slice none 0 0], GoT.v Int [.int .i64 1]] h ⟨rfl, rfl, trivial⟩ (PV.done h (pv_cons h po_nil (pv_one (po_flat (S := fun _ => False) rfl)) (by rfl)))
  refine r_skip (r_seq (r_region (r_v (v_ld tabOk (h.box 0 rfl) (j := 0) rfl rfl rfl) rfl ?_)))
  obtain ⟨r2, hr2, hF⟩ := bindS hF
  refine r_callL r2 h call62 (spec_l22Ends_ok (h.old ha1) hr2) rfl rfl rfl rfl ?_
  intro w3 S1 p6 k6 h
  refine rp rfl rfl (rp rfl rfl (r_nil ?_))
  obtain rfl := someI hF
  exact r_retV tabOk (ρ := ((List Int) × Int)) [GoT.v (List Int) [.slice p6 r2.length k6], GoT.v Int [.int .i64 0]] h ⟨rfl, rfl, trivial⟩ (PV.done h (pv_cons h (po_own 0 h rfl) (pv_one (po_flat (S := fun _ => False) rfl)) (by rfl)))

def impl_view_isEnd_1 (n : Nat) (a : TArc) (v0 : Tplace) : Option Bool :=
  (impl_isCheck n a.Kind).bind fun r1 =>
  bif r1 then
    some (a.To == v0.pin)
  else
    some false

theorem impl_view_isEnd_1_ok {n : Nat} {w : World} {a : TArc} {v0 : Tplace} {cs1 : List Value} (ha1 : GoT.R w (old w) a cs1) {p3 : Option Addr} (ha2 : GoT.R w (old w) (some v0) [.pointer p3]) {r : Bool} (hF : impl_view_isEnd_1 n a v0 = some r) : RetV Tryz.prog 116 [GoT.v TArc cs1, .pointer p3] w r := by
  obtain ⟨p1, k1, p2, k2, rfl, s1, s2⟩ := open_TArc ha1
  obtain ⟨b1, o_1, cs2, rfl, -, hr1, hc1⟩ := PtR.get ha2 rfl
  obtain rfl := open_Tplace hr1
  refine retV_of_run Tryz.func116 rfl (m := 14) rfl rfl (fun h => ?_)
  rw [impl_view_isEnd_1] at hF
  refine r_seq (r_region (r_box h rfl rfl ?_))
  intro w1 bb1 h
  refine rp rfl rfl (r_nil (r_seq (r_region (rp rfl rfl (r_v (v_ld tabOk (h.box 0 rfl) (j := 0) rfl rfl rfl) rfl ?_)))))
  obtain ⟨r1, hr2, hF⟩ := bindS hF
  refine r_callB r1 h call39 (impl_isCheck_ok hr2) rfl rfl rfl rfl ?_
  intro w2 h
  refine rp rfl rfl ?_
  by_cases hc2 : r1 = true
  · replace hF := bifT hc2 hF
    refine r_setT hc2 (t := 7) rfl (r_wanted rfl (rp rfl rfl (r_wanted rfl (r_v (v_ld tabOk (h.box 0 rfl) (j := 2) rfl rfl rfl) rfl (r_wanted rfl (rp rfl rfl (r_wanted rfl (r_v (v_ld tabOk (hc1.below h.below) (j := 1) rfl rfl rfl) rfl (r_wanted rfl (rp rfl rfl (rp rfl rfl ?_)))))))))))
    exact rp rfl rfl (r_nil (r_rB tabOk h hF ⟨rfl, trivial⟩))
  replace hc2 := Bool.eq_false_iff.2 hc2
  replace hF := bifF hc2 hF
  exact r_setF hc2 (t := 7) rfl (r_not rfl rfl rfl (r_not rfl rfl rfl (r_not rfl rfl rfl (r_not rfl rfl rfl (r_not rfl rfl rfl (rp rfl rfl (rp rfl rfl (r_nil (r_rB tabOk h hF ⟨rfl, trivial⟩)))))))))

def slices_IndexFunc_impl_Arc_impl_view_isEnd_1_L1 (s : (List TArc)) (f_0 : Tplace) : Nat → Int → Option (Flow Int Int)
  | 0, _ => none
  | n + 1, i1 =>
    bif decide (i1 < (s.length : Int)) then
      (idx s i1).bind fun y1 =>
      (impl_view_isEnd_1 n y1 f_0).bind fun r1 =>
      bif r1 then
        some (.ret i1)
      else
        slices_IndexFunc_impl_Arc_impl_view_isEnd_1_L1 s f_0 n (W64 (i1 + 1))
    else
      some (.nxt i1)

def slices_IndexFunc_impl_Arc_impl_view_isEnd_1 (n : Nat) (s : (List TArc)) (f_0 : Tplace) : Option Int :=
  (slices_IndexFunc_impl_Arc_impl_view_isEnd_1_L1 s f_0 n 0).bind fun o => match o with
  | .ret r => some r
  | .nxt _ =>
    some (-1)

theorem slices_IndexFunc_impl_Arc_impl_view_isEnd_1_ok {n : Nat} {w : World} {s : (List TArc)} {f_0 : Tplace} {cs1 : List Value} (ha1 : GoT.R w (old w) s cs1) {p2 : Option Addr} (ha2 : GoT.R w (old w) (some f_0) [.pointer p2]) {r : Int} (hF : slices_IndexFunc_impl_Arc_impl_view_isEnd_1 n s f_0 = some r) : RetV Tryz.prog 154 [GoT.v (List TArc) cs1, .func (.func 116) #[] #[.pointer p2]] w r := by
  obtain ⟨p1, k1, rfl, s1⟩ := ha1
  obtain ⟨b1, o_1, cs2, rfl, -, hr1, hc1⟩ := PtR.get ha2 rfl
  obtain rfl := open_Tplace hr1
  refine retV_of_run Tryz.func154 rfl (m := 19) rfl rfl (fun h => ?_)
  rw [slices_IndexFunc_impl_Arc_impl_view_isEnd_1] at hF
  refine r_seq (r_region (rp rfl rfl (r_nil (r_seq (r_seq (r_region (rp rfl rfl (rp rfl rfl (rp rfl rfl (r_nil ?_))))))))))
  obtain ⟨o1, hF, hK1⟩ := bindS hF
  refine r_block (r_sub [(0, _), (1, _), (7, _), (8, _)] ⟨rfl, rfl, rfl, rfl, trivial⟩ ?_)
  refine r_loop (fun m e w' => ∃ (i1 : Int), slices_IndexFunc_impl_Arc_impl_view_isEnd_1_L1 s f_0 m i1 = some o1 ∧ e = [(0, .slice p1 s.length k1), (1, .func (.func 116) #[] #[.pointer (some ⟨b1, o_1, none⟩)]), (7, .int .i64 (s.length : Int)), (8, .int .i64 i1)] ∧ SH w w' []) n ⟨_, hF, rfl, h⟩ ?_
  rintro m1 e1 w1 ⟨i1, hF, rfl, h⟩
  rcases m1 with _ | m1
  · rw [slices_IndexFunc_impl_Arc_impl_view_isEnd_1_L1] at hF
    cases hF
  rw [slices_IndexFunc_impl_Arc_impl_view_isEnd_1_L1] at hF
  refine r_seq (r_region (rp rfl rfl (r_nil (r_seq ?_))))
  refine r_if rfl hF (fun hF => ?_) (fun hF => ?_)
  · refine r_skip (r_seq (r_block (r_seq (r_region (rp rfl rfl (rp rfl rfl (r_nil (r_seq (r_region (rp rfl rfl (rp rfl rfl ?_)))))))))))
    refine rp rfl rfl ?_
    obtain ⟨y1, hy1, hF⟩ := bindS hF
    have he1 := idx_some hy1
    obtain ⟨b2, o_2, q1, cs3, hp1, hq1, -, hr2, hc3⟩ := s1.at hy1
    obtain ⟨p3, k2, p4, k3, rfl, s2, s3⟩ := open_TArc hr2
    refine r_v (v_ix tabOk hp1 hq1 ⟨he1.1, he1.2.1⟩ rfl rfl rfl rfl rfl rfl) rfl (r_v (v_ld tabOk (hc3.below h.below) (j := 0) rfl rfl rfl) rfl ?_)
    obtain ⟨r1, hr3, hF⟩ := bindS hF
    refine r_callB r1 h call116 (impl_view_isEnd_1_ok (mkR_TArc y1 (h.oldS s2) (h.oldS s3)) (h.old ha2) hr3) rfl rfl rfl rfl ?_
    intro w2 h
    refine r_nil ?_
    refine r_if rfl hF (fun hF => ?_) (fun hF => ?_)
    · refine r_seq (r_region (rp rfl rfl (rp rfl rfl (r_nil ?_))))
      obtain rfl := someI hF; replace hF := hK1
      exact r_rI tabOk h hF ⟨rfl, trivial⟩
    exact r_skip (r_blk (r_region (rp rfl rfl (rp rfl rfl (r_nil (r_back m1 [(0, _), (1, _), (7, _), (8, _)] (Nat.lt_succ_self m1) ⟨rfl, rfl, rfl, rfl, trivial⟩ ⟨_, hF, rfl, h⟩))))))
  refine r_exit rfl ?_
  obtain rfl := someI hF; replace hF := hK1
  exact r_seq (r_region (rp rfl rfl (r_nil (r_rI tabOk h hF ⟨rfl, trivial⟩))))

def slices_ContainsFunc_impl_Arc_impl_view_isEnd_1 (n : Nat) (s : (List TArc)) (f_0 : Tplace) : Option Bool :=
  (slices_IndexFunc_impl_Arc_impl_view_isEnd_1 n s f_0).bind fun r1 =>
  some (decide (r1 ≥ 0))

theorem slices_ContainsFunc_impl_Arc_impl_view_isEnd_1_ok {n : Nat} {w : World} {s : (List TArc)} {f_0 : Tplace} {cs1 : List Value} (ha1 : GoT.R w (old w) s cs1) {p2 : Option Addr} (ha2 : GoT.R w (old w) (some f_0) [.pointer p2]) {r : Bool} (hF : slices_ContainsFunc_impl_Arc_impl_view_isEnd_1 n s f_0 = some r) : RetV Tryz.prog 114 [GoT.v (List TArc) cs1, .func (.func 116) #[] #[.pointer p2]] w r := by
  obtain ⟨p1, k1, rfl, s1⟩ := ha1
  obtain ⟨b1, o_1, cs2, rfl, -, hr1, hc1⟩ := PtR.get ha2 rfl
  obtain rfl := open_Tplace hr1
  refine retV_of_run Tryz.func114 rfl (m := 9) rfl rfl (fun h => ?_)
  rw [slices_ContainsFunc_impl_Arc_impl_view_isEnd_1] at hF
  refine r_seq (r_region (rp rfl rfl (r_nil (r_seq (r_region (rp rfl rfl (rp rfl rfl ?_)))))))
  obtain ⟨r1, hr2, hF⟩ := bindS hF
  refine r_callI r1 h call154 (slices_IndexFunc_impl_Arc_impl_view_isEnd_1_ok ⟨_, _, rfl, (h.oldS s1)⟩ (h.old ha2) hr2) rfl rfl rfl rfl ?_
  intro w1 h
  exact rp rfl rfl (rp rfl rfl (r_nil (r_rB tabOk h hF ⟨rfl, trivial⟩)))

def impl_view_isEnd (n : Nat) (v : (Option Tview)) (p : Tplace) : Option Bool :=
  bif decide (p.instance_ < 0) then
    some (!p.drives)
  else
    (v).bind fun y1 =>
    (impl_Block_cellOf n (⟨(⟨y1.Block.Library.Cells⟩ : TLibrary), (⟨y1.Block.Design.Instances, y1.Block.Design.Nets, y1.Block.Design.Ports⟩ : TDesign), y1.Block.Wires⟩ : TBlock) p.instance_).bind fun r1 =>
    (slices_ContainsFunc_impl_Arc_impl_view_isEnd_1 n r1.Arcs p).bind fun r2 =>
    some r2

theorem impl_view_isEnd_ok {n : Nat} {w : World} {v : (Option Tview)} {p : Tplace} {cs1 : List Value} (ha1 : GoT.R w (old w) v cs1) {cs2 : List Value} (ha2 : GoT.R w (old w) p cs2) {r : Bool} (hF : impl_view_isEnd n v p = some r) : RetV Tryz.prog 63 [GoT.v (Option Tview) cs1, GoT.v Tplace cs2] w r := by
  obtain ⟨p1, rfl, s1⟩ := open_ptr ha1
  obtain rfl := open_Tplace ha2
  refine retV_of_run Tryz.func63 rfl (m := 21) rfl rfl (fun h => ?_)
  rw [impl_view_isEnd] at hF
  refine r_seq (r_region (r_box h rfl rfl ?_))
  intro w1 bb1 h
  refine rp rfl rfl (r_nil (r_seq (r_seq (r_region (rp rfl rfl (r_v (v_ld tabOk (h.box 0 rfl) (j := 0) rfl rfl rfl) rfl (rp rfl rfl (r_nil ?_))))))))
  refine r_if rfl hF (fun hF => ?_) (fun hF => ?_)
  · exact r_seq (r_region (rp rfl rfl (r_v (v_ld tabOk (h.box 0 rfl) (j := 3) rfl rfl rfl) rfl (rp rfl rfl (rp rfl rfl (r_nil (r_rB tabOk h hF ⟨rfl, trivial⟩)))))))
  refine r_skip (r_seq ?_)
  refine r_any [] (fun w' => SH w w' [Ch.box bb1 [.int .i64 p.instance_, .int .i64 p.pin, .int .i64 p.net, .bool p.drives] 126]) rfl 11 rfl #[ff, ff, ff, ff, ff, ff, ff, ff, ff, ff, ff] (by kernel_rfl) (fun w2 hb => ?_)
  replace h := h.ext hb
  clear hb
  refine a_take 0 rfl #[tt, ff, ff, ff, ff, ff, ff, ff, ff, ff, ff] (by kernel_rfl) (by kernel_rfl) (fun w' hw => v_p tabOk rfl w') (h.pick [0] rfl) rfl ?_
  obtain ⟨y1, hy1, hF⟩ := bindS hF
  obtain ⟨b1, o_1, cs3, rfl, -, hr1, hc2⟩ := PtR.get s1 hy1
  obtain ⟨p2, k1, p3, k2, p4, k3, p5, k4, p6, k5, p7, k6, p8, k7, p9, k8, p10, k9, p11, k10, rfl, s2, s3, s4, s5, s6, s7, s8, s9, s10, s11⟩ := open_Tview hr1
  refine a_take 1 rfl #[tt, tt, ff, ff, ff, ff, ff, ff, ff, ff, ff] (by kernel_rfl) (by kernel_rfl) (fun w' hw => v_p tabOk rfl w') (h.pick [0] rfl) rfl ?_
  refine a_take 2 rfl #[tt, tt, tt, ff, ff, ff, ff, ff, ff, ff, ff] (by kernel_rfl) (by kernel_rfl) (fun w' hw => v_p tabOk rfl w') (h.pick [0] rfl) rfl ?_
  refine a_take 3 rfl #[tt, tt, tt, tt, ff, ff, ff, ff, ff, ff, ff] (by kernel_rfl) (by kernel_rfl) (fun w' hw => v_ld tabOk (hc2.below hw.below) (j := 0) rfl rfl rfl) (h.pick [0] rfl) rfl ?_
  refine a_take 4 rfl #[tt, tt, tt, tt, tt, ff, ff, ff, ff, ff, ff] (by kernel_rfl) (by kernel_rfl) (fun w' hw => v_p tabOk rfl w') (h.pick [0] rfl) rfl ?_
  refine a_take 5 rfl #[tt, tt, tt, tt, tt, tt, ff, ff, ff, ff, ff] (by kernel_rfl) (by kernel_rfl) (fun w' hw => v_ld tabOk (hw.box 0 rfl) (j := 0) rfl rfl rfl) (h.pick [0] rfl) rfl ?_
  refine a_take 8 rfl #[tt, tt, tt, tt, tt, tt, ff, ff, tt, ff, ff] (by kernel_rfl) (by kernel_rfl) (fun w' hw => v_p tabOk rfl w') (h.pick [0] rfl) rfl ?_
  refine a_only 6 rfl #[tt, tt, tt, tt, tt, tt, tt, ff, tt, ff, ff] (by kernel_rfl) (by kernel_rfl) ?_
  have hg1 : Rg (old w) w (old w) w := .start (fun _ h => h)
  obtain ⟨r1, hr2, hF⟩ := bindS hF
  refine r_callR r1 hg1 h call115 (impl_Block_cellOf_ok (hg1.regOld h) (mkR_TBlock (⟨(⟨y1.Block.Library.Cells⟩ : TLibrary), (⟨y1.Block.Design.Instances, y1.Block.Design.Nets, y1.Block.Design.Ports⟩ : TDesign), y1.Block.Wires⟩ : TBlock) (hg1.inS h s2) (hg1.inS h s3) (hg1.inS h s4) (hg1.inS h s5) (hg1.inS h s6)) hr2) rfl rfl rfl rfl ?_
  intro w3 us1 B1 hg2 hu1 hz1 hv1
  have hc3 := Up.box 0 h hu1 rfl
  have s12 := Up.R hg1 h hu1 ha2
  have ha3 := Up.boxP (x := p) hg1 0 h hu1 rfl (hg1.inR h ha2)
  have hc4 := Up.C h hu1 hc2
  have s13 := Up.S hg1 h hu1 s2
  have s14 := Up.S hg1 h hu1 s3
  have s15 := Up.S hg1 h hu1 s4
  have s16 := Up.S hg1 h hu1 s5
  have s17 := Up.S hg1 h hu1 s6
  have s18 := Up.S hg1 h hu1 s7
  have s19 := Up.S hg1 h hu1 s8
  have s20 := Up.S hg1 h hu1 s9
  have s21 := Up.S hg1 h hu1 s10
  have s22 := Up.S hg1 h hu1 s11
  have hb1 := h.below.trans (hu1.below.mono h.below.size)
  have hC1 := ((h.pick [0] rfl)).ext hu1.below
  replace h := hz1
  obtain ⟨cs4, rfl, hr3⟩ := rs_one hv1
  have ha4 := hr3
  obtain ⟨p12, k11, p13, k12, p14, k13, rfl, s23, s24, s25⟩ := open_TCell hr3
  refine a_goal (fun _ => (hC1.ext h.below)) ?_
  refine a_take 7 rfl #[tt, tt, tt, tt, tt, tt, tt, tt, tt, ff, ff] (by kernel_rfl) (by kernel_rfl) (fun w' hw => v_p tabOk rfl w') (hC1.ext h.below) rfl ?_
  refine a_only 9 rfl #[tt, tt, tt, tt, tt, tt, tt, tt, tt, tt, ff] (by kernel_rfl) (by kernel_rfl) ?_
  obtain ⟨r2, hr4, hF⟩ := bindS hF
  refine r_callB r2 h call114 (slices_ContainsFunc_impl_Arc_impl_view_isEnd_1_ok ⟨_, _, rfl, (h.oldS (s24.mono hg2.old))⟩ (h.old (GoT.mono ha3 hg2.old)) hr4) rfl rfl rfl rfl ?_
  intro w4 h
  refine a_goal (fun _ => (hC1.ext h.below)) ?_
  refine a_take 10 rfl #[tt, tt, tt, tt, tt, tt, tt, tt, tt, tt, tt] (by kernel_rfl) (by kernel_rfl) (fun w' hw => v_p tabOk rfl w') (hC1.ext h.below) rfl ?_
  refine a_done (by kernel_rfl) ?_
  replace h := h.unbase hg2.below (show NoD [] from trivial)
  exact r_rB tabOk h hF ⟨rfl, trivial⟩

def impl_placesOf_impl_view_isEnd_L1 (r2 : (Option Tview)) (y1 : Tview) : Nat → (List Int) → Int → Option ((List Int) × Int)
  | 0, _, _ => none
  | n + 1, x1, i1 =>
    bif decide (i1 < (y1.places.length : Int)) then
      (idx y1.places i1).bind fun y2 =>
      (impl_view_isEnd n r2 y2).bind fun r3 =>
      bif r3 then
        (appS x1 ([i1] : List Int)).bind fun x2 =>
        impl_placesOf_impl_view_isEnd_L1 r2 y1 n x2 (W64 (i1 + 1))
      else
        impl_placesOf_impl_view_isEnd_L1 r2 y1 n x1 (W64 (i1 + 1))
    else
      some (x1, i1)

def impl_placesOf_impl_view_isEnd (n : Nat) (b : TBlock) : Option ((List Int) × Int) :=
  (impl_IsBlock n b).bind fun r1 =>
  bif (!r1) then
    some ([], 1)
  else
    (impl_newView n b).bind fun r2 =>
    (r2).bind fun y1 =>
    (impl_placesOf_impl_view_isEnd_L1 r2 y1 n ([] : List Int) 0).bind fun o => match o with
    | (x1, _) =>
      some (x1, 0)

theorem impl_placesOf_impl_view_isEnd_ok {n : Nat} {w : World} {b : TBlock} {cs1 : List Value} (ha1 : GoT.R w (old w) b cs1) {r : ((List Int) × Int)} (hF : impl_placesOf_impl_view_isEnd n b = some r) : RetV Tryz.prog 57 [GoT.v TBlock cs1, .func (.func 63) #[] #[]] w r := by
  obtain ⟨p1, k1, p2, k2, p3, k3, p4, k4, p5, k5, rfl, s1, s2, s3, s4, s5⟩ := open_TBlock ha1
  refine retV_of_run Tryz.func57 rfl (m := 35) rfl rfl (fun h => ?_)
  rw [impl_placesOf_impl_view_isEnd] at hF
  refine r_seq (r_region (r_box h rfl rfl ?_))
  intro w1 bb1 h
  refine rp rfl rfl (rp rfl rfl (r_nil (r_seq (r_seq (r_region (r_v (v_ld tabOk (h.box 0 rfl) (j := 0) rfl rfl rfl) rfl ?_))))))
  obtain ⟨r1, hr1, hF⟩ := bindS hF
  refine r_callB r1 h call37 (impl_IsBlock_ok (h.old ha1) hr1) rfl rfl rfl rfl ?_
  intro w2 h
  refine rp rfl rfl (r_nil ?_)
  refine r_if rfl hF (fun hF => ?_) (fun hF => ?_)
  · refine r_seq (r_region (rp rfl rfl (rp rfl rfl (r_nil ?_))))
    obtain rfl := someI hF
    exact r_retV tabOk (ρ := ((List Int) × Int)) [GoT.v (List Int) [.slice none 0 0], GoT.v Int [.int .i64 1]] h ⟨rfl, rfl, trivial⟩ (PV.done h (pv_cons h po_nil (pv_one (po_flat (S := fun _ => False) rfl)) (by rfl)))
  refine r_skip (r_seq (r_region (r_v (v_ld tabOk (h.box 0 rfl) (j := 0) rfl rfl rfl) rfl ?_)))
  have hg1 : Rg (old w) w (old w) w := .start (fun _ h => h)
  obtain ⟨r2, hr2, hF⟩ := bindS hF
  refine r_callR r2 hg1 h call54 (impl_newView_ok (hg1.regOld h) (hg1.inR h ha1) hr2) rfl rfl rfl rfl ?_
  intro w3 us1 B1 hg2 hu1 hz1 hv1
  have hb1 := h.below.trans (hu1.below.mono h.below.size)
  replace h := hz1
  obtain ⟨cs2, rfl, hr3⟩ := rs_one hv1
  obtain ⟨p6, rfl, s6⟩ := open_ptr hr3
  refine rp rfl rfl (r_nil (r_seq (r_region (rp rfl rfl (r_nil (r_seq (r_seq (r_region (rp rfl rfl ?_)))))))))
  obtain ⟨y1, hy1, hF⟩ := bindS hF
  obtain ⟨b1, o_1, cs3, rfl, -, hr4, hc2⟩ := PtR.get s6 hy1
  obtain ⟨p7, k6, p8, k7, p9, k8, p10, k9, p11, k10, p12, k11, p13, k12, p14, k13, p15, k14, p16, k15, rfl, s7, s8, s9, s10, s11, s12, s13, s14, s15, s16⟩ := open_Tview hr4
  refine rp rfl rfl (rp rfl rfl (r_v (v_ld tabOk (hc2.below h.below) (j := 5) rfl rfl rfl) rfl (rp rfl rfl (rp rfl rfl (r_nil ?_)))))
  replace h := h.nil (α := Int)
  obtain ⟨o1, hF, hK1⟩ := bindS hF
  refine r_block (r_sub [(1, _), (6, _), (7, _), (18, _), (19, _), (20, _)] ⟨rfl, rfl, rfl, rfl, rfl, rfl, trivial⟩ ?_)
  refine r_loop (fun m e w' => ∃ (S1 : Nat → Prop) (p17 : Option Addr) (ln1 : Nat) (k16 : Nat) (x1 : (List Int)) (i1 : Int), impl_placesOf_impl_view_isEnd_L1 r2 y1 m x1 i1 = some o1 ∧ e = [(1, .func (.func 63) #[] #[]), (6, .pointer (some ⟨b1, o_1, none⟩)), (7, .slice p17 ln1 k16), (18, .slice p12 y1.places.length k11), (19, .int .i64 (y1.places.length : Int)), (20, .int .i64 i1)] ∧ SH w3 w' [Ch.own S1 (x1 : List Int) [.slice p17 ln1 k16]]) n ⟨_, _, _, _, _, _, hF, rfl, h⟩ ?_
  rintro m1 e1 w4 ⟨S1, p17, ln1, k16, x1, i1, hF, rfl, h⟩
  obtain rfl := (h.sl 0 rfl).2
  rcases m1 with _ | m1
  · rw [impl_placesOf_impl_view_isEnd_L1] at hF
    cases hF
  rw [impl_placesOf_impl_view_isEnd_L1] at hF
  refine r_seq (r_region (rp rfl rfl (r_nil (r_seq ?_))))
  refine r_if rfl hF (fun hF => ?_) (fun hF => ?_)
  · refine r_skip (r_seq (r_block (r_seq (r_region (rp rfl rfl ?_)))))
    obtain ⟨y2, hy2, hF⟩ := bindS hF
    have he1 := idx_some hy2
    obtain ⟨b2, o_2, q1, cs4, hp1, hq1, -, hr5, hc4⟩ := s12.at hy2
    obtain rfl := open_Tplace hr5
    refine r_v (v_ix tabOk hp1 hq1 ⟨he1.1, he1.2.1⟩ rfl rfl rfl rfl rfl rfl) rfl (r_v (v_ld tabOk (hc4.below h.below) (j := 0) rfl rfl rfl) rfl (r_alloc tabOk h rfl rfl rfl ?_))
    intro w5 bb2 h
    refine rp rfl rfl (r_stbox tabOk 0 h rfl rfl rfl rfl rfl rfl rfl ?_)
    intro w6 h
    replace h : SH _ _ [Ch.box bb2 [.int .i64 y2.instance_, .int .i64 y2.pin, .int .i64 y2.net, .bool y2.drives] 126, Ch.own S1 (x1 : List Int) [.slice p17 x1.length k16]] := h
    refine r_nil (r_seq (r_region (rp rfl rfl (rp rfl rfl (r_v (v_ld tabOk (h.box 0 rfl) (j := 0) rfl rfl rfl) rfl ?_)))))
    obtain ⟨r3, hr6, hF⟩ := bindS hF
    refine r_callB r3 h call63 (impl_view_isEnd_ok (h.old (GoT.mono s6 hg2.old)) (mkR_Tplace y2) hr6) rfl rfl rfl rfl ?_
    intro w7 h
    refine r_nil ?_
    refine r_if rfl hF (fun hF => ?_) (fun hF => ?_)
    · refine r_region (rp rfl rfl (rp rfl rfl (r_bslice tabOk [.tmp 30] _ ([i1] : List Int) h rfl rfl rfl rfl rfl rfl rfl rfl rfl ⟨rfl, trivial⟩ rfl ?_)))
      intro w8 p18 S2 h
      obtain ⟨x2, hx1, hF⟩ := bindS hF
      obtain ⟨g1, hx1⟩ := appS_some hx1
      refine r_appE tabOk 2 h rfl (h.sl 0 rfl).1 (h.sl 0 rfl).2 rfl rfl rfl rfl rfl rfl rfl rfl rfl g1 hx1 rfl ?_
      intro w9 p19 k17 S3 h
      refine rp rfl rfl (r_nil (r_blk (r_region (rp rfl rfl (rp rfl rfl (r_nil ?_))))))
      replace h := h.pick [2] rfl
      exact r_back m1 [(1, _), (6, _), (7, _), (18, _), (19, _), (20, _)] (Nat.lt_succ_self m1) ⟨rfl, rfl, rfl, rfl, rfl, rfl, trivial⟩ ⟨_, _, _, _, _, _, hF, rfl, h⟩
    refine r_skip (r_blk (r_region (rp rfl rfl (rp rfl rfl (r_nil ?_)))))
    replace h := h.pick [1] rfl
    exact r_back m1 [(1, _), (6, _), (7, _), (18, _), (19, _), (20, _)] (Nat.lt_succ_self m1) ⟨rfl, rfl, rfl, rfl, rfl, rfl, trivial⟩ ⟨_, _, _, _, _, _, hF, rfl, h⟩
  refine r_exit rfl ?_
  obtain rfl := someI hF; replace hF := hK1
  refine r_seq (r_region (rp rfl rfl (rp rfl rfl (rp rfl rfl (r_nil ?_)))))
  replace h := h.unbase hg2.below ⟨fun _ h => h, trivial⟩
  obtain rfl := someI hF
  exact r_retV tabOk (ρ := ((List Int) × Int)) [GoT.v (List Int) [.slice p17 x1.length k16], GoT.v Int [.int .i64 0]] h ⟨rfl, rfl, trivial⟩ (PV.done h (pv_cons h (po_own 0 h rfl) (pv_one (po_flat (S := fun _ => False) rfl)) (by rfl)))

def impl_EndPlaces (n : Nat) (b : TBlock) : Option ((List Int) × Int) :=
  (impl_placesOf_impl_view_isEnd n b).bind fun o => match o with
    | (r2, r3) =>
      some (r2, r3)

theorem impl_EndPlaces_ok {n : Nat} {w : World} {b : TBlock} {cs1 : List Value} (ha1 : GoT.R w (old w) b cs1) {r : ((List Int) × Int)} (hF : impl_EndPlaces n b = some r) : RetV Tryz.prog 28 [GoT.v TBlock cs1] w r := by
  obtain ⟨p1, k1, p2, k2, p3, k3, p4, k4, p5, k5, rfl, s1, s2, s3, s4, s5⟩ := open_TBlock ha1
  refine retV_of_run Tryz.func28 rfl (m := 8) rfl rfl (fun h => ?_)
  rw [impl_EndPlaces] at hF
  refine r_seq (r_region (r_box h rfl rfl ?_))
  intro w1 bb1 h
  refine rp rfl rfl (rp rfl rfl (r_nil (r_seq (r_region (r_v (v_ld tabOk (h.box 0 rfl) (j := 0) rfl rfl rfl) rfl ?_)))))
  obtain ⟨r1, hr1, hF⟩ := bindS hF
  obtain ⟨r2, r3⟩ := r1
  refine r_call (r2, r3) h call57 (impl_placesOf_impl_view_isEnd_ok (h.old ha1) hr1) rfl rfl rfl rfl ?_
  intro w2 S1 us1 hv1 hr2
  obtain ⟨S2, S3, p6, k6, us2, rfl, hv2, hr3⟩ := hv1.consL hr2
  obtain ⟨rfl, h⟩ := hv2.lastI hr3
  refine rp rfl rfl (rp rfl rfl (rp rfl rfl (rp rfl rfl (r_nil ?_))))
  obtain rfl := someI hF
  exact r_retV tabOk (ρ := ((List Int) × Int)) [GoT.v (List Int) [.slice p6 r2.length k6], GoT.v Int [.int .i64 r3]] h ⟨rfl, rfl, trivial⟩ (PV.done h (pv_cons h (po_own 0 h rfl) (pv_one (po_flat (S := fun _ => False) rfl)) (by rfl)))

def laws_FnExactEndPlaces (n : Nat) (a_0 : TBlock) : Option Bool :=
  (laws_szBlock n a_0 1048576).bind fun r1 =>
  bif decide (r1 < 0) then
    some true
  else
    (laws_toBlock n a_0).bind fun r2 =>
    (spec_EndPlaces n r2).bind fun o => match o with
      | (r4, r5) =>
        (laws_toBlock n a_0).bind fun r6 =>
        (impl_EndPlaces n r6).bind fun o => match o with
          | (r8, r9) =>
            (
              (laws_eqInt64S n r8 r4).bind fun r22 =>
              bif (!r22) then
                some true
              else
                some (r9 != r5)).bind fun b1 =>
            bif b1 then
              some false
            else
              (laws_toBlock n a_0).bind fun r10 =>
              (laws_eqBlock n r6 r10).bind fun r11 =>
              bif (!r11) then
                some false
              else
                (laws_markBlock n (⟨(⟨r6.Library.Cells⟩ : TLibrary), (⟨r6.Design.Instances, r6.Design.Nets, r6.Design.Ports⟩ : TDesign), r6.Wires⟩ : TBlock) 1).bind fun o => match o with
                  | (r12, _, _, _, _, _) =>
                    (
                      bif decide (r12 < 0) then
                        some true
                      else
                        (laws_eqInt64S n r8 r4).bind fun r21 =>
                        bif (!r21) then
                          some true
                        else
                          some (r9 != r5)).bind fun b2 =>
                    bif b2 then
                      some false
                    else
                      (laws_markInt64S n r8 1).bind fun o => match o with
                        | (r13, x6) =>
                          (laws_heldInt64S n x6 1).bind fun r14 =>
                          bif decide (r14 < 0) then
                            some false
                          else
                            bif (r14 != r13) then
                              some false
                            else
                              (laws_toBlock n (⟨(⟨a_0.Library.Cells⟩ : TLibrary), (⟨a_0.Design.Instances, a_0.Design.Nets, a_0.Design.Ports⟩ : TDesign), a_0.Wires⟩ : TBlock)).bind fun r15 =>
                              (impl_EndPlaces n r15).bind fun o => match o with
                                | (r17, r18) =>
                                  (
                                    (laws_eqInt64S n r17 r4).bind fun r20 =>
                                    bif (!r20) then
                                      some true
                                    else
                                      some (r18 != r5)).bind fun b3 =>
                                  bif b3 then
                                    some false
                                  else
                                    (laws_heldInt64S n x6 1).bind fun r19 =>
                                    bif decide (r19 < 0) then
                                      some false
                                    else
                                      bif (r19 != r13) then
                                        some false
                                      else
                                        some true

theorem laws_FnExactEndPlaces_ok {n : Nat} {w : World} {a_0 : TBlock} {cs1 : List Value} (ha1 : GoT.R w (old w) a_0 cs1) {r : Bool} (hF : laws_FnExactEndPlaces n a_0 = some r) : RetV Tryz.prog 7 [GoT.v TBlock cs1] w r := by
  obtain ⟨p1, k1, p2, k2, p3, k3, p4, k4, p5, k5, rfl, s1, s2, s3, s4, s5⟩ := open_TBlock ha1
  refine retV_of_run Tryz.func7 rfl (m := 96) rfl rfl (fun h => ?_)
  rw [laws_FnExactEndPlaces] at hF
  refine r_seq (r_region (r_box h rfl rfl ?_))
  intro w1 bb1 h
  refine rp rfl rfl (r_nil (r_seq (r_region (rp rfl rfl (r_nil (r_seq (r_region (r_v (v_ld tabOk (h.box 0 rfl) (j := 0) rfl rfl rfl) rfl (rp rfl rfl ?_)))))))))
  obtain ⟨r1, hr1, hF⟩ := bindS hF
  refine r_callI r1 h call8 (laws_szBlock_ok (h.old ha1) hr1) rfl rfl rfl rfl ?_
  intro w2 h
  refine rp rfl rfl (r_nil (r_seq (r_seq (r_region (rp rfl rfl (rp rfl rfl (r_nil ?_)))))))
  refine r_if rfl hF (fun hF => ?_) (fun hF => ?_)
  · exact r_seq (r_region (rp rfl rfl (r_nil (r_rB tabOk h hF ⟨rfl, trivial⟩))))
  refine r_skip (r_seq (r_region (r_v (v_ld tabOk (h.box 0 rfl) (j := 0) rfl rfl rfl) rfl ?_)))
  obtain ⟨r2, hr2, hF⟩ := bindS hF
  refine r_callO r2 h call10 (laws_toBlock_ok (h.old ha1) hr2) rfl rfl rfl rfl ?_
  intro w3 S1 cs2 h
  obtain ⟨p6, k6, p7, k7, p8, k8, p9, k9, p10, k10, rfl, -, -, -, -, -⟩ := open_TBlock (h.own 0 rfl)
  obtain ⟨r3, hr3, hF⟩ := bindS hF
  obtain ⟨r4, r5⟩ := r3
  refine r_call (r4, r5) h call27 (spec_EndPlaces_ok (h.own 0 rfl) hr3) rfl rfl rfl rfl ?_
  intro w4 S2 us1 hv1 hr4
  obtain ⟨S3, S4, p11, k11, us2, rfl, hv2, hr5⟩ := hv1.consL hr4
  obtain ⟨rfl, h⟩ := hv2.lastI hr5
  refine rp rfl rfl (rp rfl rfl (rp rfl rfl (rp rfl rfl (rp rfl rfl (r_nil (r_seq (r_region (r_v (v_ld tabOk (h.box 2 rfl) (j := 0) rfl rfl rfl) rfl ?_))))))))
  obtain ⟨r6, hr7, hF⟩ := bindS hF
  refine r_callO r6 h call10 (laws_toBlock_ok (h.old ha1) hr7) rfl rfl rfl rfl ?_
  intro w5 S6 cs3 h
  obtain ⟨p12, k12, p13, k13, p14, k14, p15, k15, p16, k16, rfl, -, -, -, -, -⟩ := open_TBlock (h.own 0 rfl)
  refine r_alloc tabOk h rfl rfl rfl ?_
  intro w6 bb2 h
  refine r_stbox tabOk 0 h rfl rfl rfl rfl rfl rfl rfl ?_
  intro w7 h
  refine r_nil (r_seq (r_region (r_v (v_ld tabOk (h.box 0 rfl) (j := 0) rfl rfl rfl) rfl ?_)))
  obtain ⟨r7, hr8, hF⟩ := bindS hF
  obtain ⟨r8, r9⟩ := r7
  refine r_call (r8, r9) h call28 (impl_EndPlaces_ok (h.own 1 rfl) hr8) rfl rfl rfl rfl ?_
  intro w8 S7 us3 hv4 hr9
  obtain ⟨S8, S9, p17, k17, us4, rfl, hv5, hr10⟩ := hv4.consL hr9
  obtain ⟨rfl, h⟩ := hv5.lastI hr10
  refine rp rfl rfl (rp rfl rfl (rp rfl rfl (rp rfl rfl (rp rfl rfl (r_nil (r_seq (r_seq ?_)))))))
  obtain ⟨KF3, hKF3, o5, hF, hK3⟩ := bindE hF
  refine r_cut (fun e w' => ∃ (b1 : Bool), KF3 b1 = some r ∧ e = [(1, .pointer (some ⟨bb1, 0, none⟩)), (4, .slice p11 r4.length k11), (5, .int .i64 r5), (6, .pointer (some ⟨bb2, 0, none⟩)), (7, .slice p17 r8.length k17), (8, .int .i64 r9), (40, .bool b1)] ∧ SH w w' [Ch.own S8 (r8 : List Int) [.slice p17 r8.length k17], Ch.box bb2 [.slice p12 r6.Library.Cells.length k12, .slice p13 r6.Design.Instances.length k13, .slice p14 r6.Design.Nets.length k14, .slice p15 r6.Design.Ports.length k15, .slice p16 r6.Wires.length k16] 44, Ch.own S6 (r6 : TBlock) [.slice p12 r6.Library.Cells.length k12, .slice p13 r6.Design.Instances.length k13, .slice p14 r6.Design.Nets.length k14, .slice p15 r6.Design.Ports.length k15, .slice p16 r6.Wires.length k16], Ch.own S3 (r4 : List Int) [.slice p11 r4.length k11], Ch.box bb1 [.slice p1 a_0.Library.Cells.length k1, .slice p2 a_0.Design.Instances.length k2, .slice p3 a_0.Design.Nets.length k3, .slice p4 a_0.Design.Ports.length k4, .slice p5 a_0.Wires.length k5] 32]) ?_ ?_
  · refine r_region (rp rfl rfl (rp rfl rfl ?_))
    obtain ⟨r22, hr25, hF⟩ := bindS hF
    refine r_callB r22 h call21 (laws_eqInt64S_ok (h.own 0 rfl) (h.own 3 rfl) hr25) rfl rfl rfl rfl ?_
    intro w22 h
    refine rp rfl rfl (rp rfl rfl ?_)
    by_cases hc13 : (!r22) = true
    · replace hF := bifT hc13 hF
      refine r_setT hc13 (t := 36) rfl (r_not rfl rfl rfl (r_not rfl rfl rfl (r_not rfl rfl rfl (rp rfl rfl (r_nil ?_)))))
      replace h := h.pick [0, 1, 2, 3, 5] rfl
      obtain rfl := someI hF
      exact r_cutgoal [(1, _), (4, _), (5, _), (6, _), (7, _), (8, _), (40, _)] ⟨rfl, rfl, rfl, rfl, rfl, rfl, rfl, trivial⟩ ⟨_, hK3, rfl, h⟩
    replace hc13 := Bool.eq_false_iff.2 hc13
    replace hF := bifF hc13 hF
    refine r_setF hc13 (t := 36) rfl (r_wanted rfl (rp rfl rfl (r_wanted rfl (rp rfl rfl (r_wanted rfl (rp rfl rfl (rp rfl rfl (r_nil ?_))))))))
    replace h := h.pick [0, 1, 2, 3, 5] rfl
    obtain rfl := someI hF
    exact r_cutgoal [(1, _), (4, _), (5, _), (6, _), (7, _), (8, _), (40, _)] ⟨rfl, rfl, rfl, rfl, rfl, rfl, rfl, trivial⟩ ⟨_, hK3, rfl, h⟩
  rintro e3 w23 ⟨b1, hF, rfl, h⟩
  subst hKF3
  refine r_if rfl hF (fun hF => ?_) (fun hF => ?_)
  · exact r_seq (r_region (rp rfl rfl (r_nil (r_rB tabOk h hF ⟨rfl, trivial⟩))))
  refine r_skip (r_seq (r_seq ?_))
  refine r_any [] (fun w' => SH w w' [Ch.box bb2 [.slice p12 r6.Library.Cells.length k12, .slice p13 r6.Design.Instances.length k13, .slice p14 r6.Design.Nets.length k14, .slice p15 r6.Design.Ports.length k15, .slice p16 r6.Wires.length k16] 44, Ch.box bb1 [.slice p1 a_0.Library.Cells.length k1, .slice p2 a_0.Design.Instances.length k2, .slice p3 a_0.Design.Nets.length k3, .slice p4 a_0.Design.Ports.length k4, .slice p5 a_0.Wires.length k5] 32]) rfl 5 rfl #[ff, ff, ff, ff, ff] (by kernel_rfl) (fun w9 hb => ?_)
  replace h := h.ext hb
  clear hb
  refine a_take 0 rfl #[tt, ff, ff, ff, ff] (by kernel_rfl) (by kernel_rfl) (fun w' hw => v_ld tabOk (hw.box 0 rfl) (j := 0) rfl rfl rfl) (h.pick [1, 4] rfl) rfl ?_
  refine a_take 1 rfl #[tt, tt, ff, ff, ff] (by kernel_rfl) (by kernel_rfl) (fun w' hw => v_ld tabOk (hw.box 1 rfl) (j := 0) rfl rfl rfl) (h.pick [1, 4] rfl) rfl ?_
  refine a_only 2 rfl #[tt, tt, tt, ff, ff] (by kernel_rfl) (by kernel_rfl) ?_
  obtain ⟨r10, hr12, hF⟩ := bindS hF
  refine r_callO r10 h call10 (laws_toBlock_ok (h.old ha1) hr12) rfl rfl rfl rfl ?_
  intro w10 S11 cs4 h
  obtain ⟨p18, k18, p19, k19, p20, k20, p21, k21, p22, k22, rfl, -, -, -, -, -⟩ := open_TBlock (h.own 0 rfl)
  refine a_goal (fun _ => (h.pick [2, 5] rfl)) ?_
  refine a_only 3 rfl #[tt, tt, tt, tt, ff] (by kernel_rfl) (by kernel_rfl) ?_
  obtain ⟨r11, hr13, hF⟩ := bindS hF
  refine r_callB r11 h call12 (laws_eqBlock_ok (h.own 3 rfl) (h.own 0 rfl) hr13) rfl rfl rfl rfl ?_
  intro w11 h
  refine a_goal (fun _ => (h.pick [2, 5] rfl)) ?_
  refine a_take 4 rfl #[tt, tt, tt, tt, tt] (by kernel_rfl) (by kernel_rfl) (fun w' hw => v_p tabOk rfl w') (h.pick [2, 5] rfl) rfl ?_
  refine a_done (by kernel_rfl) ?_
  refine r_if rfl hF (fun hF => ?_) (fun hF => ?_)
  · exact r_seq (r_region (rp rfl rfl (r_nil (r_rB tabOk h hF ⟨rfl, trivial⟩))))
  refine r_skip (r_seq (r_region (rp rfl rfl (r_nil (r_seq (r_region (r_v (v_ld tabOk (h.box 2 rfl) (j := 0) rfl rfl rfl) rfl (rp rfl rfl ?_))))))))
  replace h := h.pick [3, 0, 1, 2, 4, 5] rfl
  obtain ⟨S12, S13, S14, h⟩ := splitF_TBlock h
  replace h := h.pick [2, 0, 1, 3, 4, 5, 6, 7] rfl
  obtain ⟨S15, h⟩ := split_TLibrary h
  replace h := h.pick [2, 0, 1, 3, 4, 5, 6, 7] rfl
  obtain ⟨S16, S17, S18, h⟩ := split_TDesign h
  replace h := h.pick [4, 0, 1, 2, 3, 5, 6, 7, 8, 9] rfl
  obtain ⟨o1, hr14, hF⟩ := bindS hF
  obtain ⟨r12, x1, x2, x3, x4, x5⟩ := o1
  refine r_callN r12 call24 (laws_markBlock_okm h hr14) rfl rfl rfl rfl ?_
  rintro w12 ⟨S19, S20, S21, S22, S23, h⟩
  refine rp rfl rfl (r_nil (r_seq (r_seq ?_)))
  obtain ⟨KF2, hKF2, o4, hF, hK2⟩ := bindE hF
  refine r_cut (fun e w' => ∃ (b2 : Bool), KF2 b2 = some r ∧ e = [(1, .pointer (some ⟨bb1, 0, none⟩)), (4, .slice p11 r4.length k11), (5, .int .i64 r5), (7, .slice p17 r8.length k17), (61, .bool b2)] ∧ SH w w' [Ch.own S8 (r8 : List Int) [.slice p17 r8.length k17], Ch.own S3 (r4 : List Int) [.slice p11 r4.length k11], Ch.box bb1 [.slice p1 a_0.Library.Cells.length k1, .slice p2 a_0.Design.Instances.length k2, .slice p3 a_0.Design.Nets.length k3, .slice p4 a_0.Design.Ports.length k4, .slice p5 a_0.Wires.length k5] 32]) ?_ ?_
  · refine r_region (rp rfl rfl (rp rfl rfl (rp rfl rfl ?_)))
    by_cases hc11 : (decide (r12 < 0)) = true
    · replace hF := bifT hc11 hF
      refine r_setT hc11 (t := 51) rfl (r_not rfl rfl rfl (r_not rfl rfl rfl (r_not rfl rfl rfl (r_not rfl rfl rfl (rp rfl rfl (rp rfl rfl (r_not rfl rfl rfl (r_not rfl rfl rfl (r_not rfl rfl rfl (rp rfl rfl (r_nil ?_)))))))))))
      replace h := h.pick [6, 8, 9] rfl
      obtain rfl := someI hF
      exact r_cutgoal [(1, _), (4, _), (5, _), (7, _), (61, _)] ⟨rfl, rfl, rfl, rfl, rfl, trivial⟩ ⟨_, hK2, rfl, h⟩
    replace hc11 := Bool.eq_false_iff.2 hc11
    replace hF := bifF hc11 hF
    refine r_setF hc11 (t := 51) rfl (r_wanted rfl (rp rfl rfl (r_wanted rfl (rp rfl rfl (r_wanted rfl ?_)))))
    obtain ⟨r21, hr24, hF⟩ := bindS hF
    refine r_callB r21 h call21 (laws_eqInt64S_ok (h.own 6 rfl) (h.own 8 rfl) hr24) rfl rfl rfl rfl ?_
    intro w20 h
    refine r_wanted rfl (rp rfl rfl (rp rfl rfl (rp rfl rfl ?_)))
    by_cases hc12 : (!r21) = true
    · replace hF := bifT hc12 hF
      refine r_setT hc12 (t := 57) rfl (r_not rfl rfl rfl (r_not rfl rfl rfl (r_not rfl rfl rfl (rp rfl rfl (r_nil ?_)))))
      replace h := h.pick [6, 8, 9] rfl
      obtain rfl := someI hF
      exact r_cutgoal [(1, _), (4, _), (5, _), (7, _), (61, _)] ⟨rfl, rfl, rfl, rfl, rfl, trivial⟩ ⟨_, hK2, rfl, h⟩
    replace hc12 := Bool.eq_false_iff.2 hc12
    replace hF := bifF hc12 hF
    refine r_setF hc12 (t := 57) rfl (r_wanted rfl (rp rfl rfl (r_wanted rfl (rp rfl rfl (r_wanted rfl (rp rfl rfl (rp rfl rfl (r_nil ?_))))))))
    replace h := h.pick [6, 8, 9] rfl
    obtain rfl := someI hF
    exact r_cutgoal [(1, _), (4, _), (5, _), (7, _), (61, _)] ⟨rfl, rfl, rfl, rfl, rfl, trivial⟩ ⟨_, hK2, rfl, h⟩
  rintro e2 w21 ⟨b2, hF, rfl, h⟩
  subst hKF2
  refine r_if rfl hF (fun hF => ?_) (fun hF => ?_)
  · exact r_seq (r_region (rp rfl rfl (r_nil (r_rB tabOk h hF ⟨rfl, trivial⟩))))
  refine r_skip (r_seq (r_region (rp rfl rfl (r_nil (r_seq (r_region (rp rfl rfl (rp rfl rfl ?_))))))))
  obtain ⟨o2, hr15, hF⟩ := bindS hF
  obtain ⟨r13, x6⟩ := o2
  refine r_callN r13 call25 (laws_markInt64S_okm h hr15) rfl rfl rfl rfl ?_
  rintro w13 ⟨S24, h⟩
  refine rp rfl rfl (r_nil (r_seq (r_region (rp rfl rfl (r_nil (r_seq (r_region (rp rfl rfl (rp rfl rfl ?_)))))))))
  obtain ⟨r14, hr16, hF⟩ := bindS hF
  refine r_callI r14 h call26 (laws_heldInt64S_ok (h.own 0 rfl) hr16) rfl rfl rfl rfl ?_
  intro w14 h
  refine rp rfl rfl (r_nil (r_seq (r_seq (r_region (rp rfl rfl (rp rfl rfl (r_nil ?_)))))))
  refine r_if rfl hF (fun hF => ?_) (fun hF => ?_)
  · exact r_seq (r_region (rp rfl rfl (r_nil (r_rB tabOk h hF ⟨rfl, trivial⟩))))
  refine r_skip (r_seq (r_seq (r_region (rp rfl rfl (rp rfl rfl (rp rfl rfl (r_nil ?_)))))))
  refine r_if rfl hF (fun hF => ?_) (fun hF => ?_)
  · exact r_seq (r_region (rp rfl rfl (r_nil (r_rB tabOk h hF ⟨rfl, trivial⟩))))
  refine r_skip (r_seq (r_region (r_v (v_ld tabOk (h.box 2 rfl) (j := 0) rfl rfl rfl) rfl ?_)))
  obtain ⟨r15, hr17, hF⟩ := bindS hF
  refine r_callO r15 h call10 (laws_toBlock_ok (mkR_TBlock (⟨(⟨a_0.Library.Cells⟩ : TLibrary), (⟨a_0.Design.Instances, a_0.Design.Nets, a_0.Design.Ports⟩ : TDesign), a_0.Wires⟩ : TBlock) (h.oldS s1) (h.oldS s2) (h.oldS s3) (h.oldS s4) (h.oldS s5)) hr17) rfl rfl rfl rfl ?_
  intro w15 S25 cs5 h
  obtain ⟨p23, k23, p24, k24, p25, k25, p26, k26, p27, k27, rfl, -, -, -, -, -⟩ := open_TBlock (h.own 0 rfl)
  obtain ⟨r16, hr18, hF⟩ := bindS hF
  obtain ⟨r17, r18⟩ := r16
  refine r_call (r17, r18) h call28 (impl_EndPlaces_ok (h.own 0 rfl) hr18) rfl rfl rfl rfl ?_
  intro w16 S26 us5 hv7 hr19
  obtain ⟨S27, S28, p28, k28, us6, rfl, hv8, hr20⟩ := hv7.consL hr19
  obtain ⟨rfl, h⟩ := hv8.lastI hr20
  refine rp rfl rfl (rp rfl rfl (rp rfl rfl (rp rfl rfl (rp rfl rfl (r_nil (r_seq (r_seq ?_)))))))
  obtain ⟨KF1, hKF1, o3, hF, hK1⟩ := bindE hF
  refine r_cut (fun e w' => ∃ (b3 : Bool), KF1 b3 = some r ∧ e = [(7, .slice p17 r8.length k17), (10, .int .i64 r13), (87, .bool b3)] ∧ SH w w' [Ch.own S24 (x6 : List Int) [.slice p17 r8.length k17]]) ?_ ?_
  · refine r_region (rp rfl rfl (rp rfl rfl ?_))
    obtain ⟨r20, hr23, hF⟩ := bindS hF
    refine r_callB r20 h call21 (laws_eqInt64S_ok (h.own 0 rfl) (h.own 3 rfl) hr23) rfl rfl rfl rfl ?_
    intro w18 h
    refine rp rfl rfl (rp rfl rfl ?_)
    by_cases hc10 : (!r20) = true
    · replace hF := bifT hc10 hF
      refine r_setT hc10 (t := 83) rfl (r_not rfl rfl rfl (r_not rfl rfl rfl (r_not rfl rfl rfl (rp rfl rfl (r_nil ?_)))))
      replace h := h.pick [2] rfl
      obtain rfl := someI hF
      exact r_cutgoal [(7, _), (10, _), (87, _)] ⟨rfl, rfl, rfl, trivial⟩ ⟨_, hK1, rfl, h⟩
    replace hc10 := Bool.eq_false_iff.2 hc10
    replace hF := bifF hc10 hF
    refine r_setF hc10 (t := 83) rfl (r_wanted rfl (rp rfl rfl (r_wanted rfl (rp rfl rfl (r_wanted rfl (rp rfl rfl (rp rfl rfl (r_nil ?_))))))))
    replace h := h.pick [2] rfl
    obtain rfl := someI hF
    exact r_cutgoal [(7, _), (10, _), (87, _)] ⟨rfl, rfl, rfl, trivial⟩ ⟨_, hK1, rfl, h⟩
  rintro e1 w19 ⟨b3, hF, rfl, h⟩
  subst hKF1
  refine r_if rfl hF (fun hF => ?_) (fun hF => ?_)
  · exact r_seq (r_region (rp rfl rfl (r_nil (r_rB tabOk h hF ⟨rfl, trivial⟩))))
  refine r_skip (r_seq (r_region (rp rfl rfl (r_nil (r_seq (r_region (rp rfl rfl (rp rfl rfl ?_))))))))
  obtain ⟨r19, hr22, hF⟩ := bindS hF
  refine r_callI r19 h call26 (laws_heldInt64S_ok (h.own 0 rfl) hr22) rfl rfl rfl rfl ?_
  intro w17 h
  refine rp rfl rfl (r_nil (r_seq (r_seq (r_region (rp rfl rfl (rp rfl rfl (r_nil ?_)))))))
  refine r_if rfl hF (fun hF => ?_) (fun hF => ?_)
  · exact r_seq (r_region (rp rfl rfl (r_nil (r_rB tabOk h hF ⟨rfl, trivial⟩))))
  refine r_skip (r_seq (r_seq (r_region (rp rfl rfl (rp rfl rfl (rp rfl rfl (r_nil ?_)))))))
  refine r_if rfl hF (fun hF => ?_) (fun hF => ?_)
  · exact r_seq (r_region (rp rfl rfl (r_nil (r_rB tabOk h hF ⟨rfl, trivial⟩))))
  exact r_skip (r_seq (r_region (rp rfl rfl (r_nil (r_rB tabOk h hF ⟨rfl, trivial⟩)))))

end Go.Fw
