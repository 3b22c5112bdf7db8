/- By a program of mine (gen.py): for each function a plain function and the proof that the code computes it. -/
import Derived.Test.YtlkocmcfefnolaaB1
namespace Go.Fw
open Go Go.Proofs
set_option maxRecDepth 100000
def spec_BorrowedTimes_L1 (s : TLatchSystem) (r4 : (List Int)) : Nat → (List Int) → Int → Option ((List Int) × Int)
  | 0, _, _ => none
  | n + 1, x1, i1 =>
    bif decide (i1 < (r4.length : Int)) then
      (idx x1 i1).bind fun y1 =>
      (idx s.Latches i1).bind fun y2 =>
      (idx x1 i1).bind fun y3 =>
      spec_BorrowedTimes_L1 s r4 n (setS x1 i1 (if (W64 (y1 - y2.Open)) > 0 then (W64 (y1 - y2.Open)) else 0)) (W64 (i1 + 1))
    else
      some (x1, i1)

def spec_BorrowedTimes (n : Nat) (s : TLatchSystem) : Option ((List Int) × Int) :=
  (spec_l18Code n s).bind fun o => match o with
    | (r2, r3) =>
      bif (r3 != 0) then
        some (([] : List Int), r3)
      else
        (spec_l18Arrivals n s r2).bind fun r4 =>
        (spec_BorrowedTimes_L1 s r4 n r4 0).bind fun o => match o with
        | (x1, i1) =>
          some (x1, 0)

theorem spec_BorrowedTimes_ok {n : Nat} {w : World} {s : TLatchSystem} {cs1 : List Value} (ha1 : GoT.R w (old w) s cs1) {r : ((List Int) × Int)} (hF : spec_BorrowedTimes n s = some r) : RetV Try.prog 22 [GoT.v TLatchSystem cs1] w r := by
  obtain ⟨p1, k1, p2, k2, rfl, s1, s2⟩ := open_TLatchSystem ha1
  refine retV_of_run Try.func22 rfl (m := 42) rfl rfl (fun h => ?_)
  rw [spec_BorrowedTimes] at hF
  refine r_seq ?_
  refine r_region ?_
  refine r_box h rfl rfl ?_
  intro w1 bb1 h
  refine r_p tabOk rfl rfl ?_
  refine r_p tabOk rfl rfl ?_
  refine r_nil ?_
  refine r_seq ?_
  refine r_region ?_
  refine r_v (v_ld tabOk (h.box 0 rfl) (j := 0) rfl rfl rfl) rfl ?_
  obtain ⟨r1, hr1, hF⟩ := bindS hF
  obtain ⟨r2, r3⟩ := r1
  refine r_call (r2, r3) h call32 (spec_l18Code_ok (h.old ha1) hr1) rfl rfl rfl rfl ?_
  intro w2 S1 us1 hv1 hr2
  obtain ⟨S2, S3, p3, k3, us2, rfl, hv1, hr2⟩ := hv1.consL hr2
  obtain ⟨rfl, h⟩ := hv1.lastI hr2
  refine r_p tabOk rfl rfl ?_
  refine r_p tabOk rfl rfl ?_
  refine r_p tabOk rfl rfl ?_
  refine r_p tabOk rfl rfl ?_
  refine r_p tabOk rfl rfl ?_
  refine r_nil ?_
  refine r_seq ?_
  refine r_seq ?_
  refine r_region ?_
  refine r_p tabOk rfl rfl ?_
  refine r_p tabOk rfl rfl ?_
  refine r_nil ?_
  refine r_cond rfl (fun hc1 => ?_) (fun hc1 => ?_)
  · replace hF := bifT hc1 hF
    refine r_seq ?_
    refine r_region ?_
    refine r_bslice tabOk [] _ ([] : List Int) h rfl rfl rfl rfl rfl rfl rfl rfl rfl trivial rfl ?_
    intro w3 p4 S5 h
    refine r_p tabOk rfl rfl ?_
    refine r_p tabOk rfl rfl ?_
    refine r_p tabOk rfl rfl ?_
    refine r_nil ?_
    obtain rfl := someI hF
    exact r_retV tabOk (ρ := ((List Int) × Int)) [GoT.v (List Int) [.slice p4 0 0], GoT.v Int [.int .i64 r3]] h ⟨rfl, rfl, trivial⟩ (PV.done h (pv_cons h (po_own 0 h rfl) (pv_one (po_flat (S := fun _ => False) rfl)) (by rfl)))
  · replace hF := bifF hc1 hF
    refine r_skip ?_
    refine r_seq ?_
    refine r_region ?_
    refine r_v (v_ld tabOk (h.box 1 rfl) (j := 0) rfl rfl rfl) rfl ?_
    refine r_p tabOk rfl rfl ?_
    obtain ⟨r4, hr3, hF⟩ := bindS hF
    refine r_callL r4 h call33 (spec_l18Arrivals_ok (h.old ha1) (h.own 0 rfl) hr3) rfl rfl rfl rfl ?_
    intro w4 S6 p5 k4 h
    refine r_p tabOk rfl rfl ?_
    refine r_nil ?_
    refine r_seq ?_
    refine r_seq ?_
    refine r_region ?_
    refine r_p tabOk rfl rfl ?_
    refine r_nil ?_
    obtain ⟨o1, hF, hK1⟩ := bindS hF
    refine r_block ?_
    replace h := h.pick [0, 2] rfl
    refine r_sub [(1, _), (6, _), (7, _)] ⟨rfl, rfl, rfl, trivial⟩ ?_
    refine r_loop (fun m e w' => ∃ (x1 : (List Int)) (i1 : Int), spec_BorrowedTimes_L1 s r4 m x1 i1 = some o1 ∧ e = [(1, .pointer (some ⟨bb1, 0, none⟩)), (6, .slice p5 r4.length k4), (7, .int .i64 i1)] ∧ SH w w' [Ch.own S6 (x1 : List Int) [.slice p5 r4.length k4], Ch.box bb1 [.slice p1 s.Latches.length k1, .slice p2 s.Links.length k2] 41]) n ⟨_, _, hF, rfl, h⟩ ?_
    rintro m1 e1 w5 ⟨x1, i1, hF, rfl, h⟩
    rcases m1 with _ | m1
    · rw [spec_BorrowedTimes_L1] at hF
      cases hF
    rw [spec_BorrowedTimes_L1] at hF
    refine r_seq ?_
    refine r_seq ?_
    refine r_region ?_
    refine r_p tabOk rfl rfl ?_
    refine r_p tabOk rfl rfl ?_
    refine r_p tabOk rfl rfl ?_
    refine r_p tabOk rfl rfl ?_
    refine r_nil ?_
    refine r_cond rfl (fun hc2 => ?_) (fun hc2 => ?_)
    · replace hF := bifT hc2 hF
      refine r_skip ?_
      refine r_seq ?_
      refine r_block ?_
      obtain ⟨y1, hy1, hF⟩ := bindS hF
      obtain ⟨y2, hy2, hF⟩ := bindS hF
      obtain ⟨y3, hy3, hF⟩ := bindS hF
      refine r_any [15] (fun w' => SH w w' [Ch.own S6 (x1 : List Int) [.slice p5 r4.length k4], Ch.box bb1 [.slice p1 s.Latches.length k1, .slice p2 s.Links.length k2] 41]) rfl 16 rfl #[false, false, false, false, false, false, false, false, false, false, false, false, false, false, false, false] (by kernel_rfl) (fun w7 hb => ?_)
      replace h := h.ext hb
      clear hb
      refine a_take 0 rfl #[true, false, false, false, false, false, false, false, false, false, false, false, false, false, false, false] (by kernel_rfl) (by kernel_rfl) (fun w' hw => v_p tabOk rfl w') (h.pick [0, 1] rfl) rfl ?_
      refine a_take 1 rfl #[true, true, false, false, false, false, false, false, false, false, false, false, false, false, false, false] (by kernel_rfl) (by kernel_rfl) (fun w' hw => v_p tabOk rfl w') (h.pick [0, 1] rfl) rfl ?_
      refine a_take 2 rfl #[true, true, true, false, false, false, false, false, false, false, false, false, false, false, false, false] (by kernel_rfl) (by kernel_rfl) (fun w' hw => v_p tabOk rfl w') (h.pick [0, 1] rfl) rfl ?_
      refine a_take 3 rfl #[true, true, true, true, false, false, false, false, false, false, false, false, false, false, false, false] (by kernel_rfl) (by kernel_rfl) (fun w' hw => v_p tabOk rfl w') (h.pick [0, 1] rfl) rfl ?_
      have he4 := idx_some hy1
      obtain ⟨b4, o_4, q4, cs5, hp4, hq4, -, hr7, hc6⟩ := (h.sl 0 rfl).1.at hy1
      obtain rfl := hr7
      refine a_take 4 rfl #[true, true, true, true, true, false, false, false, false, false, false, false, false, false, false, false] (by kernel_rfl) (by kernel_rfl) (fun w' hw => v_ix tabOk hp4 hq4 ⟨he4.1, lt_ln he4.2.1 (h.sl 0 rfl).2⟩ rfl rfl rfl rfl rfl rfl) (h.pick [0, 1] rfl) rfl ?_
      refine a_take 5 rfl #[true, true, true, true, true, true, false, false, false, false, false, false, false, false, false, false] (by kernel_rfl) (by kernel_rfl) (fun w' hw => v_ld tabOk (own_cells (w1 := w) (S1 := fun _ => False) hw 0 rfl hy1 hp4 hq4 rfl) (j := 0) rfl rfl rfl) (h.pick [0, 1] rfl) rfl ?_
      refine a_take 6 rfl #[true, true, true, true, true, true, true, false, false, false, false, false, false, false, false, false] (by kernel_rfl) (by kernel_rfl) (fun w' hw => v_p tabOk rfl w') (h.pick [0, 1] rfl) rfl ?_
      refine a_take 7 rfl #[true, true, true, true, true, true, true, true, false, false, false, false, false, false, false, false] (by kernel_rfl) (by kernel_rfl) (fun w' hw => v_ld tabOk (hw.box 1 rfl) (j := 0) rfl rfl rfl) (h.pick [0, 1] rfl) rfl ?_
      refine a_take 8 rfl #[true, true, true, true, true, true, true, true, true, false, false, false, false, false, false, false] (by kernel_rfl) (by kernel_rfl) (fun w' hw => v_p tabOk rfl w') (h.pick [0, 1] rfl) rfl ?_
      have he5 := idx_some hy2
      obtain ⟨b5, o_5, q5, cs6, hp5, hq5, -, hr8, hc7⟩ := s1.at hy2
      obtain rfl := open_TLatch hr8
      refine a_take 9 rfl #[true, true, true, true, true, true, true, true, true, true, false, false, false, false, false, false] (by kernel_rfl) (by kernel_rfl) (fun w' hw => v_ix tabOk hp5 hq5 ⟨he5.1, he5.2.1⟩ rfl rfl rfl rfl rfl rfl) (h.pick [0, 1] rfl) rfl ?_
      refine a_take 10 rfl #[true, true, true, true, true, true, true, true, true, true, true, false, false, false, false, false] (by kernel_rfl) (by kernel_rfl) (fun w' hw => v_p tabOk rfl w') (h.pick [0, 1] rfl) rfl ?_
      refine a_take 11 rfl #[true, true, true, true, true, true, true, true, true, true, true, true, false, false, false, false] (by kernel_rfl) (by kernel_rfl) (fun w' hw => v_ld tabOk (hc7.below hw.below) (j := 0) rfl rfl rfl) (h.pick [0, 1] rfl) rfl ?_
      refine a_take 12 rfl #[true, true, true, true, true, true, true, true, true, true, true, true, true, false, false, false] (by kernel_rfl) (by kernel_rfl) (fun w' hw => v_p tabOk rfl w') (h.pick [0, 1] rfl) rfl ?_
      refine a_take 13 rfl #[true, true, true, true, true, true, true, true, true, true, true, true, true, true, false, false] (by kernel_rfl) (by kernel_rfl) (fun w' hw => v_p tabOk rfl w') (h.pick [0, 1] rfl) rfl ?_
      have he6 := idx_some hy3
      obtain ⟨b6, o_6, q6, cs7, hp6, hq6, -, hr9, hc8⟩ := (h.sl 0 rfl).1.at hy3
      obtain rfl := hr9
      refine a_take 14 rfl #[true, true, true, true, true, true, true, true, true, true, true, true, true, true, true, false] (by kernel_rfl) (by kernel_rfl) (fun w' hw => v_ix tabOk hp6 hq6 ⟨he6.1, lt_ln he6.2.1 (h.sl 0 rfl).2⟩ rfl rfl rfl rfl rfl rfl) (h.pick [0, 1] rfl) rfl ?_
      refine a_only 15 rfl #[true, true, true, true, true, true, true, true, true, true, true, true, true, true, true, true] (by kernel_rfl) (by kernel_rfl) ?_
      refine r_stown tabOk 0 0 (if (W64 (y1 - y2.Open)) > 0 then (W64 (y1 - y2.Open)) else 0) h rfl hy3 hp6 hq6 rfl hc8 rfl rfl rfl rfl rfl rfl rfl ?_
      intro w8 h
      refine a_goal (fun hs => absurd (hs 15 (by decide)) (by decide)) ?_
      refine a_done (by kernel_rfl) ?_
      refine r_blk ?_
      refine r_region ?_
      refine r_p tabOk rfl rfl ?_
      refine r_p tabOk rfl rfl ?_
      refine r_p tabOk rfl rfl ?_
      refine r_nil ?_
      exact r_back m1 [(1, _), (6, _), (7, _)] (Nat.lt_succ_self m1) ⟨rfl, rfl, rfl, trivial⟩ ⟨_, _, hF, rfl, h⟩
    · replace hF := bifF hc2 hF
      refine r_exit rfl ?_
      obtain rfl := someI hF; replace hF := hK1
      refine r_seq ?_
      refine r_region ?_
      refine r_p tabOk rfl rfl ?_
      refine r_p tabOk rfl rfl ?_
      refine r_p tabOk rfl rfl ?_
      refine r_nil ?_
      obtain rfl := someI hF
      exact r_retV tabOk (ρ := ((List Int) × Int)) [GoT.v (List Int) [.slice p5 r4.length k4], GoT.v Int [.int .i64 0]] h ⟨rfl, rfl, trivial⟩ (PV.done h (pv_cons h (po_own 0 h rfl) (pv_one (po_flat (S := fun _ => False) rfl)) (by rfl)))

def impl_BorrowedTimes_L1 (s : TLatchSystem) (r3 : (List Int)) : Nat → (List Int) → Int → Option ((List Int) × Int)
  | 0, _, _ => none
  | n + 1, x1, i1 =>
    bif decide (i1 < (r3.length : Int)) then
      (idx x1 i1).bind fun y1 =>
      (idx s.Latches i1).bind fun y2 =>
      (idx x1 i1).bind fun y3 =>
      impl_BorrowedTimes_L1 s r3 n (setS x1 i1 (if (W64 (y1 - y2.Open)) > 0 then (W64 (y1 - y2.Open)) else 0)) (W64 (i1 + 1))
    else
      some (x1, i1)

def impl_BorrowedTimes (n : Nat) (s : TLatchSystem) : Option ((List Int) × Int) :=
  (impl_latchTimes n s).bind fun o => match o with
    | (r2, r3, r4) =>
      (impl_BorrowedTimes_L1 s r3 n r3 0).bind fun o => match o with
      | (x1, i1) =>
        some (x1, r4)

theorem impl_BorrowedTimes_ok {n : Nat} {w : World} {s : TLatchSystem} {cs1 : List Value} (ha1 : GoT.R w (old w) s cs1) {r : ((List Int) × Int)} (hF : impl_BorrowedTimes n s = some r) : RetV Try.prog 23 [GoT.v TLatchSystem cs1] w r := by
  obtain ⟨p1, k1, p2, k2, rfl, s1, s2⟩ := open_TLatchSystem ha1
  refine retV_of_run Try.func23 rfl (m := 37) rfl rfl (fun h => ?_)
  rw [impl_BorrowedTimes] at hF
  refine r_seq ?_
  refine r_region ?_
  refine r_box h rfl rfl ?_
  intro w1 bb1 h
  refine r_p tabOk rfl rfl ?_
  refine r_p tabOk rfl rfl ?_
  refine r_nil ?_
  refine r_seq ?_
  refine r_region ?_
  refine r_v (v_ld tabOk (h.box 0 rfl) (j := 0) rfl rfl rfl) rfl ?_
  obtain ⟨r1, hr1, hF⟩ := bindS hF
  obtain ⟨r2, r3, r4⟩ := r1
  refine r_call (r2, r3, r4) h call36 (impl_latchTimes_ok (h.old ha1) hr1) rfl rfl rfl rfl ?_
  intro w2 S1 us1 hv1 hr2
  obtain ⟨S2, S3, p3, k3, us2, rfl, hv1, hr2⟩ := hv1.consL hr2
  obtain ⟨S4, S5, p4, k4, us3, rfl, hv1, hr2⟩ := hv1.consL hr2
  obtain ⟨rfl, h⟩ := hv1.lastI hr2
  refine r_p tabOk rfl rfl ?_
  refine r_p tabOk rfl rfl ?_
  refine r_p tabOk rfl rfl ?_
  refine r_p tabOk rfl rfl ?_
  refine r_p tabOk rfl rfl ?_
  refine r_p tabOk rfl rfl ?_
  refine r_p tabOk rfl rfl ?_
  refine r_nil ?_
  refine r_seq ?_
  refine r_seq ?_
  refine r_region ?_
  refine r_p tabOk rfl rfl ?_
  refine r_p tabOk rfl rfl ?_
  refine r_p tabOk rfl rfl ?_
  refine r_nil ?_
  obtain ⟨o1, hF, hK1⟩ := bindS hF
  refine r_block ?_
  replace h := h.pick [0, 2] rfl
  refine r_sub [(1, _), (5, _), (6, _), (15, _), (16, _)] ⟨rfl, rfl, rfl, rfl, rfl, trivial⟩ ?_
  refine r_loop (fun m e w' => ∃ (x1 : (List Int)) (i1 : Int), impl_BorrowedTimes_L1 s r3 m x1 i1 = some o1 ∧ e = [(1, .pointer (some ⟨bb1, 0, none⟩)), (5, .slice p4 r3.length k4), (6, .int .i64 r4), (15, .int .i64 (r3.length : Int)), (16, .int .i64 i1)] ∧ SH w w' [Ch.own S4 (x1 : List Int) [.slice p4 r3.length k4], Ch.box bb1 [.slice p1 s.Latches.length k1, .slice p2 s.Links.length k2] 41]) n ⟨_, _, hF, rfl, h⟩ ?_
  rintro m1 e1 w3 ⟨x1, i1, hF, rfl, h⟩
  rcases m1 with _ | m1
  · rw [impl_BorrowedTimes_L1] at hF
    cases hF
  rw [impl_BorrowedTimes_L1] at hF
  refine r_seq ?_
  refine r_region ?_
  refine r_p tabOk rfl rfl ?_
  refine r_nil ?_
  refine r_seq ?_
  refine r_cond rfl (fun hc1 => ?_) (fun hc1 => ?_)
  · replace hF := bifT hc1 hF
    refine r_skip ?_
    refine r_seq ?_
    refine r_block ?_
    refine r_seq ?_
    refine r_region ?_
    refine r_p tabOk rfl rfl ?_
    refine r_p tabOk rfl rfl ?_
    refine r_nil ?_
    obtain ⟨y1, hy1, hF⟩ := bindS hF
    obtain ⟨y2, hy2, hF⟩ := bindS hF
    obtain ⟨y3, hy3, hF⟩ := bindS hF
    refine r_any [15] (fun w' => SH w w' [Ch.own S4 (x1 : List Int) [.slice p4 r3.length k4], Ch.box bb1 [.slice p1 s.Latches.length k1, .slice p2 s.Links.length k2] 41]) rfl 16 rfl #[false, false, false, false, false, false, false, false, false, false, false, false, false, false, false, false] (by kernel_rfl) (fun w5 hb => ?_)
    replace h := h.ext hb
    clear hb
    refine a_take 0 rfl #[true, false, false, false, false, false, false, false, false, false, false, false, false, false, false, false] (by kernel_rfl) (by kernel_rfl) (fun w' hw => v_p tabOk rfl w') (h.pick [0, 1] rfl) rfl ?_
    refine a_take 1 rfl #[true, true, false, false, false, false, false, false, false, false, false, false, false, false, false, false] (by kernel_rfl) (by kernel_rfl) (fun w' hw => v_p tabOk rfl w') (h.pick [0, 1] rfl) rfl ?_
    refine a_take 2 rfl #[true, true, true, false, false, false, false, false, false, false, false, false, false, false, false, false] (by kernel_rfl) (by kernel_rfl) (fun w' hw => v_p tabOk rfl w') (h.pick [0, 1] rfl) rfl ?_
    refine a_take 3 rfl #[true, true, true, true, false, false, false, false, false, false, false, false, false, false, false, false] (by kernel_rfl) (by kernel_rfl) (fun w' hw => v_p tabOk rfl w') (h.pick [0, 1] rfl) rfl ?_
    have he4 := idx_some hy1
    obtain ⟨b4, o_4, q4, cs5, hp4, hq4, -, hr6, hc5⟩ := (h.sl 0 rfl).1.at hy1
    obtain rfl := hr6
    refine a_take 4 rfl #[true, true, true, true, true, false, false, false, false, false, false, false, false, false, false, false] (by kernel_rfl) (by kernel_rfl) (fun w' hw => v_ix tabOk hp4 hq4 ⟨he4.1, lt_ln he4.2.1 (h.sl 0 rfl).2⟩ rfl rfl rfl rfl rfl rfl) (h.pick [0, 1] rfl) rfl ?_
    refine a_take 5 rfl #[true, true, true, true, true, true, false, false, false, false, false, false, false, false, false, false] (by kernel_rfl) (by kernel_rfl) (fun w' hw => v_ld tabOk (own_cells (w1 := w) (S1 := fun _ => False) hw 0 rfl hy1 hp4 hq4 rfl) (j := 0) rfl rfl rfl) (h.pick [0, 1] rfl) rfl ?_
    refine a_take 6 rfl #[true, true, true, true, true, true, true, false, false, false, false, false, false, false, false, false] (by kernel_rfl) (by kernel_rfl) (fun w' hw => v_p tabOk rfl w') (h.pick [0, 1] rfl) rfl ?_
    refine a_take 7 rfl #[true, true, true, true, true, true, true, true, false, false, false, false, false, false, false, false] (by kernel_rfl) (by kernel_rfl) (fun w' hw => v_ld tabOk (hw.box 1 rfl) (j := 0) rfl rfl rfl) (h.pick [0, 1] rfl) rfl ?_
    refine a_take 8 rfl #[true, true, true, true, true, true, true, true, true, false, false, false, false, false, false, false] (by kernel_rfl) (by kernel_rfl) (fun w' hw => v_p tabOk rfl w') (h.pick [0, 1] rfl) rfl ?_
    have he5 := idx_some hy2
    obtain ⟨b5, o_5, q5, cs6, hp5, hq5, -, hr7, hc6⟩ := s1.at hy2
    obtain rfl := open_TLatch hr7
    refine a_take 9 rfl #[true, true, true, true, true, true, true, true, true, true, false, false, false, false, false, false] (by kernel_rfl) (by kernel_rfl) (fun w' hw => v_ix tabOk hp5 hq5 ⟨he5.1, he5.2.1⟩ rfl rfl rfl rfl rfl rfl) (h.pick [0, 1] rfl) rfl ?_
    refine a_take 10 rfl #[true, true, true, true, true, true, true, true, true, true, true, false, false, false, false, false] (by kernel_rfl) (by kernel_rfl) (fun w' hw => v_p tabOk rfl w') (h.pick [0, 1] rfl) rfl ?_
    refine a_take 11 rfl #[true, true, true, true, true, true, true, true, true, true, true, true, false, false, false, false] (by kernel_rfl) (by kernel_rfl) (fun w' hw => v_ld tabOk (hc6.below hw.below) (j := 0) rfl rfl rfl) (h.pick [0, 1] rfl) rfl ?_
    refine a_take 12 rfl #[true, true, true, true, true, true, true, true, true, true, true, true, true, false, false, false] (by kernel_rfl) (by kernel_rfl) (fun w' hw => v_p tabOk rfl w') (h.pick [0, 1] rfl) rfl ?_
    refine a_take 13 rfl #[true, true, true, true, true, true, true, true, true, true, true, true, true, true, false, false] (by kernel_rfl) (by kernel_rfl) (fun w' hw => v_p tabOk rfl w') (h.pick [0, 1] rfl) rfl ?_
    have he6 := idx_some hy3
    obtain ⟨b6, o_6, q6, cs7, hp6, hq6, -, hr8, hc7⟩ := (h.sl 0 rfl).1.at hy3
    obtain rfl := hr8
    refine a_take 14 rfl #[true, true, true, true, true, true, true, true, true, true, true, true, true, true, true, false] (by kernel_rfl) (by kernel_rfl) (fun w' hw => v_ix tabOk hp6 hq6 ⟨he6.1, lt_ln he6.2.1 (h.sl 0 rfl).2⟩ rfl rfl rfl rfl rfl rfl) (h.pick [0, 1] rfl) rfl ?_
    refine a_only 15 rfl #[true, true, true, true, true, true, true, true, true, true, true, true, true, true, true, true] (by kernel_rfl) (by kernel_rfl) ?_
    refine r_stown tabOk 0 0 (if (W64 (y1 - y2.Open)) > 0 then (W64 (y1 - y2.Open)) else 0) h rfl hy3 hp6 hq6 rfl hc7 rfl rfl rfl rfl rfl rfl rfl ?_
    intro w6 h
    refine a_goal (fun hs => absurd (hs 15 (by decide)) (by decide)) ?_
    refine a_done (by kernel_rfl) ?_
    refine r_blk ?_
    refine r_region ?_
    refine r_p tabOk rfl rfl ?_
    refine r_p tabOk rfl rfl ?_
    refine r_nil ?_
    exact r_back m1 [(1, _), (5, _), (6, _), (15, _), (16, _)] (Nat.lt_succ_self m1) ⟨rfl, rfl, rfl, rfl, rfl, trivial⟩ ⟨_, _, hF, rfl, h⟩
  · replace hF := bifF hc1 hF
    refine r_exit rfl ?_
    obtain rfl := someI hF; replace hF := hK1
    refine r_seq ?_
    refine r_region ?_
    refine r_p tabOk rfl rfl ?_
    refine r_p tabOk rfl rfl ?_
    refine r_p tabOk rfl rfl ?_
    refine r_p tabOk rfl rfl ?_
    refine r_nil ?_
    obtain rfl := someI hF
    exact r_retV tabOk (ρ := ((List Int) × Int)) [GoT.v (List Int) [.slice p4 r3.length k4], GoT.v Int [.int .i64 r4]] h ⟨rfl, rfl, trivial⟩ (PV.done h (pv_cons h (po_own 0 h rfl) (pv_one (po_flat (S := fun _ => False) rfl)) (by rfl)))

def laws_FnExactBorrowedTimes (n : Nat) (a_0 : TLatchSystem) : Option Bool :=
  (laws_szLatchSystem n a_0 1048576).bind fun r1 =>
  bif decide (r1 < 0) then
    some true
  else
    (laws_toLatchSystem n a_0).bind fun r2 =>
    (spec_BorrowedTimes n r2).bind fun o => match o with
      | (r4, r5) =>
        (laws_toLatchSystem n a_0).bind fun r6 =>
        (impl_BorrowedTimes n r6).bind fun o => match o with
          | (r8, r9) =>
            (
              (laws_eqInt64S n r8 r4).bind fun r22 =>
              bif (!r22) then
                some true
              else
                some (r9 != r5)).bind fun b1 =>
            bif b1 then
              some false
            else
              (laws_toLatchSystem n a_0).bind fun r10 =>
              (laws_eqLatchSystem n r6 r10).bind fun r11 =>
              bif (!r11) then
                some false
              else
                (laws_markLatchSystem n (⟨r6.Latches, r6.Links⟩ : TLatchSystem) 1).bind fun o => match o with
                  | (r12, x1, x2) =>
                    (
                      bif decide (r12 < 0) then
                        some true
                      else
                        (laws_eqInt64S n r8 r4).bind fun r21 =>
                        bif (!r21) then
                          some true
                        else
                          some (r9 != r5)).bind fun b2 =>
                    bif b2 then
                      some false
                    else
                      (laws_markInt64S n r8 1).bind fun o => match o with
                        | (r13, x3) =>
                          (laws_heldInt64S n x3 1).bind fun r14 =>
                          bif decide (r14 < 0) then
                            some false
                          else
                            bif (r14 != r13) then
                              some false
                            else
                              (laws_toLatchSystem n (⟨a_0.Latches, a_0.Links⟩ : TLatchSystem)).bind fun r15 =>
                              (impl_BorrowedTimes n r15).bind fun o => match o with
                                | (r17, r18) =>
                                  (
                                    (laws_eqInt64S n r17 r4).bind fun r20 =>
                                    bif (!r20) then
                                      some true
                                    else
                                      some (r18 != r5)).bind fun b3 =>
                                  bif b3 then
                                    some false
                                  else
                                    (laws_heldInt64S n x3 1).bind fun r19 =>
                                    bif decide (r19 < 0) then
                                      some false
                                    else
                                      bif (r19 != r13) then
                                        some false
                                      else
                                        some true

theorem laws_FnExactBorrowedTimes_ok {n : Nat} {w : World} {a_0 : TLatchSystem} {cs1 : List Value} (ha1 : GoT.R w (old w) a_0 cs1) {r : Bool} (hF : laws_FnExactBorrowedTimes n a_0 = some r) : RetV Try.prog 5 [GoT.v TLatchSystem cs1] w r := by
  obtain ⟨p1, k1, p2, k2, rfl, s1, s2⟩ := open_TLatchSystem ha1
  refine retV_of_run Try.func5 rfl (m := 96) rfl rfl (fun h => ?_)
  rw [laws_FnExactBorrowedTimes] at hF
  refine r_seq ?_
  refine r_region ?_
  refine r_box h rfl rfl ?_
  intro w1 bb1 h
  refine r_p tabOk rfl rfl ?_
  refine r_nil ?_
  refine r_seq ?_
  refine r_region ?_
  refine r_p tabOk rfl rfl ?_
  refine r_nil ?_
  refine r_seq ?_
  refine r_region ?_
  refine r_v (v_ld tabOk (h.box 0 rfl) (j := 0) rfl rfl rfl) rfl ?_
  refine r_p tabOk rfl rfl ?_
  obtain ⟨r1, hr1, hF⟩ := bindS hF
  refine r_callI r1 h call13 (laws_szLatchSystem_ok (h.old ha1) hr1) rfl rfl rfl rfl ?_
  intro w2 h
  refine r_p tabOk rfl rfl ?_
  refine r_nil ?_
  refine r_seq ?_
  refine r_seq ?_
  refine r_region ?_
  refine r_p tabOk rfl rfl ?_
  refine r_p tabOk rfl rfl ?_
  refine r_nil ?_
  refine r_cond rfl (fun hc1 => ?_) (fun hc1 => ?_)
  · replace hF := bifT hc1 hF
    refine r_seq ?_
    refine r_region ?_
    refine r_p tabOk rfl rfl ?_
    refine r_nil ?_
    obtain rfl := someI hF
    exact r_retV tabOk (ρ := Bool) [_] h ⟨rfl, trivial⟩ (vs_bool _ _)
  · replace hF := bifF hc1 hF
    refine r_skip ?_
    refine r_seq ?_
    refine r_region ?_
    refine r_v (v_ld tabOk (h.box 0 rfl) (j := 0) rfl rfl rfl) rfl ?_
    obtain ⟨r2, hr2, hF⟩ := bindS hF
    refine r_callO r2 h call15 (laws_toLatchSystem_ok (h.old ha1) hr2) rfl rfl rfl rfl ?_
    intro w3 S1 cs2 h
    obtain ⟨p3, k3, p4, k4, rfl, -, -⟩ := open_TLatchSystem (h.own 0 rfl)
    obtain ⟨r3, hr3, hF⟩ := bindS hF
    obtain ⟨r4, r5⟩ := r3
    refine r_call (r4, r5) h call22 (spec_BorrowedTimes_ok (h.own 0 rfl) hr3) rfl rfl rfl rfl ?_
    intro w4 S2 us1 hv1 hr4
    obtain ⟨S3, S4, p5, k5, us2, rfl, hv1, hr4⟩ := hv1.consL hr4
    obtain ⟨rfl, h⟩ := hv1.lastI hr4
    refine r_p tabOk rfl rfl ?_
    refine r_p tabOk rfl rfl ?_
    refine r_p tabOk rfl rfl ?_
    refine r_p tabOk rfl rfl ?_
    refine r_p tabOk rfl rfl ?_
    refine r_nil ?_
    refine r_seq ?_
    refine r_region ?_
    refine r_v (v_ld tabOk (h.box 2 rfl) (j := 0) rfl rfl rfl) rfl ?_
    obtain ⟨r6, hr5, hF⟩ := bindS hF
    refine r_callO r6 h call15 (laws_toLatchSystem_ok (h.old ha1) hr5) rfl rfl rfl rfl ?_
    intro w5 S6 cs3 h
    obtain ⟨p6, k6, p7, k7, rfl, -, -⟩ := open_TLatchSystem (h.own 0 rfl)
    refine r_alloc tabOk h rfl rfl rfl ?_
    intro w6 bb2 h
    refine r_stbox tabOk 0 h rfl rfl rfl rfl rfl rfl rfl ?_
    intro w7 h
    refine r_nil ?_
    refine r_seq ?_
    refine r_region ?_
    refine r_v (v_ld tabOk (h.box 0 rfl) (j := 0) rfl rfl rfl) rfl ?_
    obtain ⟨r7, hr6, hF⟩ := bindS hF
    obtain ⟨r8, r9⟩ := r7
    refine r_call (r8, r9) h call23 (impl_BorrowedTimes_ok (h.own 1 rfl) hr6) rfl rfl rfl rfl ?_
    intro w8 S7 us3 hv2 hr7
    obtain ⟨S8, S9, p8, k8, us4, rfl, hv2, hr7⟩ := hv2.consL hr7
    obtain ⟨rfl, h⟩ := hv2.lastI hr7
    refine r_p tabOk rfl rfl ?_
    refine r_p tabOk rfl rfl ?_
    refine r_p tabOk rfl rfl ?_
    refine r_p tabOk rfl rfl ?_
    refine r_p tabOk rfl rfl ?_
    refine r_nil ?_
    refine r_seq ?_
    refine r_seq ?_
    obtain ⟨KF3, hKF3, o5, hF, hK3⟩ := bindE hF
    refine r_cut (fun e w' => ∃ (b1 : Bool), KF3 b1 = some r ∧ e = [(1, .pointer (some ⟨bb1, 0, none⟩)), (4, .slice p5 r4.length k5), (5, .int .i64 r5), (6, .pointer (some ⟨bb2, 0, none⟩)), (7, .slice p8 r8.length k8), (8, .int .i64 r9), (40, .bool b1)] ∧ SH w w' [Ch.own S8 (r8 : List Int) [.slice p8 r8.length k8], Ch.box bb2 [.slice p6 r6.Latches.length k6, .slice p7 r6.Links.length k7] 41, Ch.own S6 (r6 : TLatchSystem) [.slice p6 r6.Latches.length k6, .slice p7 r6.Links.length k7], Ch.own S3 (r4 : List Int) [.slice p5 r4.length k5], Ch.box bb1 [.slice p1 a_0.Latches.length k1, .slice p2 a_0.Links.length k2] 34]) ?_ ?_
    · refine r_region ?_
      refine r_p tabOk rfl rfl ?_
      refine r_p tabOk rfl rfl ?_
      obtain ⟨r22, hr19, hF⟩ := bindS hF
      refine r_callB r22 h call17 (laws_eqInt64S_ok (h.own 0 rfl) (h.own 3 rfl) hr19) rfl rfl rfl rfl ?_
      intro w24 h
      refine r_p tabOk rfl rfl ?_
      refine r_p tabOk rfl rfl ?_
      by_cases hc13 : (!r22) = true
      · replace hF := bifT hc13 hF
        refine r_setT hc13 (t := 36) rfl ?_
        refine r_unwanted rfl ?_ (fun _ hd => by cases hd; rfl)
        refine r_unwanted rfl ?_ (fun _ hd => by cases hd; rfl)
        refine r_unwanted rfl ?_ (fun _ hd => by cases hd; rfl)
        refine r_p tabOk rfl rfl ?_
        refine r_nil ?_
        replace h := h.pick [0, 1, 2, 3, 5] rfl
        obtain rfl := someI hF
        exact r_cutgoal [(1, _), (4, _), (5, _), (6, _), (7, _), (8, _), (40, _)] ⟨rfl, rfl, rfl, rfl, rfl, rfl, rfl, trivial⟩ ⟨_, hK3, rfl, h⟩
      · replace hc13 := Bool.eq_false_iff.2 hc13
        replace hF := bifF hc13 hF
        refine r_setF hc13 (t := 36) rfl ?_
        refine r_wanted rfl ?_
        refine r_p tabOk rfl rfl ?_
        refine r_wanted rfl ?_
        refine r_p tabOk rfl rfl ?_
        refine r_wanted rfl ?_
        refine r_p tabOk rfl rfl ?_
        refine r_p tabOk rfl rfl ?_
        refine r_nil ?_
        replace h := h.pick [0, 1, 2, 3, 5] rfl
        obtain rfl := someI hF
        exact r_cutgoal [(1, _), (4, _), (5, _), (6, _), (7, _), (8, _), (40, _)] ⟨rfl, rfl, rfl, rfl, rfl, rfl, rfl, trivial⟩ ⟨_, hK3, rfl, h⟩
    · rintro e3 w25 ⟨b1, hF, rfl, h⟩
      subst hKF3
      refine r_cond rfl (fun hc2 => ?_) (fun hc2 => ?_)
      · replace hF := bifT hc2 hF
        refine r_seq ?_
        refine r_region ?_
        refine r_p tabOk rfl rfl ?_
        refine r_nil ?_
        obtain rfl := someI hF
        exact r_retV tabOk (ρ := Bool) [_] h ⟨rfl, trivial⟩ (vs_bool _ _)
      · replace hF := bifF hc2 hF
        refine r_skip ?_
        refine r_seq ?_
        refine r_seq ?_
        obtain ⟨r10, hr8, hF⟩ := bindS hF
        obtain ⟨r11, hr9, hF⟩ := bindS hF
        refine r_any [] (fun w' => SH w w' [Ch.box bb2 [.slice p6 r6.Latches.length k6, .slice p7 r6.Links.length k7] 41, Ch.box bb1 [.slice p1 a_0.Latches.length k1, .slice p2 a_0.Links.length k2] 34]) rfl 5 rfl #[false, false, false, false, false] (by kernel_rfl) (fun w11 hb => ?_)
        replace h := h.ext hb
        clear hb
        refine a_take 0 rfl #[true, false, false, false, false] (by kernel_rfl) (by kernel_rfl) (fun w' hw => v_ld tabOk (hw.box 0 rfl) (j := 0) rfl rfl rfl) (h.pick [1, 4] rfl) rfl ?_
        refine a_take 1 rfl #[true, true, false, false, false] (by kernel_rfl) (by kernel_rfl) (fun w' hw => v_ld tabOk (hw.box 1 rfl) (j := 0) rfl rfl rfl) (h.pick [1, 4] rfl) rfl ?_
        refine a_only 2 rfl #[true, true, true, false, false] (by kernel_rfl) (by kernel_rfl) ?_
        refine r_callO r10 h call15 (laws_toLatchSystem_ok (h.old ha1) hr8) rfl rfl rfl rfl ?_
        intro w12 S12 cs5 h
        obtain ⟨p11, k11, p12, k12, rfl, -, -⟩ := open_TLatchSystem (h.own 0 rfl)
        refine a_goal (fun _ => (h.pick [2, 5] rfl)) ?_
        refine a_only 3 rfl #[true, true, true, true, false] (by kernel_rfl) (by kernel_rfl) ?_
        refine r_callB r11 h call18 (laws_eqLatchSystem_ok (h.own 3 rfl) (h.own 0 rfl) hr9) rfl rfl rfl rfl ?_
        intro w13 h
        refine a_goal (fun _ => (h.pick [2, 5] rfl)) ?_
        refine a_take 4 rfl #[true, true, true, true, true] (by kernel_rfl) (by kernel_rfl) (fun w' hw => v_p tabOk rfl w') (h.pick [2, 5] rfl) rfl ?_
        refine a_done (by kernel_rfl) ?_
        refine r_cond rfl (fun hc3 => ?_) (fun hc3 => ?_)
        · replace hF := bifT hc3 hF
          refine r_seq ?_
          refine r_region ?_
          refine r_p tabOk rfl rfl ?_
          refine r_nil ?_
          obtain rfl := someI hF
          exact r_retV tabOk (ρ := Bool) [_] h ⟨rfl, trivial⟩ (vs_bool _ _)
        · replace hF := bifF hc3 hF
          refine r_skip ?_
          refine r_seq ?_
          refine r_region ?_
          refine r_p tabOk rfl rfl ?_
          refine r_nil ?_
          refine r_seq ?_
          refine r_region ?_
          refine r_v (v_ld tabOk (h.box 2 rfl) (j := 0) rfl rfl rfl) rfl ?_
          refine r_p tabOk rfl rfl ?_
          replace h := h.pick [3, 0, 1, 2, 4, 5] rfl
          obtain ⟨S13, S14, h⟩ := split_TLatchSystem h
          obtain ⟨o1, hr10, hF⟩ := bindS hF
          obtain ⟨r12, x1, x2⟩ := o1
          refine r_callM r12 call19 (laws_markLatchSystem_okm h hr10) rfl rfl rfl rfl ?_
          intro w14 h
          refine r_p tabOk rfl rfl ?_
          refine r_nil ?_
          refine r_seq ?_
          refine r_seq ?_
          obtain ⟨KF2, hKF2, o4, hF, hK2⟩ := bindE hF
          refine r_cut (fun e w' => ∃ (b2 : Bool), KF2 b2 = some r ∧ e = [(1, .pointer (some ⟨bb1, 0, none⟩)), (4, .slice p5 r4.length k5), (5, .int .i64 r5), (7, .slice p8 r8.length k8), (61, .bool b2)] ∧ SH w w' [Ch.own S8 (r8 : List Int) [.slice p8 r8.length k8], Ch.own S3 (r4 : List Int) [.slice p5 r4.length k5], Ch.box bb1 [.slice p1 a_0.Latches.length k1, .slice p2 a_0.Links.length k2] 34]) ?_ ?_
          · refine r_region ?_
            refine r_p tabOk rfl rfl ?_
            refine r_p tabOk rfl rfl ?_
            refine r_p tabOk rfl rfl ?_
            by_cases hc11 : (decide (r12 < 0)) = true
            · replace hF := bifT hc11 hF
              refine r_setT hc11 (t := 51) rfl ?_
              refine r_unwanted rfl ?_ (fun _ hd => by cases hd; rfl)
              refine r_unwanted rfl ?_ (fun _ hd => by cases hd; rfl)
              refine r_unwanted rfl ?_ (fun _ hd => by cases hd; rfl)
              refine r_unwanted rfl ?_ (fun _ hd => by cases hd; rfl)
              refine r_p tabOk rfl rfl ?_
              refine r_p tabOk rfl rfl ?_
              refine r_unwanted rfl ?_ (fun _ hd => by cases hd; rfl)
              refine r_unwanted rfl ?_ (fun _ hd => by cases hd; rfl)
              refine r_unwanted rfl ?_ (fun _ hd => by cases hd; rfl)
              refine r_p tabOk rfl rfl ?_
              refine r_nil ?_
              replace h := h.pick [3, 5, 6] rfl
              obtain rfl := someI hF
              exact r_cutgoal [(1, _), (4, _), (5, _), (7, _), (61, _)] ⟨rfl, rfl, rfl, rfl, rfl, trivial⟩ ⟨_, hK2, rfl, h⟩
            · replace hc11 := Bool.eq_false_iff.2 hc11
              replace hF := bifF hc11 hF
              refine r_setF hc11 (t := 51) rfl ?_
              refine r_wanted rfl ?_
              refine r_p tabOk rfl rfl ?_
              refine r_wanted rfl ?_
              refine r_p tabOk rfl rfl ?_
              refine r_wanted rfl ?_
              obtain ⟨r21, hr18, hF⟩ := bindS hF
              refine r_callB r21 h call17 (laws_eqInt64S_ok (h.own 3 rfl) (h.own 5 rfl) hr18) rfl rfl rfl rfl ?_
              intro w22 h
              refine r_wanted rfl ?_
              refine r_p tabOk rfl rfl ?_
              refine r_p tabOk rfl rfl ?_
              refine r_p tabOk rfl rfl ?_
              by_cases hc12 : (!r21) = true
              · replace hF := bifT hc12 hF
                refine r_setT hc12 (t := 57) rfl ?_
                refine r_unwanted rfl ?_ (fun _ hd => by cases hd; rfl)
                refine r_unwanted rfl ?_ (fun _ hd => by cases hd; rfl)
                refine r_unwanted rfl ?_ (fun _ hd => by cases hd; rfl)
                refine r_p tabOk rfl rfl ?_
                refine r_nil ?_
                replace h := h.pick [3, 5, 6] rfl
                obtain rfl := someI hF
                exact r_cutgoal [(1, _), (4, _), (5, _), (7, _), (61, _)] ⟨rfl, rfl, rfl, rfl, rfl, trivial⟩ ⟨_, hK2, rfl, h⟩
              · replace hc12 := Bool.eq_false_iff.2 hc12
                replace hF := bifF hc12 hF
                refine r_setF hc12 (t := 57) rfl ?_
                refine r_wanted rfl ?_
                refine r_p tabOk rfl rfl ?_
                refine r_wanted rfl ?_
                refine r_p tabOk rfl rfl ?_
                refine r_wanted rfl ?_
                refine r_p tabOk rfl rfl ?_
                refine r_p tabOk rfl rfl ?_
                refine r_nil ?_
                replace h := h.pick [3, 5, 6] rfl
                obtain rfl := someI hF
                exact r_cutgoal [(1, _), (4, _), (5, _), (7, _), (61, _)] ⟨rfl, rfl, rfl, rfl, rfl, trivial⟩ ⟨_, hK2, rfl, h⟩
          · rintro e2 w23 ⟨b2, hF, rfl, h⟩
            subst hKF2
            refine r_cond rfl (fun hc4 => ?_) (fun hc4 => ?_)
            · replace hF := bifT hc4 hF
              refine r_seq ?_
              refine r_region ?_
              refine r_p tabOk rfl rfl ?_
              refine r_nil ?_
              obtain rfl := someI hF
              exact r_retV tabOk (ρ := Bool) [_] h ⟨rfl, trivial⟩ (vs_bool _ _)
            · replace hF := bifF hc4 hF
              refine r_skip ?_
              refine r_seq ?_
              refine r_region ?_
              refine r_p tabOk rfl rfl ?_
              refine r_nil ?_
              refine r_seq ?_
              refine r_region ?_
              refine r_p tabOk rfl rfl ?_
              refine r_p tabOk rfl rfl ?_
              obtain ⟨o2, hr11, hF⟩ := bindS hF
              obtain ⟨r13, x3⟩ := o2
              refine r_callM r13 call20 (laws_markInt64S_okm h hr11) rfl rfl rfl rfl ?_
              intro w15 h
              refine r_p tabOk rfl rfl ?_
              refine r_nil ?_
              refine r_seq ?_
              refine r_region ?_
              refine r_p tabOk rfl rfl ?_
              refine r_nil ?_
              refine r_seq ?_
              refine r_region ?_
              refine r_p tabOk rfl rfl ?_
              refine r_p tabOk rfl rfl ?_
              obtain ⟨r14, hr12, hF⟩ := bindS hF
              refine r_callI r14 h call21 (laws_heldInt64S_ok (h.own 0 rfl) hr12) rfl rfl rfl rfl ?_
              intro w16 h
              refine r_p tabOk rfl rfl ?_
              refine r_nil ?_
              refine r_seq ?_
              refine r_seq ?_
              refine r_region ?_
              refine r_p tabOk rfl rfl ?_
              refine r_p tabOk rfl rfl ?_
              refine r_nil ?_
              refine r_cond rfl (fun hc5 => ?_) (fun hc5 => ?_)
              · replace hF := bifT hc5 hF
                refine r_seq ?_
                refine r_region ?_
                refine r_p tabOk rfl rfl ?_
                refine r_nil ?_
                obtain rfl := someI hF
                exact r_retV tabOk (ρ := Bool) [_] h ⟨rfl, trivial⟩ (vs_bool _ _)
              · replace hF := bifF hc5 hF
                refine r_skip ?_
                refine r_seq ?_
                refine r_seq ?_
                refine r_region ?_
                refine r_p tabOk rfl rfl ?_
                refine r_p tabOk rfl rfl ?_
                refine r_p tabOk rfl rfl ?_
                refine r_nil ?_
                refine r_cond rfl (fun hc6 => ?_) (fun hc6 => ?_)
                · replace hF := bifT hc6 hF
                  refine r_seq ?_
                  refine r_region ?_
                  refine r_p tabOk rfl rfl ?_
                  refine r_nil ?_
                  obtain rfl := someI hF
                  exact r_retV tabOk (ρ := Bool) [_] h ⟨rfl, trivial⟩ (vs_bool _ _)
                · replace hF := bifF hc6 hF
                  refine r_skip ?_
                  refine r_seq ?_
                  refine r_region ?_
                  refine r_v (v_ld tabOk (h.box 2 rfl) (j := 0) rfl rfl rfl) rfl ?_
                  obtain ⟨r15, hr13, hF⟩ := bindS hF
                  refine r_callO r15 h call15 (laws_toLatchSystem_ok (mkR_TLatchSystem (⟨a_0.Latches, a_0.Links⟩ : TLatchSystem) (h.oldS s1) (h.oldS s2)) hr13) rfl rfl rfl rfl ?_
                  intro w17 S15 cs6 h
                  obtain ⟨p13, k13, p14, k14, rfl, -, -⟩ := open_TLatchSystem (h.own 0 rfl)
                  obtain ⟨r16, hr14, hF⟩ := bindS hF
                  obtain ⟨r17, r18⟩ := r16
                  refine r_call (r17, r18) h call23 (impl_BorrowedTimes_ok (h.own 0 rfl) hr14) rfl rfl rfl rfl ?_
                  intro w18 S16 us5 hv3 hr15
                  obtain ⟨S17, S18, p15, k15, us6, rfl, hv3, hr15⟩ := hv3.consL hr15
                  obtain ⟨rfl, h⟩ := hv3.lastI hr15
                  refine r_p tabOk rfl rfl ?_
                  refine r_p tabOk rfl rfl ?_
                  refine r_p tabOk rfl rfl ?_
                  refine r_p tabOk rfl rfl ?_
                  refine r_p tabOk rfl rfl ?_
                  refine r_nil ?_
                  refine r_seq ?_
                  refine r_seq ?_
                  obtain ⟨KF1, hKF1, o3, hF, hK1⟩ := bindE hF
                  refine r_cut (fun e w' => ∃ (b3 : Bool), KF1 b3 = some r ∧ e = [(7, .slice p8 r8.length k8), (10, .int .i64 r13), (87, .bool b3)] ∧ SH w w' [Ch.own S8 (x3 : List Int) [.slice p8 r8.length k8]]) ?_ ?_
                  · refine r_region ?_
                    refine r_p tabOk rfl rfl ?_
                    refine r_p tabOk rfl rfl ?_
                    obtain ⟨r20, hr17, hF⟩ := bindS hF
                    refine r_callB r20 h call17 (laws_eqInt64S_ok (h.own 0 rfl) (h.own 3 rfl) hr17) rfl rfl rfl rfl ?_
                    intro w20 h
                    refine r_p tabOk rfl rfl ?_
                    refine r_p tabOk rfl rfl ?_
                    by_cases hc10 : (!r20) = true
                    · replace hF := bifT hc10 hF
                      refine r_setT hc10 (t := 83) rfl ?_
                      refine r_unwanted rfl ?_ (fun _ hd => by cases hd; rfl)
                      refine r_unwanted rfl ?_ (fun _ hd => by cases hd; rfl)
                      refine r_unwanted rfl ?_ (fun _ hd => by cases hd; rfl)
                      refine r_p tabOk rfl rfl ?_
                      refine r_nil ?_
                      replace h := h.pick [2] rfl
                      obtain rfl := someI hF
                      exact r_cutgoal [(7, _), (10, _), (87, _)] ⟨rfl, rfl, rfl, trivial⟩ ⟨_, hK1, rfl, h⟩
                    · replace hc10 := Bool.eq_false_iff.2 hc10
                      replace hF := bifF hc10 hF
                      refine r_setF hc10 (t := 83) rfl ?_
                      refine r_wanted rfl ?_
                      refine r_p tabOk rfl rfl ?_
                      refine r_wanted rfl ?_
                      refine r_p tabOk rfl rfl ?_
                      refine r_wanted rfl ?_
                      refine r_p tabOk rfl rfl ?_
                      refine r_p tabOk rfl rfl ?_
                      refine r_nil ?_
                      replace h := h.pick [2] rfl
                      obtain rfl := someI hF
                      exact r_cutgoal [(7, _), (10, _), (87, _)] ⟨rfl, rfl, rfl, trivial⟩ ⟨_, hK1, rfl, h⟩
                  · rintro e1 w21 ⟨b3, hF, rfl, h⟩
                    subst hKF1
                    refine r_cond rfl (fun hc7 => ?_) (fun hc7 => ?_)
                    · replace hF := bifT hc7 hF
                      refine r_seq ?_
                      refine r_region ?_
                      refine r_p tabOk rfl rfl ?_
                      refine r_nil ?_
                      obtain rfl := someI hF
                      exact r_retV tabOk (ρ := Bool) [_] h ⟨rfl, trivial⟩ (vs_bool _ _)
                    · replace hF := bifF hc7 hF
                      refine r_skip ?_
                      refine r_seq ?_
                      refine r_region ?_
                      refine r_p tabOk rfl rfl ?_
                      refine r_nil ?_
                      refine r_seq ?_
                      refine r_region ?_
                      refine r_p tabOk rfl rfl ?_
                      refine r_p tabOk rfl rfl ?_
                      obtain ⟨r19, hr16, hF⟩ := bindS hF
                      refine r_callI r19 h call21 (laws_heldInt64S_ok (h.own 0 rfl) hr16) rfl rfl rfl rfl ?_
                      intro w19 h
                      refine r_p tabOk rfl rfl ?_
                      refine r_nil ?_
                      refine r_seq ?_
                      refine r_seq ?_
                      refine r_region ?_
                      refine r_p tabOk rfl rfl ?_
                      refine r_p tabOk rfl rfl ?_
                      refine r_nil ?_
                      refine r_cond rfl (fun hc8 => ?_) (fun hc8 => ?_)
                      · replace hF := bifT hc8 hF
                        refine r_seq ?_
                        refine r_region ?_
                        refine r_p tabOk rfl rfl ?_
                        refine r_nil ?_
                        obtain rfl := someI hF
                        exact r_retV tabOk (ρ := Bool) [_] h ⟨rfl, trivial⟩ (vs_bool _ _)
                      · replace hF := bifF hc8 hF
                        refine r_skip ?_
                        refine r_seq ?_
                        refine r_seq ?_
                        refine r_region ?_
                        refine r_p tabOk rfl rfl ?_
                        refine r_p tabOk rfl rfl ?_
                        refine r_p tabOk rfl rfl ?_
                        refine r_nil ?_
                        refine r_cond rfl (fun hc9 => ?_) (fun hc9 => ?_)
                        · replace hF := bifT hc9 hF
                          refine r_seq ?_
                          refine r_region ?_
                          refine r_p tabOk rfl rfl ?_
                          refine r_nil ?_
                          obtain rfl := someI hF
                          exact r_retV tabOk (ρ := Bool) [_] h ⟨rfl, trivial⟩ (vs_bool _ _)
                        · replace hF := bifF hc9 hF
                          refine r_skip ?_
                          refine r_seq ?_
                          refine r_region ?_
                          refine r_p tabOk rfl rfl ?_
                          refine r_nil ?_
                          obtain rfl := someI hF
                          exact r_retV tabOk (ρ := Bool) [_] h ⟨rfl, trivial⟩ (vs_bool _ _)

def spec_l18Slacks_L1 (s : TLatchSystem) (r1 : (List Int)) : Nat → (List Int) → Int → Option ((List Int) × Int)
  | 0, _, _ => none
  | n + 1, x1, i1 =>
    bif decide (i1 < (r1.length : Int)) then
      (idx s.Latches i1).bind fun y1 =>
      (idx x1 i1).bind fun y2 =>
      (idx x1 i1).bind fun y3 =>
      spec_l18Slacks_L1 s r1 n (setS x1 i1 (W64 (y1.Close - y2))) (W64 (i1 + 1))
    else
      some (x1, i1)

def spec_l18Slacks (n : Nat) (s : TLatchSystem) (times : (List Int)) : Option (List Int) :=
  (spec_l18Arrivals n s times).bind fun r1 =>
  (spec_l18Slacks_L1 s r1 n r1 0).bind fun o => match o with
  | (x1, i1) =>
    some x1

theorem spec_l18Slacks_ok {n : Nat} {w : World} {s : TLatchSystem} {times : (List Int)} {cs1 : List Value} (ha1 : GoT.R w (old w) s cs1) {cs2 : List Value} (ha2 : GoT.R w (old w) times cs2) {r : (List Int)} (hF : spec_l18Slacks n s times = some r) : RetV Try.prog 41 [GoT.v TLatchSystem cs1, GoT.v (List Int) cs2] w r := by
  obtain ⟨p1, k1, p2, k2, rfl, s1, s2⟩ := open_TLatchSystem ha1
  obtain ⟨p3, k3, rfl, s3⟩ := ha2
  refine retV_of_run Try.func41 rfl (m := 31) rfl rfl (fun h => ?_)
  rw [spec_l18Slacks] at hF
  refine r_seq ?_
  refine r_region ?_
  refine r_box h rfl rfl ?_
  intro w1 bb1 h
  refine r_p tabOk rfl rfl ?_
  refine r_nil ?_
  refine r_seq ?_
  refine r_region ?_
  refine r_v (v_ld tabOk (h.box 0 rfl) (j := 0) rfl rfl rfl) rfl ?_
  refine r_p tabOk rfl rfl ?_
  obtain ⟨r1, hr1, hF⟩ := bindS hF
  refine r_callL r1 h call33 (spec_l18Arrivals_ok (h.old ha1) ⟨_, _, rfl, (h.oldS s3)⟩ hr1) rfl rfl rfl rfl ?_
  intro w2 S1 p4 k4 h
  refine r_p tabOk rfl rfl ?_
  refine r_nil ?_
  refine r_seq ?_
  refine r_seq ?_
  refine r_region ?_
  refine r_p tabOk rfl rfl ?_
  refine r_nil ?_
  obtain ⟨o1, hF, hK1⟩ := bindS hF
  refine r_block ?_
  refine r_sub [(2, _), (5, _), (6, _)] ⟨rfl, rfl, rfl, trivial⟩ ?_
  refine r_loop (fun m e w' => ∃ (x1 : (List Int)) (i1 : Int), spec_l18Slacks_L1 s r1 m x1 i1 = some o1 ∧ e = [(2, .pointer (some ⟨bb1, 0, none⟩)), (5, .slice p4 r1.length k4), (6, .int .i64 i1)] ∧ SH w w' [Ch.own S1 (x1 : List Int) [.slice p4 r1.length k4], Ch.box bb1 [.slice p1 s.Latches.length k1, .slice p2 s.Links.length k2] 41]) n ⟨_, _, hF, rfl, h⟩ ?_
  rintro m1 e1 w3 ⟨x1, i1, hF, rfl, h⟩
  rcases m1 with _ | m1
  · rw [spec_l18Slacks_L1] at hF
    cases hF
  rw [spec_l18Slacks_L1] at hF
  refine r_seq ?_
  refine r_seq ?_
  refine r_region ?_
  refine r_p tabOk rfl rfl ?_
  refine r_p tabOk rfl rfl ?_
  refine r_p tabOk rfl rfl ?_
  refine r_p tabOk rfl rfl ?_
  refine r_nil ?_
  refine r_cond rfl (fun hc1 => ?_) (fun hc1 => ?_)
  · replace hF := bifT hc1 hF
    refine r_skip ?_
    refine r_seq ?_
    refine r_block ?_
    obtain ⟨y1, hy1, hF⟩ := bindS hF
    obtain ⟨y2, hy2, hF⟩ := bindS hF
    obtain ⟨y3, hy3, hF⟩ := bindS hF
    refine r_any [14] (fun w' => SH w w' [Ch.own S1 (x1 : List Int) [.slice p4 r1.length k4], Ch.box bb1 [.slice p1 s.Latches.length k1, .slice p2 s.Links.length k2] 41]) rfl 15 rfl #[false, false, false, false, false, false, false, false, false, false, false, false, false, false, false] (by kernel_rfl) (fun w5 hb => ?_)
    replace h := h.ext hb
    clear hb
    refine a_take 0 rfl #[true, false, false, false, false, false, false, false, false, false, false, false, false, false, false] (by kernel_rfl) (by kernel_rfl) (fun w' hw => v_p tabOk rfl w') (h.pick [0, 1] rfl) rfl ?_
    refine a_take 1 rfl #[true, true, false, false, false, false, false, false, false, false, false, false, false, false, false] (by kernel_rfl) (by kernel_rfl) (fun w' hw => v_p tabOk rfl w') (h.pick [0, 1] rfl) rfl ?_
    refine a_take 2 rfl #[true, true, true, false, false, false, false, false, false, false, false, false, false, false, false] (by kernel_rfl) (by kernel_rfl) (fun w' hw => v_p tabOk rfl w') (h.pick [0, 1] rfl) rfl ?_
    refine a_take 3 rfl #[true, true, true, true, false, false, false, false, false, false, false, false, false, false, false] (by kernel_rfl) (by kernel_rfl) (fun w' hw => v_ld tabOk (hw.box 1 rfl) (j := 0) rfl rfl rfl) (h.pick [0, 1] rfl) rfl ?_
    refine a_take 4 rfl #[true, true, true, true, true, false, false, false, false, false, false, false, false, false, false] (by kernel_rfl) (by kernel_rfl) (fun w' hw => v_p tabOk rfl w') (h.pick [0, 1] rfl) rfl ?_
    have he4 := idx_some hy1
    obtain ⟨b4, o_4, q4, cs6, hp4, hq4, -, hr5, hc5⟩ := s1.at hy1
    obtain rfl := open_TLatch hr5
    refine a_take 5 rfl #[true, true, true, true, true, true, false, false, false, false, false, false, false, false, false] (by kernel_rfl) (by kernel_rfl) (fun w' hw => v_ix tabOk hp4 hq4 ⟨he4.1, he4.2.1⟩ rfl rfl rfl rfl rfl rfl) (h.pick [0, 1] rfl) rfl ?_
    refine a_take 6 rfl #[true, true, true, true, true, true, true, false, false, false, false, false, false, false, false] (by kernel_rfl) (by kernel_rfl) (fun w' hw => v_p tabOk rfl w') (h.pick [0, 1] rfl) rfl ?_
    refine a_take 7 rfl #[true, true, true, true, true, true, true, true, false, false, false, false, false, false, false] (by kernel_rfl) (by kernel_rfl) (fun w' hw => v_ld tabOk (hc5.below hw.below) (j := 1) rfl rfl rfl) (h.pick [0, 1] rfl) rfl ?_
    refine a_take 8 rfl #[true, true, true, true, true, true, true, true, true, false, false, false, false, false, false] (by kernel_rfl) (by kernel_rfl) (fun w' hw => v_p tabOk rfl w') (h.pick [0, 1] rfl) rfl ?_
    refine a_take 9 rfl #[true, true, true, true, true, true, true, true, true, true, false, false, false, false, false] (by kernel_rfl) (by kernel_rfl) (fun w' hw => v_p tabOk rfl w') (h.pick [0, 1] rfl) rfl ?_
    have he5 := idx_some hy2
    obtain ⟨b5, o_5, q5, cs7, hp5, hq5, -, hr6, hc6⟩ := (h.sl 0 rfl).1.at hy2
    obtain rfl := hr6
    refine a_take 10 rfl #[true, true, true, true, true, true, true, true, true, true, true, false, false, false, false] (by kernel_rfl) (by kernel_rfl) (fun w' hw => v_ix tabOk hp5 hq5 ⟨he5.1, lt_ln he5.2.1 (h.sl 0 rfl).2⟩ rfl rfl rfl rfl rfl rfl) (h.pick [0, 1] rfl) rfl ?_
    refine a_take 11 rfl #[true, true, true, true, true, true, true, true, true, true, true, true, false, false, false] (by kernel_rfl) (by kernel_rfl) (fun w' hw => v_ld tabOk (own_cells (w1 := w) (S1 := fun _ => False) hw 0 rfl hy2 hp5 hq5 rfl) (j := 0) rfl rfl rfl) (h.pick [0, 1] rfl) rfl ?_
    refine a_take 12 rfl #[true, true, true, true, true, true, true, true, true, true, true, true, true, false, false] (by kernel_rfl) (by kernel_rfl) (fun w' hw => v_p tabOk rfl w') (h.pick [0, 1] rfl) rfl ?_
    have he6 := idx_some hy3
    obtain ⟨b6, o_6, q6, cs8, hp6, hq6, -, hr7, hc7⟩ := (h.sl 0 rfl).1.at hy3
    obtain rfl := hr7
    refine a_take 13 rfl #[true, true, true, true, true, true, true, true, true, true, true, true, true, true, false] (by kernel_rfl) (by kernel_rfl) (fun w' hw => v_ix tabOk hp6 hq6 ⟨he6.1, lt_ln he6.2.1 (h.sl 0 rfl).2⟩ rfl rfl rfl rfl rfl rfl) (h.pick [0, 1] rfl) rfl ?_
    refine a_only 14 rfl #[true, true, true, true, true, true, true, true, true, true, true, true, true, true, true] (by kernel_rfl) (by kernel_rfl) ?_
    refine r_stown tabOk 0 0 (W64 (y1.Close - y2)) h rfl hy3 hp6 hq6 rfl hc7 rfl rfl rfl rfl rfl rfl rfl ?_
    intro w6 h
    refine a_goal (fun hs => absurd (hs 14 (by decide)) (by decide)) ?_
    refine a_done (by kernel_rfl) ?_
    refine r_blk ?_
    refine r_region ?_
    refine r_p tabOk rfl rfl ?_
    refine r_p tabOk rfl rfl ?_
    refine r_p tabOk rfl rfl ?_
    refine r_nil ?_
    exact r_back m1 [(2, _), (5, _), (6, _)] (Nat.lt_succ_self m1) ⟨rfl, rfl, rfl, trivial⟩ ⟨_, _, hF, rfl, h⟩
  · replace hF := bifF hc1 hF
    refine r_exit rfl ?_
    obtain rfl := someI hF; replace hF := hK1
    refine r_seq ?_
    refine r_region ?_
    refine r_p tabOk rfl rfl ?_
    refine r_p tabOk rfl rfl ?_
    refine r_nil ?_
    obtain rfl := someI hF
    exact r_retV tabOk (ρ := (List Int)) [GoT.v (List Int) [.slice p4 r1.length k4]] h ⟨rfl, trivial⟩ (PV.done h (pv_one (po_own 0 h rfl)))

def spec_LatchSlacks (n : Nat) (s : TLatchSystem) : Option ((List Int) × Int) :=
  (spec_l18Code n s).bind fun o => match o with
    | (r2, r3) =>
      bif (r3 != 0) then
        some (([] : List Int), r3)
      else
        (spec_l18Slacks n s r2).bind fun r4 =>
        some (r4, 0)

theorem spec_LatchSlacks_ok {n : Nat} {w : World} {s : TLatchSystem} {cs1 : List Value} (ha1 : GoT.R w (old w) s cs1) {r : ((List Int) × Int)} (hF : spec_LatchSlacks n s = some r) : RetV Try.prog 24 [GoT.v TLatchSystem cs1] w r := by
  obtain ⟨p1, k1, p2, k2, rfl, s1, s2⟩ := open_TLatchSystem ha1
  refine retV_of_run Try.func24 rfl (m := 18) rfl rfl (fun h => ?_)
  rw [spec_LatchSlacks] at hF
  refine r_seq ?_
  refine r_region ?_
  refine r_box h rfl rfl ?_
  intro w1 bb1 h
  refine r_p tabOk rfl rfl ?_
  refine r_p tabOk rfl rfl ?_
  refine r_nil ?_
  refine r_seq ?_
  refine r_region ?_
  refine r_v (v_ld tabOk (h.box 0 rfl) (j := 0) rfl rfl rfl) rfl ?_
  obtain ⟨r1, hr1, hF⟩ := bindS hF
  obtain ⟨r2, r3⟩ := r1
  refine r_call (r2, r3) h call32 (spec_l18Code_ok (h.old ha1) hr1) rfl rfl rfl rfl ?_
  intro w2 S1 us1 hv1 hr2
  obtain ⟨S2, S3, p3, k3, us2, rfl, hv1, hr2⟩ := hv1.consL hr2
  obtain ⟨rfl, h⟩ := hv1.lastI hr2
  refine r_p tabOk rfl rfl ?_
  refine r_p tabOk rfl rfl ?_
  refine r_p tabOk rfl rfl ?_
  refine r_p tabOk rfl rfl ?_
  refine r_p tabOk rfl rfl ?_
  refine r_nil ?_
  refine r_seq ?_
  refine r_seq ?_
  refine r_region ?_
  refine r_p tabOk rfl rfl ?_
  refine r_p tabOk rfl rfl ?_
  refine r_nil ?_
  refine r_cond rfl (fun hc1 => ?_) (fun hc1 => ?_)
  · replace hF := bifT hc1 hF
    refine r_seq ?_
    refine r_region ?_
    refine r_bslice tabOk [] _ ([] : List Int) h rfl rfl rfl rfl rfl rfl rfl rfl rfl trivial rfl ?_
    intro w3 p4 S5 h
    refine r_p tabOk rfl rfl ?_
    refine r_p tabOk rfl rfl ?_
    refine r_p tabOk rfl rfl ?_
    refine r_nil ?_
    obtain rfl := someI hF
    exact r_retV tabOk (ρ := ((List Int) × Int)) [GoT.v (List Int) [.slice p4 0 0], GoT.v Int [.int .i64 r3]] h ⟨rfl, rfl, trivial⟩ (PV.done h (pv_cons h (po_own 0 h rfl) (pv_one (po_flat (S := fun _ => False) rfl)) (by rfl)))
  · replace hF := bifF hc1 hF
    refine r_skip ?_
    refine r_seq ?_
    refine r_region ?_
    refine r_v (v_ld tabOk (h.box 1 rfl) (j := 0) rfl rfl rfl) rfl ?_
    refine r_p tabOk rfl rfl ?_
    obtain ⟨r4, hr3, hF⟩ := bindS hF
    refine r_callL r4 h call41 (spec_l18Slacks_ok (h.old ha1) (h.own 0 rfl) hr3) rfl rfl rfl rfl ?_
    intro w4 S6 p5 k4 h
    refine r_p tabOk rfl rfl ?_
    refine r_p tabOk rfl rfl ?_
    refine r_nil ?_
    obtain rfl := someI hF
    exact r_retV tabOk (ρ := ((List Int) × Int)) [GoT.v (List Int) [.slice p5 r4.length k4], GoT.v Int [.int .i64 0]] h ⟨rfl, rfl, trivial⟩ (PV.done h (pv_cons h (po_own 0 h rfl) (pv_one (po_flat (S := fun _ => False) rfl)) (by rfl)))

def impl_LatchSlacks_L1 (s : TLatchSystem) (r3 : (List Int)) : Nat → (List Int) → Int → Option ((List Int) × Int)
  | 0, _, _ => none
  | n + 1, x1, i1 =>
    bif decide (i1 < (r3.length : Int)) then
      (idx s.Latches i1).bind fun y1 =>
      (idx x1 i1).bind fun y2 =>
      (idx x1 i1).bind fun y3 =>
      impl_LatchSlacks_L1 s r3 n (setS x1 i1 (W64 (y1.Close - y2))) (W64 (i1 + 1))
    else
      some (x1, i1)

def impl_LatchSlacks (n : Nat) (s : TLatchSystem) : Option ((List Int) × Int) :=
  (impl_latchTimes n s).bind fun o => match o with
    | (r2, r3, r4) =>
      (impl_LatchSlacks_L1 s r3 n r3 0).bind fun o => match o with
      | (x1, i1) =>
        some (x1, r4)

theorem impl_LatchSlacks_ok {n : Nat} {w : World} {s : TLatchSystem} {cs1 : List Value} (ha1 : GoT.R w (old w) s cs1) {r : ((List Int) × Int)} (hF : impl_LatchSlacks n s = some r) : RetV Try.prog 25 [GoT.v TLatchSystem cs1] w r := by
  obtain ⟨p1, k1, p2, k2, rfl, s1, s2⟩ := open_TLatchSystem ha1
  refine retV_of_run Try.func25 rfl (m := 36) rfl rfl (fun h => ?_)
  rw [impl_LatchSlacks] at hF
  refine r_seq ?_
  refine r_region ?_
  refine r_box h rfl rfl ?_
  intro w1 bb1 h
  refine r_p tabOk rfl rfl ?_
  refine r_p tabOk rfl rfl ?_
  refine r_nil ?_
  refine r_seq ?_
  refine r_region ?_
  refine r_v (v_ld tabOk (h.box 0 rfl) (j := 0) rfl rfl rfl) rfl ?_
  obtain ⟨r1, hr1, hF⟩ := bindS hF
  obtain ⟨r2, r3, r4⟩ := r1
  refine r_call (r2, r3, r4) h call36 (impl_latchTimes_ok (h.old ha1) hr1) rfl rfl rfl rfl ?_
  intro w2 S1 us1 hv1 hr2
  obtain ⟨S2, S3, p3, k3, us2, rfl, hv1, hr2⟩ := hv1.consL hr2
  obtain ⟨S4, S5, p4, k4, us3, rfl, hv1, hr2⟩ := hv1.consL hr2
  obtain ⟨rfl, h⟩ := hv1.lastI hr2
  refine r_p tabOk rfl rfl ?_
  refine r_p tabOk rfl rfl ?_
  refine r_p tabOk rfl rfl ?_
  refine r_p tabOk rfl rfl ?_
  refine r_p tabOk rfl rfl ?_
  refine r_p tabOk rfl rfl ?_
  refine r_p tabOk rfl rfl ?_
  refine r_nil ?_
  refine r_seq ?_
  refine r_seq ?_
  refine r_region ?_
  refine r_p tabOk rfl rfl ?_
  refine r_p tabOk rfl rfl ?_
  refine r_p tabOk rfl rfl ?_
  refine r_nil ?_
  obtain ⟨o1, hF, hK1⟩ := bindS hF
  refine r_block ?_
  replace h := h.pick [0, 2] rfl
  refine r_sub [(1, _), (5, _), (6, _), (15, _), (16, _)] ⟨rfl, rfl, rfl, rfl, rfl, trivial⟩ ?_
  refine r_loop (fun m e w' => ∃ (x1 : (List Int)) (i1 : Int), impl_LatchSlacks_L1 s r3 m x1 i1 = some o1 ∧ e = [(1, .pointer (some ⟨bb1, 0, none⟩)), (5, .slice p4 r3.length k4), (6, .int .i64 r4), (15, .int .i64 (r3.length : Int)), (16, .int .i64 i1)] ∧ SH w w' [Ch.own S4 (x1 : List Int) [.slice p4 r3.length k4], Ch.box bb1 [.slice p1 s.Latches.length k1, .slice p2 s.Links.length k2] 41]) n ⟨_, _, hF, rfl, h⟩ ?_
  rintro m1 e1 w3 ⟨x1, i1, hF, rfl, h⟩
  rcases m1 with _ | m1
  · rw [impl_LatchSlacks_L1] at hF
    cases hF
  rw [impl_LatchSlacks_L1] at hF
  refine r_seq ?_
  refine r_region ?_
  refine r_p tabOk rfl rfl ?_
  refine r_nil ?_
  refine r_seq ?_
  refine r_cond rfl (fun hc1 => ?_) (fun hc1 => ?_)
  · replace hF := bifT hc1 hF
    refine r_skip ?_
    refine r_seq ?_
    refine r_block ?_
    refine r_seq ?_
    refine r_region ?_
    refine r_p tabOk rfl rfl ?_
    refine r_p tabOk rfl rfl ?_
    refine r_nil ?_
    obtain ⟨y1, hy1, hF⟩ := bindS hF
    obtain ⟨y2, hy2, hF⟩ := bindS hF
    obtain ⟨y3, hy3, hF⟩ := bindS hF
    refine r_any [14] (fun w' => SH w w' [Ch.own S4 (x1 : List Int) [.slice p4 r3.length k4], Ch.box bb1 [.slice p1 s.Latches.length k1, .slice p2 s.Links.length k2] 41]) rfl 15 rfl #[false, false, false, false, false, false, false, false, false, false, false, false, false, false, false] (by kernel_rfl) (fun w5 hb => ?_)
    replace h := h.ext hb
    clear hb
    refine a_take 0 rfl #[true, false, false, false, false, false, false, false, false, false, false, false, false, false, false] (by kernel_rfl) (by kernel_rfl) (fun w' hw => v_p tabOk rfl w') (h.pick [0, 1] rfl) rfl ?_
    refine a_take 1 rfl #[true, true, false, false, false, false, false, false, false, false, false, false, false, false, false] (by kernel_rfl) (by kernel_rfl) (fun w' hw => v_p tabOk rfl w') (h.pick [0, 1] rfl) rfl ?_
    refine a_take 2 rfl #[true, true, true, false, false, false, false, false, false, false, false, false, false, false, false] (by kernel_rfl) (by kernel_rfl) (fun w' hw => v_p tabOk rfl w') (h.pick [0, 1] rfl) rfl ?_
    refine a_take 3 rfl #[true, true, true, true, false, false, false, false, false, false, false, false, false, false, false] (by kernel_rfl) (by kernel_rfl) (fun w' hw => v_ld tabOk (hw.box 1 rfl) (j := 0) rfl rfl rfl) (h.pick [0, 1] rfl) rfl ?_
    refine a_take 4 rfl #[true, true, true, true, true, false, false, false, false, false, false, false, false, false, false] (by kernel_rfl) (by kernel_rfl) (fun w' hw => v_p tabOk rfl w') (h.pick [0, 1] rfl) rfl ?_
    have he4 := idx_some hy1
    obtain ⟨b4, o_4, q4, cs5, hp4, hq4, -, hr6, hc5⟩ := s1.at hy1
    obtain rfl := open_TLatch hr6
    refine a_take 5 rfl #[true, true, true, true, true, true, false, false, false, false, false, false, false, false, false] (by kernel_rfl) (by kernel_rfl) (fun w' hw => v_ix tabOk hp4 hq4 ⟨he4.1, he4.2.1⟩ rfl rfl rfl rfl rfl rfl) (h.pick [0, 1] rfl) rfl ?_
    refine a_take 6 rfl #[true, true, true, true, true, true, true, false, false, false, false, false, false, false, false] (by kernel_rfl) (by kernel_rfl) (fun w' hw => v_p tabOk rfl w') (h.pick [0, 1] rfl) rfl ?_
    refine a_take 7 rfl #[true, true, true, true, true, true, true, true, false, false, false, false, false, false, false] (by kernel_rfl) (by kernel_rfl) (fun w' hw => v_ld tabOk (hc5.below hw.below) (j := 1) rfl rfl rfl) (h.pick [0, 1] rfl) rfl ?_
    refine a_take 8 rfl #[true, true, true, true, true, true, true, true, true, false, false, false, false, false, false] (by kernel_rfl) (by kernel_rfl) (fun w' hw => v_p tabOk rfl w') (h.pick [0, 1] rfl) rfl ?_
    refine a_take 9 rfl #[true, true, true, true, true, true, true, true, true, true, false, false, false, false, false] (by kernel_rfl) (by kernel_rfl) (fun w' hw => v_p tabOk rfl w') (h.pick [0, 1] rfl) rfl ?_
    have he5 := idx_some hy2
    obtain ⟨b5, o_5, q5, cs6, hp5, hq5, -, hr7, hc6⟩ := (h.sl 0 rfl).1.at hy2
    obtain rfl := hr7
    refine a_take 10 rfl #[true, true, true, true, true, true, true, true, true, true, true, false, false, false, false] (by kernel_rfl) (by kernel_rfl) (fun w' hw => v_ix tabOk hp5 hq5 ⟨he5.1, lt_ln he5.2.1 (h.sl 0 rfl).2⟩ rfl rfl rfl rfl rfl rfl) (h.pick [0, 1] rfl) rfl ?_
    refine a_take 11 rfl #[true, true, true, true, true, true, true, true, true, true, true, true, false, false, false] (by kernel_rfl) (by kernel_rfl) (fun w' hw => v_ld tabOk (own_cells (w1 := w) (S1 := fun _ => False) hw 0 rfl hy2 hp5 hq5 rfl) (j := 0) rfl rfl rfl) (h.pick [0, 1] rfl) rfl ?_
    refine a_take 12 rfl #[true, true, true, true, true, true, true, true, true, true, true, true, true, false, false] (by kernel_rfl) (by kernel_rfl) (fun w' hw => v_p tabOk rfl w') (h.pick [0, 1] rfl) rfl ?_
    have he6 := idx_some hy3
    obtain ⟨b6, o_6, q6, cs7, hp6, hq6, -, hr8, hc7⟩ := (h.sl 0 rfl).1.at hy3
    obtain rfl := hr8
    refine a_take 13 rfl #[true, true, true, true, true, true, true, true, true, true, true, true, true, true, false] (by kernel_rfl) (by kernel_rfl) (fun w' hw => v_ix tabOk hp6 hq6 ⟨he6.1, lt_ln he6.2.1 (h.sl 0 rfl).2⟩ rfl rfl rfl rfl rfl rfl) (h.pick [0, 1] rfl) rfl ?_
    refine a_only 14 rfl #[true, true, true, true, true, true, true, true, true, true, true, true, true, true, true] (by kernel_rfl) (by kernel_rfl) ?_
    refine r_stown tabOk 0 0 (W64 (y1.Close - y2)) h rfl hy3 hp6 hq6 rfl hc7 rfl rfl rfl rfl rfl rfl rfl ?_
    intro w6 h
    refine a_goal (fun hs => absurd (hs 14 (by decide)) (by decide)) ?_
    refine a_done (by kernel_rfl) ?_
    refine r_blk ?_
    refine r_region ?_
    refine r_p tabOk rfl rfl ?_
    refine r_p tabOk rfl rfl ?_
    refine r_nil ?_
    exact r_back m1 [(1, _), (5, _), (6, _), (15, _), (16, _)] (Nat.lt_succ_self m1) ⟨rfl, rfl, rfl, rfl, rfl, trivial⟩ ⟨_, _, hF, rfl, h⟩
  · replace hF := bifF hc1 hF
    refine r_exit rfl ?_
    obtain rfl := someI hF; replace hF := hK1
    refine r_seq ?_
    refine r_region ?_
    refine r_p tabOk rfl rfl ?_
    refine r_p tabOk rfl rfl ?_
    refine r_p tabOk rfl rfl ?_
    refine r_p tabOk rfl rfl ?_
    refine r_nil ?_
    obtain rfl := someI hF
    exact r_retV tabOk (ρ := ((List Int) × Int)) [GoT.v (List Int) [.slice p4 r3.length k4], GoT.v Int [.int .i64 r4]] h ⟨rfl, rfl, trivial⟩ (PV.done h (pv_cons h (po_own 0 h rfl) (pv_one (po_flat (S := fun _ => False) rfl)) (by rfl)))

def laws_FnExactLatchSlacks (n : Nat) (a_0 : TLatchSystem) : Option Bool :=
  (laws_szLatchSystem n a_0 1048576).bind fun r1 =>
  bif decide (r1 < 0) then
    some true
  else
    (laws_toLatchSystem n a_0).bind fun r2 =>
    (spec_LatchSlacks n r2).bind fun o => match o with
      | (r4, r5) =>
        (laws_toLatchSystem n a_0).bind fun r6 =>
        (impl_LatchSlacks n r6).bind fun o => match o with
          | (r8, r9) =>
            (
              (laws_eqInt64S n r8 r4).bind fun r22 =>
              bif (!r22) then
                some true
              else
                some (r9 != r5)).bind fun b1 =>
            bif b1 then
              some false
            else
              (laws_toLatchSystem n a_0).bind fun r10 =>
              (laws_eqLatchSystem n r6 r10).bind fun r11 =>
              bif (!r11) then
                some false
              else
                (laws_markLatchSystem n (⟨r6.Latches, r6.Links⟩ : TLatchSystem) 1).bind fun o => match o with
                  | (r12, x1, x2) =>
                    (
                      bif decide (r12 < 0) then
                        some true
                      else
                        (laws_eqInt64S n r8 r4).bind fun r21 =>
                        bif (!r21) then
                          some true
                        else
                          some (r9 != r5)).bind fun b2 =>
                    bif b2 then
                      some false
                    else
                      (laws_markInt64S n r8 1).bind fun o => match o with
                        | (r13, x3) =>
                          (laws_heldInt64S n x3 1).bind fun r14 =>
                          bif decide (r14 < 0) then
                            some false
                          else
                            bif (r14 != r13) then
                              some false
                            else
                              (laws_toLatchSystem n (⟨a_0.Latches, a_0.Links⟩ : TLatchSystem)).bind fun r15 =>
                              (impl_LatchSlacks n r15).bind fun o => match o with
                                | (r17, r18) =>
                                  (
                                    (laws_eqInt64S n r17 r4).bind fun r20 =>
                                    bif (!r20) then
                                      some true
                                    else
                                      some (r18 != r5)).bind fun b3 =>
                                  bif b3 then
                                    some false
                                  else
                                    (laws_heldInt64S n x3 1).bind fun r19 =>
                                    bif decide (r19 < 0) then
                                      some false
                                    else
                                      bif (r19 != r13) then
                                        some false
                                      else
                                        some true

theorem laws_FnExactLatchSlacks_ok {n : Nat} {w : World} {a_0 : TLatchSystem} {cs1 : List Value} (ha1 : GoT.R w (old w) a_0 cs1) {r : Bool} (hF : laws_FnExactLatchSlacks n a_0 = some r) : RetV Try.prog 6 [GoT.v TLatchSystem cs1] w r := by
  obtain ⟨p1, k1, p2, k2, rfl, s1, s2⟩ := open_TLatchSystem ha1
  refine retV_of_run Try.func6 rfl (m := 96) rfl rfl (fun h => ?_)
  rw [laws_FnExactLatchSlacks] at hF
  refine r_seq ?_
  refine r_region ?_
  refine r_box h rfl rfl ?_
  intro w1 bb1 h
  refine r_p tabOk rfl rfl ?_
  refine r_nil ?_
  refine r_seq ?_
  refine r_region ?_
  refine r_p tabOk rfl rfl ?_
  refine r_nil ?_
  refine r_seq ?_
  refine r_region ?_
  refine r_v (v_ld tabOk (h.box 0 rfl) (j := 0) rfl rfl rfl) rfl ?_
  refine r_p tabOk rfl rfl ?_
  obtain ⟨r1, hr1, hF⟩ := bindS hF
  refine r_callI r1 h call13 (laws_szLatchSystem_ok (h.old ha1) hr1) rfl rfl rfl rfl ?_
  intro w2 h
  refine r_p tabOk rfl rfl ?_
  refine r_nil ?_
  refine r_seq ?_
  refine r_seq ?_
  refine r_region ?_
  refine r_p tabOk rfl rfl ?_
  refine r_p tabOk rfl rfl ?_
  refine r_nil ?_
  refine r_cond rfl (fun hc1 => ?_) (fun hc1 => ?_)
  · replace hF := bifT hc1 hF
    refine r_seq ?_
    refine r_region ?_
    refine r_p tabOk rfl rfl ?_
    refine r_nil ?_
    obtain rfl := someI hF
    exact r_retV tabOk (ρ := Bool) [_] h ⟨rfl, trivial⟩ (vs_bool _ _)
  · replace hF := bifF hc1 hF
    refine r_skip ?_
    refine r_seq ?_
    refine r_region ?_
    refine r_v (v_ld tabOk (h.box 0 rfl) (j := 0) rfl rfl rfl) rfl ?_
    obtain ⟨r2, hr2, hF⟩ := bindS hF
    refine r_callO r2 h call15 (laws_toLatchSystem_ok (h.old ha1) hr2) rfl rfl rfl rfl ?_
    intro w3 S1 cs2 h
    obtain ⟨p3, k3, p4, k4, rfl, -, -⟩ := open_TLatchSystem (h.own 0 rfl)
    obtain ⟨r3, hr3, hF⟩ := bindS hF
    obtain ⟨r4, r5⟩ := r3
    refine r_call (r4, r5) h call24 (spec_LatchSlacks_ok (h.own 0 rfl) hr3) rfl rfl rfl rfl ?_
    intro w4 S2 us1 hv1 hr4
    obtain ⟨S3, S4, p5, k5, us2, rfl, hv1, hr4⟩ := hv1.consL hr4
    obtain ⟨rfl, h⟩ := hv1.lastI hr4
    refine r_p tabOk rfl rfl ?_
    refine r_p tabOk rfl rfl ?_
    refine r_p tabOk rfl rfl ?_
    refine r_p tabOk rfl rfl ?_
    refine r_p tabOk rfl rfl ?_
    refine r_nil ?_
    refine r_seq ?_
    refine r_region ?_
    refine r_v (v_ld tabOk (h.box 2 rfl) (j := 0) rfl rfl rfl) rfl ?_
    obtain ⟨r6, hr5, hF⟩ := bindS hF
    refine r_callO r6 h call15 (laws_toLatchSystem_ok (h.old ha1) hr5) rfl rfl rfl rfl ?_
    intro w5 S6 cs3 h
    obtain ⟨p6, k6, p7, k7, rfl, -, -⟩ := open_TLatchSystem (h.own 0 rfl)
    refine r_alloc tabOk h rfl rfl rfl ?_
    intro w6 bb2 h
    refine r_stbox tabOk 0 h rfl rfl rfl rfl rfl rfl rfl ?_
    intro w7 h
    refine r_nil ?_
    refine r_seq ?_
    refine r_region ?_
    refine r_v (v_ld tabOk (h.box 0 rfl) (j := 0) rfl rfl rfl) rfl ?_
    obtain ⟨r7, hr6, hF⟩ := bindS hF
    obtain ⟨r8, r9⟩ := r7
    refine r_call (r8, r9) h call25 (impl_LatchSlacks_ok (h.own 1 rfl) hr6) rfl rfl rfl rfl ?_
    intro w8 S7 us3 hv2 hr7
    obtain ⟨S8, S9, p8, k8, us4, rfl, hv2, hr7⟩ := hv2.consL hr7
    obtain ⟨rfl, h⟩ := hv2.lastI hr7
    refine r_p tabOk rfl rfl ?_
    refine r_p tabOk rfl rfl ?_
    refine r_p tabOk rfl rfl ?_
    refine r_p tabOk rfl rfl ?_
    refine r_p tabOk rfl rfl ?_
    refine r_nil ?_
    refine r_seq ?_
    refine r_seq ?_
    obtain ⟨KF3, hKF3, o5, hF, hK3⟩ := bindE hF
    refine r_cut (fun e w' => ∃ (b1 : Bool), KF3 b1 = some r ∧ e = [(1, .pointer (some ⟨bb1, 0, none⟩)), (4, .slice p5 r4.length k5), (5, .int .i64 r5), (6, .pointer (some ⟨bb2, 0, none⟩)), (7, .slice p8 r8.length k8), (8, .int .i64 r9), (40, .bool b1)] ∧ SH w w' [Ch.own S8 (r8 : List Int) [.slice p8 r8.length k8], Ch.box bb2 [.slice p6 r6.Latches.length k6, .slice p7 r6.Links.length k7] 41, Ch.own S6 (r6 : TLatchSystem) [.slice p6 r6.Latches.length k6, .slice p7 r6.Links.length k7], Ch.own S3 (r4 : List Int) [.slice p5 r4.length k5], Ch.box bb1 [.slice p1 a_0.Latches.length k1, .slice p2 a_0.Links.length k2] 34]) ?_ ?_
    · refine r_region ?_
      refine r_p tabOk rfl rfl ?_
      refine r_p tabOk rfl rfl ?_
      obtain ⟨r22, hr19, hF⟩ := bindS hF
      refine r_callB r22 h call17 (laws_eqInt64S_ok (h.own 0 rfl) (h.own 3 rfl) hr19) rfl rfl rfl rfl ?_
      intro w24 h
      refine r_p tabOk rfl rfl ?_
      refine r_p tabOk rfl rfl ?_
      by_cases hc13 : (!r22) = true
      · replace hF := bifT hc13 hF
        refine r_setT hc13 (t := 36) rfl ?_
        refine r_unwanted rfl ?_ (fun _ hd => by cases hd; rfl)
        refine r_unwanted rfl ?_ (fun _ hd => by cases hd; rfl)
        refine r_unwanted rfl ?_ (fun _ hd => by cases hd; rfl)
        refine r_p tabOk rfl rfl ?_
        refine r_nil ?_
        replace h := h.pick [0, 1, 2, 3, 5] rfl
        obtain rfl := someI hF
        exact r_cutgoal [(1, _), (4, _), (5, _), (6, _), (7, _), (8, _), (40, _)] ⟨rfl, rfl, rfl, rfl, rfl, rfl, rfl, trivial⟩ ⟨_, hK3, rfl, h⟩
      · replace hc13 := Bool.eq_false_iff.2 hc13
        replace hF := bifF hc13 hF
        refine r_setF hc13 (t := 36) rfl ?_
        refine r_wanted rfl ?_
        refine r_p tabOk rfl rfl ?_
        refine r_wanted rfl ?_
        refine r_p tabOk rfl rfl ?_
        refine r_wanted rfl ?_
        refine r_p tabOk rfl rfl ?_
        refine r_p tabOk rfl rfl ?_
        refine r_nil ?_
        replace h := h.pick [0, 1, 2, 3, 5] rfl
        obtain rfl := someI hF
        exact r_cutgoal [(1, _), (4, _), (5, _), (6, _), (7, _), (8, _), (40, _)] ⟨rfl, rfl, rfl, rfl, rfl, rfl, rfl, trivial⟩ ⟨_, hK3, rfl, h⟩
    · rintro e3 w25 ⟨b1, hF, rfl, h⟩
      subst hKF3
      refine r_cond rfl (fun hc2 => ?_) (fun hc2 => ?_)
      · replace hF := bifT hc2 hF
        refine r_seq ?_
        refine r_region ?_
        refine r_p tabOk rfl rfl ?_
        refine r_nil ?_
        obtain rfl := someI hF
        exact r_retV tabOk (ρ := Bool) [_] h ⟨rfl, trivial⟩ (vs_bool _ _)
      · replace hF := bifF hc2 hF
        refine r_skip ?_
        refine r_seq ?_
        refine r_seq ?_
        obtain ⟨r10, hr8, hF⟩ := bindS hF
        obtain ⟨r11, hr9, hF⟩ := bindS hF
        refine r_any [] (fun w' => SH w w' [Ch.box bb2 [.slice p6 r6.Latches.length k6, .slice p7 r6.Links.length k7] 41, Ch.box bb1 [.slice p1 a_0.Latches.length k1, .slice p2 a_0.Links.length k2] 34]) rfl 5 rfl #[false, false, false, false, false] (by kernel_rfl) (fun w11 hb => ?_)
        replace h := h.ext hb
        clear hb
        refine a_take 0 rfl #[true, false, false, false, false] (by kernel_rfl) (by kernel_rfl) (fun w' hw => v_ld tabOk (hw.box 0 rfl) (j := 0) rfl rfl rfl) (h.pick [1, 4] rfl) rfl ?_
        refine a_take 1 rfl #[true, true, false, false, false] (by kernel_rfl) (by kernel_rfl) (fun w' hw => v_ld tabOk (hw.box 1 rfl) (j := 0) rfl rfl rfl) (h.pick [1, 4] rfl) rfl ?_
        refine a_only 2 rfl #[true, true, true, false, false] (by kernel_rfl) (by kernel_rfl) ?_
        refine r_callO r10 h call15 (laws_toLatchSystem_ok (h.old ha1) hr8) rfl rfl rfl rfl ?_
        intro w12 S12 cs5 h
        obtain ⟨p11, k11, p12, k12, rfl, -, -⟩ := open_TLatchSystem (h.own 0 rfl)
        refine a_goal (fun _ => (h.pick [2, 5] rfl)) ?_
        refine a_only 3 rfl #[true, true, true, true, false] (by kernel_rfl) (by kernel_rfl) ?_
        refine r_callB r11 h call18 (laws_eqLatchSystem_ok (h.own 3 rfl) (h.own 0 rfl) hr9) rfl rfl rfl rfl ?_
        intro w13 h
        refine a_goal (fun _ => (h.pick [2, 5] rfl)) ?_
        refine a_take 4 rfl #[true, true, true, true, true] (by kernel_rfl) (by kernel_rfl) (fun w' hw => v_p tabOk rfl w') (h.pick [2, 5] rfl) rfl ?_
        refine a_done (by kernel_rfl) ?_
        refine r_cond rfl (fun hc3 => ?_) (fun hc3 => ?_)
        · replace hF := bifT hc3 hF
          refine r_seq ?_
          refine r_region ?_
          refine r_p tabOk rfl rfl ?_
          refine r_nil ?_
          obtain rfl := someI hF
          exact r_retV tabOk (ρ := Bool) [_] h ⟨rfl, trivial⟩ (vs_bool _ _)
        · replace hF := bifF hc3 hF
          refine r_skip ?_
          refine r_seq ?_
          refine r_region ?_
          refine r_p tabOk rfl rfl ?_
          refine r_nil ?_
          refine r_seq ?_
          refine r_region ?_
          refine r_v (v_ld tabOk (h.box 2 rfl) (j := 0) rfl rfl rfl) rfl ?_
          refine r_p tabOk rfl rfl ?_
          replace h := h.pick [3, 0, 1, 2, 4, 5] rfl
          obtain ⟨S13, S14, h⟩ := split_TLatchSystem h
          obtain ⟨o1, hr10, hF⟩ := bindS hF
          obtain ⟨r12, x1, x2⟩ := o1
          refine r_callM r12 call19 (laws_markLatchSystem_okm h hr10) rfl rfl rfl rfl ?_
          intro w14 h
          refine r_p tabOk rfl rfl ?_
          refine r_nil ?_
          refine r_seq ?_
          refine r_seq ?_
          obtain ⟨KF2, hKF2, o4, hF, hK2⟩ := bindE hF
          refine r_cut (fun e w' => ∃ (b2 : Bool), KF2 b2 = some r ∧ e = [(1, .pointer (some ⟨bb1, 0, none⟩)), (4, .slice p5 r4.length k5), (5, .int .i64 r5), (7, .slice p8 r8.length k8), (61, .bool b2)] ∧ SH w w' [Ch.own S8 (r8 : List Int) [.slice p8 r8.length k8], Ch.own S3 (r4 : List Int) [.slice p5 r4.length k5], Ch.box bb1 [.slice p1 a_0.Latches.length k1, .slice p2 a_0.Links.length k2] 34]) ?_ ?_
          · refine r_region ?_
            refine r_p tabOk rfl rfl ?_
            refine r_p tabOk rfl rfl ?_
            refine r_p tabOk rfl rfl ?_
            by_cases hc11 : (decide (r12 < 0)) = true
            · replace hF := bifT hc11 hF
              refine r_setT hc11 (t := 51) rfl ?_
              refine r_unwanted rfl ?_ (fun _ hd => by cases hd; rfl)
              refine r_unwanted rfl ?_ (fun _ hd => by cases hd; rfl)
              refine r_unwanted rfl ?_ (fun _ hd => by cases hd; rfl)
              refine r_unwanted rfl ?_ (fun _ hd => by cases hd; rfl)
              refine r_p tabOk rfl rfl ?_
              refine r_p tabOk rfl rfl ?_
              refine r_unwanted rfl ?_ (fun _ hd => by cases hd; rfl)
              refine r_unwanted rfl ?_ (fun _ hd => by cases hd; rfl)
              refine r_unwanted rfl ?_ (fun _ hd => by cases hd; rfl)
              refine r_p tabOk rfl rfl ?_
              refine r_nil ?_
              replace h := h.pick [3, 5, 6] rfl
              obtain rfl := someI hF
              exact r_cutgoal [(1, _), (4, _), (5, _), (7, _), (61, _)] ⟨rfl, rfl, rfl, rfl, rfl, trivial⟩ ⟨_, hK2, rfl, h⟩
            · replace hc11 := Bool.eq_false_iff.2 hc11
              replace hF := bifF hc11 hF
              refine r_setF hc11 (t := 51) rfl ?_
              refine r_wanted rfl ?_
              refine r_p tabOk rfl rfl ?_
              refine r_wanted rfl ?_
              refine r_p tabOk rfl rfl ?_
              refine r_wanted rfl ?_
              obtain ⟨r21, hr18, hF⟩ := bindS hF
              refine r_callB r21 h call17 (laws_eqInt64S_ok (h.own 3 rfl) (h.own 5 rfl) hr18) rfl rfl rfl rfl ?_
              intro w22 h
              refine r_wanted rfl ?_
              refine r_p tabOk rfl rfl ?_
              refine r_p tabOk rfl rfl ?_
              refine r_p tabOk rfl rfl ?_
              by_cases hc12 : (!r21) = true
              · replace hF := bifT hc12 hF
                refine r_setT hc12 (t := 57) rfl ?_
                refine r_unwanted rfl ?_ (fun _ hd => by cases hd; rfl)
                refine r_unwanted rfl ?_ (fun _ hd => by cases hd; rfl)
                refine r_unwanted rfl ?_ (fun _ hd => by cases hd; rfl)
                refine r_p tabOk rfl rfl ?_
                refine r_nil ?_
                replace h := h.pick [3, 5, 6] rfl
                obtain rfl := someI hF
                exact r_cutgoal [(1, _), (4, _), (5, _), (7, _), (61, _)] ⟨rfl, rfl, rfl, rfl, rfl, trivial⟩ ⟨_, hK2, rfl, h⟩
              · replace hc12 := Bool.eq_false_iff.2 hc12
                replace hF := bifF hc12 hF
                refine r_setF hc12 (t := 57) rfl ?_
                refine r_wanted rfl ?_
                refine r_p tabOk rfl rfl ?_
                refine r_wanted rfl ?_
                refine r_p tabOk rfl rfl ?_
                refine r_wanted rfl ?_
                refine r_p tabOk rfl rfl ?_
                refine r_p tabOk rfl rfl ?_
                refine r_nil ?_
                replace h := h.pick [3, 5, 6] rfl
                obtain rfl := someI hF
                exact r_cutgoal [(1, _), (4, _), (5, _), (7, _), (61, _)] ⟨rfl, rfl, rfl, rfl, rfl, trivial⟩ ⟨_, hK2, rfl, h⟩
          · rintro e2 w23 ⟨b2, hF, rfl, h⟩
            subst hKF2
            refine r_cond rfl (fun hc4 => ?_) (fun hc4 => ?_)
            · replace hF := bifT hc4 hF
              refine r_seq ?_
              refine r_region ?_
              refine r_p tabOk rfl rfl ?_
              refine r_nil ?_
              obtain rfl := someI hF
              exact r_retV tabOk (ρ := Bool) [_] h ⟨rfl, trivial⟩ (vs_bool _ _)
            · replace hF := bifF hc4 hF
              refine r_skip ?_
              refine r_seq ?_
              refine r_region ?_
              refine r_p tabOk rfl rfl ?_
              refine r_nil ?_
              refine r_seq ?_
              refine r_region ?_
              refine r_p tabOk rfl rfl ?_
              refine r_p tabOk rfl rfl ?_
              obtain ⟨o2, hr11, hF⟩ := bindS hF
              obtain ⟨r13, x3⟩ := o2
              refine r_callM r13 call20 (laws_markInt64S_okm h hr11) rfl rfl rfl rfl ?_
              intro w15 h
              refine r_p tabOk rfl rfl ?_
              refine r_nil ?_
              refine r_seq ?_
              refine r_region ?_
              refine r_p tabOk rfl rfl ?_
              refine r_nil ?_
              refine r_seq ?_
              refine r_region ?_
              refine r_p tabOk rfl rfl ?_
              refine r_p tabOk rfl rfl ?_
              obtain ⟨r14, hr12, hF⟩ := bindS hF
              refine r_callI r14 h call21 (laws_heldInt64S_ok (h.own 0 rfl) hr12) rfl rfl rfl rfl ?_
              intro w16 h
              refine r_p tabOk rfl rfl ?_
              refine r_nil ?_
              refine r_seq ?_
              refine r_seq ?_
              refine r_region ?_
              refine r_p tabOk rfl rfl ?_
              refine r_p tabOk rfl rfl ?_
              refine r_nil ?_
              refine r_cond rfl (fun hc5 => ?_) (fun hc5 => ?_)
              · replace hF := bifT hc5 hF
                refine r_seq ?_
                refine r_region ?_
                refine r_p tabOk rfl rfl ?_
                refine r_nil ?_
                obtain rfl := someI hF
                exact r_retV tabOk (ρ := Bool) [_] h ⟨rfl, trivial⟩ (vs_bool _ _)
              · replace hF := bifF hc5 hF
                refine r_skip ?_
                refine r_seq ?_
                refine r_seq ?_
                refine r_region ?_
                refine r_p tabOk rfl rfl ?_
                refine r_p tabOk rfl rfl ?_
                refine r_p tabOk rfl rfl ?_
                refine r_nil ?_
                refine r_cond rfl (fun hc6 => ?_) (fun hc6 => ?_)
                · replace hF := bifT hc6 hF
                  refine r_seq ?_
                  refine r_region ?_
                  refine r_p tabOk rfl rfl ?_
                  refine r_nil ?_
                  obtain rfl := someI hF
                  exact r_retV tabOk (ρ := Bool) [_] h ⟨rfl, trivial⟩ (vs_bool _ _)
                · replace hF := bifF hc6 hF
                  refine r_skip ?_
                  refine r_seq ?_
                  refine r_region ?_
                  refine r_v (v_ld tabOk (h.box 2 rfl) (j := 0) rfl rfl rfl) rfl ?_
                  obtain ⟨r15, hr13, hF⟩ := bindS hF
                  refine r_callO r15 h call15 (laws_toLatchSystem_ok (mkR_TLatchSystem (⟨a_0.Latches, a_0.Links⟩ : TLatchSystem) (h.oldS s1) (h.oldS s2)) hr13) rfl rfl rfl rfl ?_
                  intro w17 S15 cs6 h
                  obtain ⟨p13, k13, p14, k14, rfl, -, -⟩ := open_TLatchSystem (h.own 0 rfl)
                  obtain ⟨r16, hr14, hF⟩ := bindS hF
                  obtain ⟨r17, r18⟩ := r16
                  refine r_call (r17, r18) h call25 (impl_LatchSlacks_ok (h.own 0 rfl) hr14) rfl rfl rfl rfl ?_
                  intro w18 S16 us5 hv3 hr15
                  obtain ⟨S17, S18, p15, k15, us6, rfl, hv3, hr15⟩ := hv3.consL hr15
                  obtain ⟨rfl, h⟩ := hv3.lastI hr15
                  refine r_p tabOk rfl rfl ?_
                  refine r_p tabOk rfl rfl ?_
                  refine r_p tabOk rfl rfl ?_
                  refine r_p tabOk rfl rfl ?_
                  refine r_p tabOk rfl rfl ?_
                  refine r_nil ?_
                  refine r_seq ?_
                  refine r_seq ?_
                  obtain ⟨KF1, hKF1, o3, hF, hK1⟩ := bindE hF
                  refine r_cut (fun e w' => ∃ (b3 : Bool), KF1 b3 = some r ∧ e = [(7, .slice p8 r8.length k8), (10, .int .i64 r13), (87, .bool b3)] ∧ SH w w' [Ch.own S8 (x3 : List Int) [.slice p8 r8.length k8]]) ?_ ?_
                  · refine r_region ?_
                    refine r_p tabOk rfl rfl ?_
                    refine r_p tabOk rfl rfl ?_
                    obtain ⟨r20, hr17, hF⟩ := bindS hF
                    refine r_callB r20 h call17 (laws_eqInt64S_ok (h.own 0 rfl) (h.own 3 rfl) hr17) rfl rfl rfl rfl ?_
                    intro w20 h
                    refine r_p tabOk rfl rfl ?_
                    refine r_p tabOk rfl rfl ?_
                    by_cases hc10 : (!r20) = true
                    · replace hF := bifT hc10 hF
                      refine r_setT hc10 (t := 83) rfl ?_
                      refine r_unwanted rfl ?_ (fun _ hd => by cases hd; rfl)
                      refine r_unwanted rfl ?_ (fun _ hd => by cases hd; rfl)
                      refine r_unwanted rfl ?_ (fun _ hd => by cases hd; rfl)
                      refine r_p tabOk rfl rfl ?_
                      refine r_nil ?_
                      replace h := h.pick [2] rfl
                      obtain rfl := someI hF
                      exact r_cutgoal [(7, _), (10, _), (87, _)] ⟨rfl, rfl, rfl, trivial⟩ ⟨_, hK1, rfl, h⟩
                    · replace hc10 := Bool.eq_false_iff.2 hc10
                      replace hF := bifF hc10 hF
                      refine r_setF hc10 (t := 83) rfl ?_
                      refine r_wanted rfl ?_
                      refine r_p tabOk rfl rfl ?_
                      refine r_wanted rfl ?_
                      refine r_p tabOk rfl rfl ?_
                      refine r_wanted rfl ?_
                      refine r_p tabOk rfl rfl ?_
                      refine r_p tabOk rfl rfl ?_
                      refine r_nil ?_
                      replace h := h.pick [2] rfl
                      obtain rfl := someI hF
                      exact r_cutgoal [(7, _), (10, _), (87, _)] ⟨rfl, rfl, rfl, trivial⟩ ⟨_, hK1, rfl, h⟩
                  · rintro e1 w21 ⟨b3, hF, rfl, h⟩
                    subst hKF1
                    refine r_cond rfl (fun hc7 => ?_) (fun hc7 => ?_)
                    · replace hF := bifT hc7 hF
                      refine r_seq ?_
                      refine r_region ?_
                      refine r_p tabOk rfl rfl ?_
                      refine r_nil ?_
                      obtain rfl := someI hF
                      exact r_retV tabOk (ρ := Bool) [_] h ⟨rfl, trivial⟩ (vs_bool _ _)
                    · replace hF := bifF hc7 hF
                      refine r_skip ?_
                      refine r_seq ?_
                      refine r_region ?_
                      refine r_p tabOk rfl rfl ?_
                      refine r_nil ?_
                      refine r_seq ?_
                      refine r_region ?_
                      refine r_p tabOk rfl rfl ?_
                      refine r_p tabOk rfl rfl ?_
                      obtain ⟨r19, hr16, hF⟩ := bindS hF
                      refine r_callI r19 h call21 (laws_heldInt64S_ok (h.own 0 rfl) hr16) rfl rfl rfl rfl ?_
                      intro w19 h
                      refine r_p tabOk rfl rfl ?_
                      refine r_nil ?_
                      refine r_seq ?_
                      refine r_seq ?_
                      refine r_region ?_
                      refine r_p tabOk rfl rfl ?_
                      refine r_p tabOk rfl rfl ?_
                      refine r_nil ?_
                      refine r_cond rfl (fun hc8 => ?_) (fun hc8 => ?_)
                      · replace hF := bifT hc8 hF
                        refine r_seq ?_
                        refine r_region ?_
                        refine r_p tabOk rfl rfl ?_
                        refine r_nil ?_
                        obtain rfl := someI hF
                        exact r_retV tabOk (ρ := Bool) [_] h ⟨rfl, trivial⟩ (vs_bool _ _)
                      · replace hF := bifF hc8 hF
                        refine r_skip ?_
                        refine r_seq ?_
                        refine r_seq ?_
                        refine r_region ?_
                        refine r_p tabOk rfl rfl ?_
                        refine r_p tabOk rfl rfl ?_
                        refine r_p tabOk rfl rfl ?_
                        refine r_nil ?_
                        refine r_cond rfl (fun hc9 => ?_) (fun hc9 => ?_)
                        · replace hF := bifT hc9 hF
                          refine r_seq ?_
                          refine r_region ?_
                          refine r_p tabOk rfl rfl ?_
                          refine r_nil ?_
                          obtain rfl := someI hF
                          exact r_retV tabOk (ρ := Bool) [_] h ⟨rfl, trivial⟩ (vs_bool _ _)
                        · replace hF := bifF hc9 hF
                          refine r_skip ?_
                          refine r_seq ?_
                          refine r_region ?_
                          refine r_p tabOk rfl rfl ?_
                          refine r_nil ?_
                          obtain rfl := someI hF
                          exact r_retV tabOk (ρ := Bool) [_] h ⟨rfl, trivial⟩ (vs_bool _ _)

end Go.Fw
