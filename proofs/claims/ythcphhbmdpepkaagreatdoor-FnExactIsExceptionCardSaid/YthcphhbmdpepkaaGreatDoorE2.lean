/- By a program of mine (gen.py): for each function a plain function and the proof that the code computes it. -/
import Derived.Test.YthcphhbmdpepkaaGreatDoorB12
import Derived.Test.YthcphhbmdpepkaaGreatDoorFw28

namespace Go.Fw
open Go Go.Proofs
open Go.RowKit (Below)
set_option maxRecDepth 100000
def laws_szException (n : Nat) (a : TException) (left : Int) : Option Int :=
  (laws_szInt64S n a.From left).bind fun r1 =>
  bif decide (r1 < 0) then
    some (-1)
  else
    (laws_szInt64S n a.Through r1).bind fun r2 =>
    bif decide (r2 < 0) then
      some (-1)
    else
      (laws_szInt64S n a.To r2).bind fun r3 =>
      bif decide (r3 < 0) then
        some (-1)
      else
        some r3

theorem laws_szException_ok {n : Nat} {w : World} {a : TException} {left : Int} {cs1 : List Value} (ha1 : GoT.R w (old w) a cs1) {r : Int} (hF : laws_szException n a left = some r) : RetV Tryz.prog 9 [GoT.v TException cs1, .int .i64 left] w r := by
  obtain ⟨p1, k1, p2, k2, p3, k3, rfl, s1, s2, s3⟩ := open_TException ha1
  refine retV_of_run Tryz.func9 rfl (m := 24) rfl rfl (fun h => ?_)
  rw [laws_szException] at hF
  refine r_seq (r_region (r_box h rfl rfl ?_))
  intro w1 bb1 h
  refine rp rfl rfl (r_nil (r_seq (r_region (rp rfl rfl (r_v (v_ld tabOk (h.box 0 rfl) (j := 2) rfl rfl rfl) rfl (rp rfl rfl ?_))))))
  obtain ⟨r1, hr1, hF⟩ := bindS hF
  refine r_callI r1 h call32 (laws_szInt64S_ok ⟨_, _, rfl, (h.oldS s1)⟩ hr1) rfl rfl rfl rfl ?_
  intro w2 h
  refine rp rfl rfl (r_nil (r_seq (r_seq (r_region (rp rfl rfl (rp rfl rfl (r_nil ?_)))))))
  refine r_if rfl hF (fun hF => ?_) (fun hF => ?_)
  · exact r_seq (r_region (rp rfl rfl (r_nil (r_rI tabOk h hF ⟨rfl, trivial⟩))))
  refine r_skip (r_seq (r_region (rp rfl rfl (r_v (v_ld tabOk (h.box 0 rfl) (j := 3) rfl rfl rfl) rfl (rp rfl rfl ?_)))))
  obtain ⟨r2, hr2, hF⟩ := bindS hF
  refine r_callI r2 h call32 (laws_szInt64S_ok ⟨_, _, rfl, (h.oldS s2)⟩ hr2) rfl rfl rfl rfl ?_
  intro w3 h
  refine rp rfl rfl (r_nil (r_seq (r_seq (r_region (rp rfl rfl (rp rfl rfl (r_nil ?_)))))))
  refine r_if rfl hF (fun hF => ?_) (fun hF => ?_)
  · exact r_seq (r_region (rp rfl rfl (r_nil (r_rI tabOk h hF ⟨rfl, trivial⟩))))
  refine r_skip (r_seq (r_region (rp rfl rfl (r_v (v_ld tabOk (h.box 0 rfl) (j := 4) rfl rfl rfl) rfl (rp rfl rfl ?_)))))
  obtain ⟨r3, hr3, hF⟩ := bindS hF
  refine r_callI r3 h call32 (laws_szInt64S_ok ⟨_, _, rfl, (h.oldS s3)⟩ hr3) rfl rfl rfl rfl ?_
  intro w4 h
  refine rp rfl rfl (r_nil (r_seq (r_seq (r_region (rp rfl rfl (rp rfl rfl (r_nil ?_)))))))
  refine r_if rfl hF (fun hF => ?_) (fun hF => ?_)
  · exact r_seq (r_region (rp rfl rfl (r_nil (r_rI tabOk h hF ⟨rfl, trivial⟩))))
  exact r_skip (r_seq (r_region (rp rfl rfl (rp rfl rfl (r_nil (r_rI tabOk h hF ⟨rfl, trivial⟩))))))

def spec_l22Count (n : Nat) (b : TBlock) : Option Int :=
  (spec_l05Places n (⟨b.Design.Instances, b.Design.Nets, b.Design.Ports⟩ : TDesign)).bind fun r1 =>
  some (r1.length : Int)

theorem spec_l22Count_ok {n : Nat} {w : World} {b : TBlock} {cs1 : List Value} (ha1 : GoT.R w (old w) b cs1) {r : Int} (hF : spec_l22Count n b = some r) : RetV Tryz.prog 48 [GoT.v TBlock cs1] w r := by
  obtain ⟨p1, k1, p2, k2, p3, k3, p4, k4, p5, k5, rfl, s1, s2, s3, s4, s5⟩ := open_TBlock ha1
  refine retV_of_run Tryz.func48 rfl (m := 7) rfl rfl (fun h => ?_)
  rw [spec_l22Count] at hF
  refine r_seq (r_region (r_box h rfl rfl ?_))
  intro w1 bb1 h
  refine rp rfl rfl (r_nil (r_seq (r_region (rp rfl rfl (r_v (v_ld tabOk (h.box 0 rfl) (j := 1) rfl rfl rfl) rfl ?_)))))
  obtain ⟨r1, hr1, hF⟩ := bindS hF
  refine r_callL r1 h call93 (spec_l05Places_ok (mkR_TDesign (⟨b.Design.Instances, b.Design.Nets, b.Design.Ports⟩ : TDesign) (h.oldS s2) (h.oldS s3) (h.oldS s4)) hr1) rfl rfl rfl rfl ?_
  intro w2 S1 p6 k6 h
  exact rp rfl rfl (rp rfl rfl (r_nil (r_rI tabOk h hF ⟨rfl, trivial⟩)))

def spec_l22Places_L1 (b : TBlock) (list : (List Int)) (sorted : Bool) : Nat → Int → Option (Flow Bool Int)
  | 0, _ => none
  | n + 1, i1 =>
    bif decide (i1 < (list.length : Int)) then
      (idx list i1).bind fun y1 =>
      (spec_l22Count n b).bind fun r1 =>
      (spec_l01In n y1 0 (W64 (r1 - 1))).bind fun r2 =>
      bif (!r2) then
        some (.ret false)
      else
        bif sorted then
          bif decide (i1 > 0) then
            (idx list (W64 (i1 - 1))).bind fun y2 =>
            (idx list i1).bind fun y3 =>
            bif decide (y2 ≥ y3) then
              some (.ret false)
            else
              spec_l22Places_L1 b list sorted n (W64 (i1 + 1))
          else
            spec_l22Places_L1 b list sorted n (W64 (i1 + 1))
        else
          spec_l22Places_L1 b list sorted n (W64 (i1 + 1))
    else
      some (.nxt i1)

def spec_l22Places (n : Nat) (b : TBlock) (list : (List Int)) (sorted : Bool) : Option Bool :=
  (spec_l22Places_L1 b list sorted n 0).bind fun o => match o with
  | .ret r => some r
  | .nxt _ =>
    some (decide ((list.length : Int) ≤ 4))

theorem spec_l22Places_ok {n : Nat} {w : World} {b : TBlock} {list : (List Int)} {sorted : Bool} {cs1 : List Value} (ha1 : GoT.R w (old w) b cs1) {cs2 : List Value} (ha2 : GoT.R w (old w) list cs2) {r : Bool} (hF : spec_l22Places n b list sorted = some r) : RetV Tryz.prog 34 [GoT.v TBlock cs1, GoT.v (List Int) cs2, .bool sorted] w r := by
  obtain ⟨p1, k1, p2, k2, p3, k3, p4, k4, p5, k5, rfl, s1, s2, s3, s4, s5⟩ := open_TBlock ha1
  obtain ⟨p6, k6, rfl, s6⟩ := ha2
  refine retV_of_run Tryz.func34 rfl (m := 45) rfl rfl (fun h => ?_)
  rw [spec_l22Places] at hF
  refine r_seq (r_region (r_box h rfl rfl ?_))
  intro w1 bb1 h
  refine rp rfl rfl (r_nil (r_seq (r_seq (r_region (rp rfl rfl (r_nil ?_))))))
  obtain ⟨o1, hF, hK1⟩ := bindS hF
  refine r_block (r_sub [(1, _), (2, _), (3, _), (7, _)] ⟨rfl, rfl, rfl, rfl, trivial⟩ ?_)
  refine r_loop (fun m e w' => ∃ (i1 : Int), spec_l22Places_L1 b list sorted m i1 = some o1 ∧ e = [(1, .slice p6 list.length k6), (2, .bool sorted), (3, .pointer (some ⟨bb1, 0, none⟩)), (7, .int .i64 i1)] ∧ SH w w' [Ch.box bb1 [.slice p1 b.Library.Cells.length k1, .slice p2 b.Design.Instances.length k2, .slice p3 b.Design.Nets.length k3, .slice p4 b.Design.Ports.length k4, .slice p5 b.Wires.length k5] 48]) n ⟨_, hF, rfl, h⟩ ?_
  rintro m1 e1 w2 ⟨i1, hF, rfl, h⟩
  rcases m1 with _ | m1
  · rw [spec_l22Places_L1] at hF
    cases hF
  rw [spec_l22Places_L1] at hF
  refine r_seq (r_seq (r_region (rp rfl rfl (rp rfl rfl (rp rfl rfl (rp rfl rfl (r_nil ?_)))))))
  refine r_if rfl hF (fun hF => ?_) (fun hF => ?_)
  · refine r_skip (r_seq (r_block (r_seq ?_)))
    refine r_draw rfl (by kernel_rfl) ?_
    refine dp rfl rfl (dp rfl rfl ?_)
    obtain ⟨y1, hy1, hF⟩ := bindS hF
    have he1 := idx_some hy1
    obtain ⟨b1, o_1, q1, cs3, hp1, hq1, -, hr1, hc2⟩ := s6.at hy1
    obtain rfl := hr1
    refine d_v (fun _ hb => v_ix tabOk hp1 hq1 ⟨he1.1, he1.2.1⟩ rfl rfl rfl rfl rfl rfl) rfl ?_
    refine d_v (fun _ hb => v_ld tabOk ((hc2.below h.below).below hb) (j := 0) rfl rfl rfl) rfl ?_
    refine d_v (fun _ hb => v_ld tabOk ((h.box 0 rfl).below hb) (j := 0) rfl rfl rfl) rfl ?_
    obtain ⟨r1, hr2, hF⟩ := bindS hF
    refine d_call r1 (vsI _) call48 (fun _ hb => spec_l22Count_ok ((h.ext hb).old ha1) hr2) rfl rfl rfl rfl ?_
    refine dp rfl rfl ?_
    obtain ⟨r2, hr3, hF⟩ := bindS hF
    refine d_call r2 (vsB _) call35 (fun _ hb => spec_l01In_ok  hr3) rfl rfl rfl rfl ?_
    refine dp rfl rfl (dp rfl rfl ?_)
    by_cases hc3 : (!r2) = true
    · replace hF := bifT hc3 hF
      refine d_setT hc3 (t := 23) rfl (d_not rfl rfl rfl (d_not rfl rfl rfl (d_not rfl rfl rfl (d_not rfl rfl rfl (d_not rfl rfl rfl (d_not rfl rfl rfl (d_not rfl rfl rfl (d_not rfl rfl rfl (d_not rfl rfl rfl (d_not rfl rfl rfl (d_not rfl rfl rfl ?_)))))))))))
      refine d_not rfl rfl rfl (d_not rfl rfl rfl (d_not rfl rfl rfl (d_not rfl rfl rfl (d_not rfl rfl rfl (d_not rfl rfl rfl (dp rfl rfl ?_))))))
      refine d_nil (fun w3 hb => ?_)
      replace h := h.ext hb
      clear hb
      refine r_condT rfl rfl (r_seq (r_region (rp rfl rfl (r_nil ?_))))
      obtain rfl := someI hF; replace hF := hK1
      exact r_rB tabOk h hF ⟨rfl, trivial⟩
    replace hc3 := Bool.eq_false_iff.2 hc3
    replace hF := bifF hc3 hF
    refine d_setF hc3 (t := 23) rfl (d_wanted rfl (dp rfl rfl (d_wanted rfl (dp rfl rfl ?_))))
    by_cases hc4 : sorted = true
    · replace hF := bifT hc4 hF
      refine d_setT hc4 (t := 25) rfl (d_wanted rfl (dp rfl rfl (d_wanted rfl (dp rfl rfl (d_wanted rfl (dp rfl rfl (d_wanted rfl (dp rfl rfl ?_))))))))
      by_cases hc5 : (decide (i1 > 0)) = true
      · replace hF := bifT hc5 hF
        refine d_setT hc5 (t := 29) rfl (d_wanted rfl (dp rfl rfl (d_wanted rfl (dp rfl rfl (d_wanted rfl (dp rfl rfl (d_wanted rfl ?_)))))))
        obtain ⟨y2, hy2, hF⟩ := bindS hF
        have he2 := idx_some hy2
        obtain ⟨b2, o_2, q2, cs4, hp2, hq2, -, hr4, hc6⟩ := s6.at hy2
        obtain rfl := hr4
        refine d_v (fun _ hb => v_ix tabOk hp2 hq2 ⟨he2.1, he2.2.1⟩ rfl rfl rfl rfl rfl rfl) rfl ?_
        refine d_wanted rfl ?_
        refine d_v (fun _ hb => v_ld tabOk ((hc6.below h.below).below hb) (j := 0) rfl rfl rfl) rfl ?_
        refine d_wanted rfl (dp rfl rfl (d_wanted rfl (dp rfl rfl (d_wanted rfl ?_))))
        obtain ⟨y3, hy3, hF⟩ := bindS hF
        have he3 := idx_some hy3
        obtain ⟨b3, o_3, q3, cs5, hp3, hq3, -, hr5, hc7⟩ := s6.at hy3
        obtain rfl := hr5
        refine d_v (fun _ hb => v_ix tabOk hp3 hq3 ⟨he3.1, he3.2.1⟩ rfl rfl rfl rfl rfl rfl) rfl ?_
        refine d_wanted rfl ?_
        refine d_v (fun _ hb => v_ld tabOk ((hc7.below h.below).below hb) (j := 0) rfl rfl rfl) rfl ?_
        refine d_wanted rfl (dp rfl rfl (d_wanted rfl (dp rfl rfl (dp rfl rfl ?_))))
        refine d_nil (fun w4 hb => ?_)
        replace h := h.ext hb
        clear hb
        refine r_if rfl hF (fun hF => ?_) (fun hF => ?_)
        · refine r_seq (r_region (rp rfl rfl (r_nil ?_)))
          obtain rfl := someI hF; replace hF := hK1
          exact r_rB tabOk h hF ⟨rfl, trivial⟩
        exact r_skip (r_blk (r_region (rp rfl rfl (rp rfl rfl (rp rfl rfl (r_nil (r_back m1 [(1, _), (2, _), (3, _), (7, _)] (Nat.lt_succ_self m1) ⟨rfl, rfl, rfl, rfl, trivial⟩ ⟨_, hF, rfl, h⟩)))))))
      replace hc5 := Bool.eq_false_iff.2 hc5
      replace hF := bifF hc5 hF
      refine d_setF hc5 (t := 29) rfl (d_not rfl rfl rfl (d_not rfl rfl rfl (d_not rfl rfl rfl (d_not rfl rfl rfl (d_not rfl rfl rfl (d_not rfl rfl rfl (d_not rfl rfl rfl (d_not rfl rfl rfl (d_not rfl rfl rfl (d_not rfl rfl rfl (d_wanted rfl ?_)))))))))))
      refine dp rfl rfl (dp rfl rfl ?_)
      refine d_nil (fun w5 hb => ?_)
      replace h := h.ext hb
      clear hb
      exact r_condF rfl rfl (r_skip (r_blk (r_region (rp rfl rfl (rp rfl rfl (rp rfl rfl (r_nil (r_back m1 [(1, _), (2, _), (3, _), (7, _)] (Nat.lt_succ_self m1) ⟨rfl, rfl, rfl, rfl, trivial⟩ ⟨_, hF, rfl, h⟩))))))))
    replace hc4 := Bool.eq_false_iff.2 hc4
    replace hF := bifF hc4 hF
    refine d_setF hc4 (t := 25) rfl (d_not rfl rfl rfl (d_not rfl rfl rfl (d_wanted rfl (dp rfl rfl (d_wanted rfl (dp rfl rfl (d_not rfl rfl rfl (d_not rfl rfl rfl (d_not rfl rfl rfl (d_not rfl rfl rfl (d_not rfl rfl rfl ?_)))))))))))
    refine d_not rfl rfl rfl (d_not rfl rfl rfl (d_not rfl rfl rfl (d_not rfl rfl rfl (d_not rfl rfl rfl (d_wanted rfl (dp rfl rfl (dp rfl rfl ?_)))))))
    refine d_nil (fun w6 hb => ?_)
    replace h := h.ext hb
    clear hb
    exact r_condF rfl rfl (r_skip (r_blk (r_region (rp rfl rfl (rp rfl rfl (rp rfl rfl (r_nil (r_back m1 [(1, _), (2, _), (3, _), (7, _)] (Nat.lt_succ_self m1) ⟨rfl, rfl, rfl, rfl, trivial⟩ ⟨_, hF, rfl, h⟩))))))))
  refine r_exit rfl ?_
  obtain rfl := someI hF; replace hF := hK1
  exact r_seq (r_region (rp rfl rfl (rp rfl rfl (rp rfl rfl (rp rfl rfl (r_nil (r_rB tabOk h hF ⟨rfl, trivial⟩)))))))

def spec_IsException (n : Nat) (b : TBlock) (a_e : TException) : Option Bool :=
  (
    (spec_IsBlock n b).bind fun r4 =>
    bif (!r4) then
      some true
    else
      (spec_l22Places n b a_e.From true).bind fun r5 =>
      bif (!r5) then
        some true
      else
        (spec_l22Places n b a_e.Through false).bind fun r6 =>
        bif (!r6) then
          some true
        else
          (spec_l22Places n b a_e.To true).bind fun r7 =>
          some (!r7)).bind fun b1 =>
  bif b1 then
    some false
  else
    bif (a_e.Kind == 1) then
      some (a_e.Value == 0)
    else
      bif (a_e.Kind == 2) then
        (spec_l01In n a_e.Value 1 10).bind fun r1 =>
        some r1
      else
        bif (a_e.Kind == 3) then
          bif (a_e.Kind == 3) then
            (spec_l01In n a_e.Value 0 1000000000).bind fun r2 =>
            some r2
          else
            some false
        else
          bif (a_e.Kind == 4) then
            (spec_l01In n a_e.Value 0 1000000000).bind fun r3 =>
            some r3
          else
            some false

theorem spec_IsException_ok {n : Nat} {w : World} {b : TBlock} {a_e : TException} {cs1 : List Value} (ha1 : GoT.R w (old w) b cs1) {cs2 : List Value} (ha2 : GoT.R w (old w) a_e cs2) {r : Bool} (hF : spec_IsException n b a_e = some r) : RetV Tryz.prog 10 [GoT.v TBlock cs1, GoT.v TException cs2] w r := by
  obtain ⟨p1, k1, p2, k2, p3, k3, p4, k4, p5, k5, rfl, s1, s2, s3, s4, s5⟩ := open_TBlock ha1
  obtain ⟨p6, k6, p7, k7, p8, k8, rfl, s6, s7, s8⟩ := open_TException ha2
  refine retV_of_run Tryz.func10 rfl (m := 47) rfl rfl (fun h => ?_)
  rw [spec_IsException] at hF
  refine r_seq (r_region (r_box h rfl rfl ?_))
  intro w1 bb1 h
  refine r_box h rfl rfl ?_
  intro w2 bb2 h
  refine rp rfl rfl (r_nil (r_seq (r_seq ?_)))
  obtain ⟨KF1, hKF1, o1, hF, hK1⟩ := bindE hF
  refine r_cut (fun e w' => ∃ (b1 : Bool), KF1 b1 = some r ∧ e = [(3, .pointer (some ⟨bb2, 0, none⟩)), (28, .bool b1)] ∧ SH w w' [Ch.box bb2 [.int .i64 a_e.Kind, .int .i64 a_e.Value, .slice p6 a_e.From.length k6, .slice p7 a_e.Through.length k7, .slice p8 a_e.To.length k8] 50]) ?_ ?_
  · refine r_region (r_v (v_ld tabOk (h.box 1 rfl) (j := 0) rfl rfl rfl) rfl ?_)
    obtain ⟨r4, hr4, hF⟩ := bindS hF
    refine r_callB r4 h call33 (spec_IsBlock_ok (h.old ha1) hr4) rfl rfl rfl rfl ?_
    intro w6 h
    refine rp rfl rfl (rp rfl rfl ?_)
    by_cases hc7 : (!r4) = true
    · replace hF := bifT hc7 hF
      refine r_setT hc7 (t := 8) rfl (r_not rfl rfl rfl (r_not rfl rfl rfl (r_not rfl rfl rfl (r_not rfl rfl rfl (r_not rfl rfl rfl (rp rfl rfl (rp rfl rfl (r_not rfl rfl rfl (r_not rfl rfl rfl (r_not rfl rfl rfl (r_not rfl rfl rfl ?_)))))))))))
      refine r_not rfl rfl rfl (rp rfl rfl (rp rfl rfl (r_not rfl rfl rfl (r_not rfl rfl rfl (r_not rfl rfl rfl (r_not rfl rfl rfl (r_not rfl rfl rfl (rp rfl rfl (r_nil ?_)))))))))
      replace h := h.pick [0] rfl
      obtain rfl := someI hF
      exact r_cutgoal [(3, _), (28, _)] ⟨rfl, rfl, trivial⟩ ⟨_, hK1, rfl, h⟩
    replace hc7 := Bool.eq_false_iff.2 hc7
    replace hF := bifF hc7 hF
    refine r_setF hc7 (t := 8) rfl (r_wanted rfl (r_v (v_ld tabOk (h.box 1 rfl) (j := 0) rfl rfl rfl) rfl (r_wanted rfl (rp rfl rfl (r_wanted rfl (r_v (v_ld tabOk (h.box 0 rfl) (j := 2) rfl rfl rfl) rfl (r_wanted rfl ?_)))))))
    obtain ⟨r5, hr5, hF⟩ := bindS hF
    refine r_callB r5 h call34 (spec_l22Places_ok (h.old ha1) ⟨_, _, rfl, (h.oldS s6)⟩ hr5) rfl rfl rfl rfl ?_
    intro w7 h
    refine r_wanted rfl (rp rfl rfl (rp rfl rfl (rp rfl rfl ?_)))
    by_cases hc8 : (!r5) = true
    · replace hF := bifT hc8 hF
      refine r_setT hc8 (t := 15) rfl (r_not rfl rfl rfl (r_not rfl rfl rfl (r_not rfl rfl rfl (r_not rfl rfl rfl (r_not rfl rfl rfl (rp rfl rfl (rp rfl rfl (r_not rfl rfl rfl (r_not rfl rfl rfl (r_not rfl rfl rfl (r_not rfl rfl rfl ?_)))))))))))
      refine r_not rfl rfl rfl (rp rfl rfl (r_nil ?_))
      replace h := h.pick [0] rfl
      obtain rfl := someI hF
      exact r_cutgoal [(3, _), (28, _)] ⟨rfl, rfl, trivial⟩ ⟨_, hK1, rfl, h⟩
    replace hc8 := Bool.eq_false_iff.2 hc8
    replace hF := bifF hc8 hF
    refine r_setF hc8 (t := 15) rfl (r_wanted rfl (r_v (v_ld tabOk (h.box 1 rfl) (j := 0) rfl rfl rfl) rfl (r_wanted rfl (rp rfl rfl (r_wanted rfl (r_v (v_ld tabOk (h.box 0 rfl) (j := 3) rfl rfl rfl) rfl (r_wanted rfl ?_)))))))
    obtain ⟨r6, hr6, hF⟩ := bindS hF
    refine r_callB r6 h call34 (spec_l22Places_ok (h.old ha1) ⟨_, _, rfl, (h.oldS s7)⟩ hr6) rfl rfl rfl rfl ?_
    intro w8 h
    refine r_wanted rfl (rp rfl rfl (rp rfl rfl (rp rfl rfl ?_)))
    by_cases hc9 : (!r6) = true
    · replace hF := bifT hc9 hF
      refine r_setT hc9 (t := 22) rfl (r_not rfl rfl rfl (r_not rfl rfl rfl (r_not rfl rfl rfl (r_not rfl rfl rfl (r_not rfl rfl rfl (rp rfl rfl (r_nil ?_)))))))
      replace h := h.pick [0] rfl
      obtain rfl := someI hF
      exact r_cutgoal [(3, _), (28, _)] ⟨rfl, rfl, trivial⟩ ⟨_, hK1, rfl, h⟩
    replace hc9 := Bool.eq_false_iff.2 hc9
    replace hF := bifF hc9 hF
    refine r_setF hc9 (t := 22) rfl (r_wanted rfl (r_v (v_ld tabOk (h.box 1 rfl) (j := 0) rfl rfl rfl) rfl (r_wanted rfl (rp rfl rfl (r_wanted rfl (r_v (v_ld tabOk (h.box 0 rfl) (j := 4) rfl rfl rfl) rfl (r_wanted rfl ?_)))))))
    obtain ⟨r7, hr7, hF⟩ := bindS hF
    refine r_callB r7 h call34 (spec_l22Places_ok (h.old ha1) ⟨_, _, rfl, (h.oldS s8)⟩ hr7) rfl rfl rfl rfl ?_
    intro w9 h
    refine r_wanted rfl (rp rfl rfl (rp rfl rfl (r_nil ?_)))
    replace h := h.pick [0] rfl
    obtain rfl := someI hF
    exact r_cutgoal [(3, _), (28, _)] ⟨rfl, rfl, trivial⟩ ⟨_, hK1, rfl, h⟩
  rintro e1 w10 ⟨b1, hF, rfl, h⟩
  subst hKF1
  refine r_if rfl hF (fun hF => ?_) (fun hF => ?_)
  · exact r_seq (r_region (rp rfl rfl (r_nil (r_rB tabOk h hF ⟨rfl, trivial⟩))))
  refine r_skip (r_seq (r_seq (r_region (rp rfl rfl (r_v (v_ld tabOk (h.box 0 rfl) (j := 0) rfl rfl rfl) rfl (r_nil (r_block (r_seq (r_region (rp rfl rfl (rp rfl rfl ?_)))))))))))
  refine r_nil ?_
  refine r_if rfl hF (fun hF => ?_) (fun hF => ?_)
  · exact r_seq (r_region (rp rfl rfl (r_v (v_ld tabOk (h.box 0 rfl) (j := 1) rfl rfl rfl) rfl (rp rfl rfl (rp rfl rfl (r_nil (r_rB tabOk h hF ⟨rfl, trivial⟩)))))))
  refine r_seq (r_region (rp rfl rfl (rp rfl rfl (r_nil ?_))))
  refine r_if rfl hF (fun hF => ?_) (fun hF => ?_)
  · refine r_seq (r_region (rp rfl rfl (r_v (v_ld tabOk (h.box 0 rfl) (j := 1) rfl rfl rfl) rfl ?_)))
    obtain ⟨r1, hr1, hF⟩ := bindS hF
    refine r_callB r1 h call35 (spec_l01In_ok hr1) rfl rfl rfl rfl ?_
    intro w3 h
    exact rp rfl rfl (r_nil (r_rB tabOk h hF ⟨rfl, trivial⟩))
  refine r_seq (r_seq (r_region (rp rfl rfl (rp rfl rfl (r_nil ?_)))))
  refine r_if rfl hF (fun hF => ?_) (fun hF => ?_)
  · refine r_skip ?_
    refine r_if rfl hF (fun hF => ?_) (fun hF => ?_)
    · refine r_seq (r_region (rp rfl rfl (r_v (v_ld tabOk (h.box 0 rfl) (j := 1) rfl rfl rfl) rfl ?_)))
      obtain ⟨r2, hr2, hF⟩ := bindS hF
      refine r_callB r2 h call35 (spec_l01In_ok hr2) rfl rfl rfl rfl ?_
      intro w4 h
      exact rp rfl rfl (r_nil (r_rB tabOk h hF ⟨rfl, trivial⟩))
    exact r_skip (r_blk (r_seq (r_region (rp rfl rfl (r_nil (r_rB tabOk h hF ⟨rfl, trivial⟩))))))
  refine r_region (rp rfl rfl (rp rfl rfl (r_nil ?_)))
  refine r_if rfl hF (fun hF => ?_) (fun hF => ?_)
  · refine r_seq (r_region (rp rfl rfl (r_v (v_ld tabOk (h.box 0 rfl) (j := 1) rfl rfl rfl) rfl ?_)))
    obtain ⟨r3, hr3, hF⟩ := bindS hF
    refine r_callB r3 h call35 (spec_l01In_ok hr3) rfl rfl rfl rfl ?_
    intro w5 h
    exact rp rfl rfl (r_nil (r_rB tabOk h hF ⟨rfl, trivial⟩))
  exact r_skip (r_blk (r_seq (r_region (rp rfl rfl (r_nil (r_rB tabOk h hF ⟨rfl, trivial⟩))))))

def laws_toException (n : Nat) (a : TException) : Option TException :=
  (laws_toInt64S n a.From).bind fun r1 =>
  (laws_toInt64S n a.Through).bind fun r2 =>
  (laws_toInt64S n a.To).bind fun r3 =>
  some (⟨a.Kind, a.Value, r1, r2, r3⟩ : TException)

theorem laws_toException_ok {n : Nat} {w : World} {a : TException} {cs1 : List Value} (ha1 : GoT.R w (old w) a cs1) {r : TException} (hF : laws_toException n a = some r) : RetV Tryz.prog 12 [GoT.v TException cs1] w r := by
  obtain ⟨p1, k1, p2, k2, p3, k3, rfl, s1, s2, s3⟩ := open_TException ha1
  refine retV_of_run Tryz.func12 rfl (m := 23) rfl rfl (fun h => ?_)
  rw [laws_toException] at hF
  refine r_seq (r_region (r_box h rfl rfl ?_))
  intro w1 bb1 h
  refine r_alloc tabOk h rfl rfl rfl ?_
  intro w2 bb2 h
  refine r_nil (r_seq (r_region (r_alloc tabOk h rfl rfl rfl ?_)))
  intro w3 bb3 h
  refine r_nil (r_seq (r_region (rp rfl rfl (r_v (v_ld tabOk (h.box 2 rfl) (j := 0) rfl rfl rfl) rfl (rp rfl rfl (r_stbox tabOk 0 h rfl rfl rfl rfl rfl rfl rfl ?_))))))
  intro w4 h
  refine r_nil (r_seq (r_region (rp rfl rfl (r_v (v_ld tabOk (h.box 2 rfl) (j := 1) rfl rfl rfl) rfl (rp rfl rfl (r_stbox tabOk 0 h rfl rfl rfl rfl rfl rfl rfl ?_))))))
  intro w5 h
  replace h : SH _ _ [Ch.box bb3 [.int .i64 a.Kind, .int .i64 a.Value, .slice none 0 0, .slice none 0 0, .slice none 0 0] 50, Ch.box bb2 [.int .i64 0, .int .i64 0, .slice none 0 0, .slice none 0 0, .slice none 0 0] 50, Ch.box bb1 [.int .i64 a.Kind, .int .i64 a.Value, .slice p1 a.From.length k1, .slice p2 a.Through.length k2, .slice p3 a.To.length k3] 35] := h
  refine r_nil (r_seq (r_region (rp rfl rfl (r_v (v_ld tabOk (h.box 2 rfl) (j := 2) rfl rfl rfl) rfl ?_))))
  obtain ⟨r1, hr1, hF⟩ := bindS hF
  refine r_callL r1 h call27 (laws_toInt64S_ok ⟨_, _, rfl, (h.oldS s1)⟩ hr1) rfl rfl rfl rfl ?_
  intro w6 S1 p4 k4 h
  refine rp rfl rfl (r_stbox tabOk 1 h rfl rfl rfl rfl rfl rfl rfl ?_)
  intro w7 h
  refine r_nil (r_seq (r_region (rp rfl rfl (r_v (v_ld tabOk (h.box 3 rfl) (j := 3) rfl rfl rfl) rfl ?_))))
  obtain ⟨r2, hr2, hF⟩ := bindS hF
  refine r_callL r2 h call27 (laws_toInt64S_ok ⟨_, _, rfl, (h.oldS s2)⟩ hr2) rfl rfl rfl rfl ?_
  intro w8 S2 p5 k5 h
  refine rp rfl rfl (r_stbox tabOk 2 h rfl rfl rfl rfl rfl rfl rfl ?_)
  intro w9 h
  replace h : SH _ _ [Ch.own S2 (r2 : List Int) [.slice p5 r2.length k5], Ch.own S1 (r1 : List Int) [.slice p4 r1.length k4], Ch.box bb3 [.int .i64 a.Kind, .int .i64 a.Value, .slice p4 r1.length k4, .slice p5 r2.length k5, .slice none 0 0] 50, Ch.box bb2 [.int .i64 0, .int .i64 0, .slice none 0 0, .slice none 0 0, .slice none 0 0] 50, Ch.box bb1 [.int .i64 a.Kind, .int .i64 a.Value, .slice p1 a.From.length k1, .slice p2 a.Through.length k2, .slice p3 a.To.length k3] 35] := h
  refine r_nil (r_seq (r_region (rp rfl rfl (r_v (v_ld tabOk (h.box 4 rfl) (j := 4) rfl rfl rfl) rfl ?_))))
  obtain ⟨r3, hr3, hF⟩ := bindS hF
  refine r_callL r3 h call27 (laws_toInt64S_ok ⟨_, _, rfl, (h.oldS s3)⟩ hr3) rfl rfl rfl rfl ?_
  intro w10 S3 p6 k6 h
  refine rp rfl rfl (r_stbox tabOk 3 h rfl rfl rfl rfl rfl rfl rfl ?_)
  intro w11 h
  refine r_nil (r_seq (r_region (r_v (v_ld tabOk (h.box 3 rfl) (j := 0) rfl rfl rfl) rfl (r_stbox tabOk 4 h rfl rfl rfl rfl rfl rfl rfl ?_))))
  intro w12 h
  replace h : SH _ _ [Ch.own S3 (r3 : List Int) [.slice p6 r3.length k6], Ch.own S2 (r2 : List Int) [.slice p5 r2.length k5], Ch.own S1 (r1 : List Int) [.slice p4 r1.length k4], Ch.box bb3 [.int .i64 a.Kind, .int .i64 a.Value, .slice p4 r1.length k4, .slice p5 r2.length k5, .slice p6 r3.length k6] 50, Ch.box bb2 [.int .i64 a.Kind, .int .i64 a.Value, .slice p4 r1.length k4, .slice p5 r2.length k5, .slice p6 r3.length k6] 50, Ch.box bb1 [.int .i64 a.Kind, .int .i64 a.Value, .slice p1 a.From.length k1, .slice p2 a.Through.length k2, .slice p3 a.To.length k3] 35] := h
  refine r_nil ?_
  obtain rfl := someI hF
  exact r_retV tabOk (ρ := TException) [GoT.v TException [.int .i64 a.Kind, .int .i64 a.Value, .slice p4 r1.length k4, .slice p5 r2.length k5, .slice p6 r3.length k6]] h ⟨⟨_, _, _, rfl, rfl, h.box 4 rfl, rfl⟩, trivial⟩ (PV.done h (pv_one (po_TException (⟨a.Kind, a.Value, r1, r2, r3⟩ : TException) h (po_flat (S := fun _ => False) rfl) (po_flat (S := fun _ => False) rfl) (po_own 2 h rfl) (po_own 1 h rfl) (po_own 0 h rfl) (by rfl) (by rfl) (by rfl) (by rfl))))

def impl_length_impl_place (_ : Nat) (list : (List Tplace)) : Option Int :=
  some (list.length : Int)

theorem impl_length_impl_place_ok {n : Nat} {w : World} {list : (List Tplace)} {cs1 : List Value} (ha1 : GoT.R w (old w) list cs1) {r : Int} (hF : impl_length_impl_place n list = some r) : RetV Tryz.prog 83 [GoT.v (List Tplace) cs1] w r := by
  obtain ⟨p1, k1, rfl, s1⟩ := ha1
  refine retV_of_run Tryz.func83 rfl (m := 5) rfl rfl (fun h => ?_)
  rw [impl_length_impl_place] at hF
  exact r_seq (r_region (rp rfl rfl (r_nil (r_seq (r_region (rp rfl rfl (rp rfl rfl (rp rfl rfl (r_nil (r_rI tabOk h hF ⟨rfl, trivial⟩))))))))))

def impl_isValue (n : Nat) (kind : Int) (value : Int) : Option Bool :=
  bif (kind == 1) then
    some (value == 0)
  else
    bif (kind == 2) then
      (impl_within n value 1 10).bind fun r1 =>
      some r1
    else
      bif (kind == 3) then
        bif (kind == 3) then
          (impl_within n value 0 1000000000).bind fun r2 =>
          some r2
        else
          some false
      else
        bif (kind == 4) then
          (impl_within n value 0 1000000000).bind fun r3 =>
          some r3
        else
          some false

theorem impl_isValue_ok {n : Nat} {w : World} {kind : Int} {value : Int}  {r : Bool} (hF : impl_isValue n kind value = some r) : RetV Tryz.prog 84 [.int .i64 kind, .int .i64 value] w r := by
  refine retV_of_run Tryz.func84 rfl (m := 19) rfl rfl (fun h => ?_)
  rw [impl_isValue] at hF
  refine r_seq (r_region (rp rfl rfl (r_nil (r_seq (r_seq (r_region (rp rfl rfl (r_nil (r_block (r_seq (r_region ?_)))))))))))
  refine rp rfl rfl (rp rfl rfl (r_nil ?_))
  refine r_if rfl hF (fun hF => ?_) (fun hF => ?_)
  · exact r_seq (r_region (rp rfl rfl (rp rfl rfl (rp rfl rfl (r_nil (r_rB tabOk h hF ⟨rfl, trivial⟩))))))
  refine r_seq (r_region (rp rfl rfl (rp rfl rfl (r_nil ?_))))
  refine r_if rfl hF (fun hF => ?_) (fun hF => ?_)
  · refine r_seq (r_region (rp rfl rfl ?_))
    obtain ⟨r1, hr1, hF⟩ := bindS hF
    refine r_callB r1 h call100 (impl_within_ok hr1) rfl rfl rfl rfl ?_
    intro w1 h
    exact rp rfl rfl (r_nil (r_rB tabOk h hF ⟨rfl, trivial⟩))
  refine r_seq (r_seq (r_region (rp rfl rfl (rp rfl rfl (r_nil ?_)))))
  refine r_if rfl hF (fun hF => ?_) (fun hF => ?_)
  · refine r_skip ?_
    refine r_if rfl hF (fun hF => ?_) (fun hF => ?_)
    · refine r_seq (r_region (rp rfl rfl ?_))
      obtain ⟨r2, hr2, hF⟩ := bindS hF
      refine r_callB r2 h call100 (impl_within_ok hr2) rfl rfl rfl rfl ?_
      intro w2 h
      exact rp rfl rfl (r_nil (r_rB tabOk h hF ⟨rfl, trivial⟩))
    exact r_skip (r_blk (r_seq (r_region (rp rfl rfl (r_nil (r_rB tabOk h hF ⟨rfl, trivial⟩))))))
  refine r_region (rp rfl rfl (rp rfl rfl (r_nil ?_)))
  refine r_if rfl hF (fun hF => ?_) (fun hF => ?_)
  · refine r_seq (r_region (rp rfl rfl ?_))
    obtain ⟨r3, hr3, hF⟩ := bindS hF
    refine r_callB r3 h call100 (impl_within_ok hr3) rfl rfl rfl rfl ?_
    intro w3 h
    exact rp rfl rfl (r_nil (r_rB tabOk h hF ⟨rfl, trivial⟩))
  exact r_skip (r_blk (r_seq (r_region (rp rfl rfl (r_nil (r_rB tabOk h hF ⟨rfl, trivial⟩))))))

def impl_view_isException_L1 (v : (Option Tview)) (a_e : TException) : Nat → Int → Option (Flow Bool Int)
  | 0, _ => none
  | n + 1, i1 =>
    bif decide (i1 < ((3 : Nat) : Int)) then
      (idx ([a_e.From, a_e.Through, a_e.To] : List (List Int)) i1).bind fun y1 =>
      bif decide ((y1.length : Int) > 4) then
        some (.ret false)
      else
        (v).bind fun y2 =>
        (impl_length_impl_place n y2.places).bind fun r1 =>
        (impl_areWithin n y1 0 (W64 (r1 - 1))).bind fun r2 =>
        bif (!r2) then
          some (.ret false)
        else
          impl_view_isException_L1 v a_e n (W64 (i1 + 1))
    else
      some (.nxt i1)

def impl_view_isException (n : Nat) (v : (Option Tview)) (a_e : TException) : Option Bool :=
  (impl_view_isException_L1 v a_e n 0).bind fun o => match o with
  | .ret r => some r
  | .nxt _ =>
    (impl_isValue n a_e.Kind a_e.Value).bind fun r3 =>
    bif r3 then
      (impl_isIncreasing n a_e.From).bind fun r4 =>
      bif r4 then
        (impl_isIncreasing n a_e.To).bind fun r5 =>
        some r5
      else
        some false
    else
      some false

theorem impl_view_isException_ok {n : Nat} {w : World} {v : (Option Tview)} {a_e : TException} {cs1 : List Value} (ha1 : GoT.R w (old w) v cs1) {cs2 : List Value} (ha2 : GoT.R w (old w) a_e cs2) {r : Bool} (hF : impl_view_isException n v a_e = some r) : RetV Tryz.prog 41 [GoT.v (Option Tview) cs1, GoT.v TException cs2] w r := by
  obtain ⟨p1, rfl, s1⟩ := open_ptr ha1
  obtain ⟨p2, k1, p3, k2, p4, k3, rfl, s2, s3, s4⟩ := open_TException ha2
  refine retV_of_run Tryz.func41 rfl (m := 49) rfl rfl (fun h => ?_)
  rw [impl_view_isException] at hF
  refine r_seq (r_region (r_box h rfl rfl ?_))
  intro w1 bb1 h
  refine rp rfl rfl (r_nil (r_seq (r_seq (r_region (rp rfl rfl (r_v (v_ld tabOk (h.box 0 rfl) (j := 2) rfl rfl rfl) rfl (rp rfl rfl (r_v (v_ld tabOk (h.box 0 rfl) (j := 3) rfl rfl rfl) rfl (rp rfl rfl (r_v (v_ld tabOk (h.box 0 rfl) (j := 4) rfl rfl rfl) rfl (r_bsliceD tabOk [.tmp 8, .tmp 10, .tmp 12] _ ([a_e.From, a_e.Through, a_e.To] : List (List Int)) h rfl rfl rfl rfl rfl rfl rfl rfl rfl ⟨⟨_, _, rfl, s2⟩, ⟨_, _, rfl, s3⟩, ⟨_, _, rfl, s4⟩, trivial⟩ rfl ?_)))))))))))
  intro w2 p5 S1 h
  refine rp rfl rfl (rp rfl rfl (r_nil ?_))
  obtain ⟨o1, hF, hK1⟩ := bindS hF
  refine r_block (r_sub [(0, _), (3, _), (13, _), (14, _), (15, _)] ⟨rfl, rfl, rfl, rfl, rfl, trivial⟩ ?_)
  refine r_loop (fun m e w' => ∃ (i1 : Int), impl_view_isException_L1 v a_e m i1 = some o1 ∧ e = [(0, .pointer p1), (3, .pointer (some ⟨bb1, 0, none⟩)), (13, .slice p5 3 3), (14, .int .i64 ((3 : Nat) : Int)), (15, .int .i64 i1)] ∧ SH w w' [Ch.rowD w S1 (([a_e.From, a_e.Through, a_e.To] : List (List Int)) : List (List Int)) p5 3, Ch.box bb1 [.int .i64 a_e.Kind, .int .i64 a_e.Value, .slice p2 a_e.From.length k1, .slice p3 a_e.Through.length k2, .slice p4 a_e.To.length k3] 50]) n ⟨_, hF, rfl, h⟩ ?_
  rintro m1 e1 w3 ⟨i1, hF, rfl, h⟩
  rcases m1 with _ | m1
  · rw [impl_view_isException_L1] at hF
    cases hF
  rw [impl_view_isException_L1] at hF
  refine r_seq (r_region (rp rfl rfl (r_nil (r_seq ?_))))
  refine r_if rfl hF (fun hF => ?_) (fun hF => ?_)
  · refine r_skip (r_seq (r_block (r_seq (r_region ?_))))
    obtain ⟨y1, hy1, hF⟩ := bindS hF
    have he1 := idx_some hy1
    obtain ⟨b1, o_1, q1, cs3, hp1, hq1, -, hr1, hc2⟩ := h.atD 0 rfl hy1
    obtain ⟨p6, k4, rfl, s5⟩ := hr1
    refine r_v (v_ix tabOk hp1 hq1 ⟨he1.1, he1.2.1⟩ rfl rfl rfl rfl rfl rfl) rfl (r_v (v_ld tabOk hc2 (j := 0) rfl rfl rfl) rfl (rp rfl rfl (r_nil (r_seq (r_region (rp rfl rfl (rp rfl rfl (rp rfl rfl (rp rfl rfl ?_)))))))))
    by_cases hc3 : (decide ((y1.length : Int) > 4)) = true
    · replace hF := bifT hc3 hF
      refine r_setT hc3 (t := 22) rfl (r_not rfl rfl rfl (r_not rfl rfl rfl (r_not rfl rfl rfl (r_not rfl rfl rfl (r_not rfl rfl rfl (r_not rfl rfl rfl (r_not rfl rfl rfl (r_not rfl rfl rfl (r_not rfl rfl rfl (rp rfl rfl (r_nil ?_)))))))))))
      refine r_condT rfl rfl (r_seq (r_region (rp rfl rfl (r_nil ?_))))
      obtain rfl := someI hF; replace hF := hK1
      exact r_rB tabOk h hF ⟨rfl, trivial⟩
    replace hc3 := Bool.eq_false_iff.2 hc3
    replace hF := bifF hc3 hF
    refine r_setF hc3 (t := 22) rfl (r_wanted rfl (rp rfl rfl (r_wanted rfl (rp rfl rfl (r_wanted rfl ?_)))))
    obtain ⟨y2, hy2, hF⟩ := bindS hF
    obtain ⟨b2, o_2, cs4, rfl, -, hr2, hc4⟩ := PtR.get s1 hy2
    obtain ⟨p7, k5, p8, k6, p9, k7, p10, k8, p11, k9, p12, k10, p13, k11, p14, k12, p15, k13, p16, k14, rfl, s6, s7, s8, s9, s10, s11, s12, s13, s14, s15⟩ := open_Tview hr2
    refine rp rfl rfl (r_wanted rfl (rp rfl rfl (r_wanted rfl (r_v (v_ld tabOk (hc4.below h.below) (j := 5) rfl rfl rfl) rfl (r_wanted rfl ?_)))))
    obtain ⟨r1, hr3, hF⟩ := bindS hF
    refine r_callI r1 h call83 (impl_length_impl_place_ok ⟨_, _, rfl, (h.oldS s11)⟩ hr3) rfl rfl rfl rfl ?_
    intro w4 h
    refine r_wanted rfl (rp rfl rfl (r_wanted rfl ?_))
    obtain ⟨r2, hr4, hF⟩ := bindS hF
    refine r_callB r2 h call82 (impl_areWithin_ok ⟨_, _, rfl, (h.oldS s5)⟩ hr4) rfl rfl rfl rfl ?_
    intro w5 h
    refine r_wanted rfl (rp rfl rfl (rp rfl rfl (r_nil ?_)))
    refine r_if rfl hF (fun hF => ?_) (fun hF => ?_)
    · refine r_seq (r_region (rp rfl rfl (r_nil ?_)))
      obtain rfl := someI hF; replace hF := hK1
      exact r_rB tabOk h hF ⟨rfl, trivial⟩
    exact r_skip (r_blk (r_region (rp rfl rfl (rp rfl rfl (r_nil (r_back m1 [(0, _), (3, _), (13, _), (14, _), (15, _)] (Nat.lt_succ_self m1) ⟨rfl, rfl, rfl, rfl, rfl, trivial⟩ ⟨_, hF, rfl, h⟩))))))
  refine r_exit rfl ?_
  obtain rfl := someI hF; replace hF := hK1
  refine r_seq (r_region (rp rfl rfl (r_v (v_ld tabOk (h.box 1 rfl) (j := 0) rfl rfl rfl) rfl (rp rfl rfl (r_v (v_ld tabOk (h.box 1 rfl) (j := 1) rfl rfl rfl) rfl ?_)))))
  obtain ⟨r3, hr5, hF⟩ := bindS hF
  refine r_callB r3 h call84 (impl_isValue_ok hr5) rfl rfl rfl rfl ?_
  intro w6 h
  refine rp rfl rfl ?_
  by_cases hc6 : r3 = true
  · replace hF := bifT hc6 hF
    refine r_setT hc6 (t := 39) rfl (r_wanted rfl (rp rfl rfl (r_wanted rfl (r_v (v_ld tabOk (h.box 1 rfl) (j := 2) rfl rfl rfl) rfl (r_wanted rfl ?_)))))
    obtain ⟨r4, hr6, hF⟩ := bindS hF
    refine r_callB r4 h call85 (impl_isIncreasing_ok ⟨_, _, rfl, (h.oldS s2)⟩ hr6) rfl rfl rfl rfl ?_
    intro w7 h
    refine rp rfl rfl (rp rfl rfl ?_)
    by_cases hc7 : r4 = true
    · replace hF := bifT hc7 hF
      refine r_setT hc7 (t := 44) rfl (r_wanted rfl (rp rfl rfl (r_wanted rfl (r_v (v_ld tabOk (h.box 1 rfl) (j := 4) rfl rfl rfl) rfl (r_wanted rfl ?_)))))
      obtain ⟨r5, hr7, hF⟩ := bindS hF
      refine r_callB r5 h call85 (impl_isIncreasing_ok ⟨_, _, rfl, (h.oldS s4)⟩ hr7) rfl rfl rfl rfl ?_
      intro w8 h
      exact rp rfl rfl (rp rfl rfl (r_nil (r_rB tabOk h hF ⟨rfl, trivial⟩)))
    replace hc7 := Bool.eq_false_iff.2 hc7
    replace hF := bifF hc7 hF
    exact r_setF hc7 (t := 44) rfl (r_not rfl rfl rfl (r_not rfl rfl rfl (r_not rfl rfl rfl (rp rfl rfl (rp rfl rfl (r_nil (r_rB tabOk h hF ⟨rfl, trivial⟩)))))))
  replace hc6 := Bool.eq_false_iff.2 hc6
  replace hF := bifF hc6 hF
  refine r_setF hc6 (t := 39) rfl (r_not rfl rfl rfl (r_not rfl rfl rfl (r_not rfl rfl rfl (rp rfl rfl (rp rfl rfl (r_not rfl rfl rfl (r_not rfl rfl rfl (r_not rfl rfl rfl (rp rfl rfl (rp rfl rfl (r_nil ?_)))))))))))
  exact r_rB tabOk h hF ⟨rfl, trivial⟩

def impl_IsException (n : Nat) (b : TBlock) (a_e : TException) : Option Bool :=
  (impl_IsBlock n b).bind fun r1 =>
  bif r1 then
    (impl_newView n b).bind fun r2 =>
    (impl_view_isException n r2 a_e).bind fun r3 =>
    some r3
  else
    some false

theorem impl_IsException_ok {n : Nat} {w : World} {b : TBlock} {a_e : TException} {cs1 : List Value} (ha1 : GoT.R w (old w) b cs1) {cs2 : List Value} (ha2 : GoT.R w (old w) a_e cs2) {r : Bool} (hF : impl_IsException n b a_e = some r) : RetV Tryz.prog 13 [GoT.v TBlock cs1, GoT.v TException cs2] w r := by
  obtain ⟨p1, k1, p2, k2, p3, k3, p4, k4, p5, k5, rfl, s1, s2, s3, s4, s5⟩ := open_TBlock ha1
  obtain ⟨p6, k6, p7, k7, p8, k8, rfl, s6, s7, s8⟩ := open_TException ha2
  refine retV_of_run Tryz.func13 rfl (m := 13) rfl rfl (fun h => ?_)
  rw [impl_IsException] at hF
  refine r_seq (r_region (r_box h rfl rfl ?_))
  intro w1 bb1 h
  refine r_box h rfl rfl ?_
  intro w2 bb2 h
  refine rp rfl rfl (r_nil (r_seq ?_))
  refine r_any [] (fun w' => SH w w' [Ch.box bb2 [.int .i64 a_e.Kind, .int .i64 a_e.Value, .slice p6 a_e.From.length k6, .slice p7 a_e.Through.length k7, .slice p8 a_e.To.length k8] 50, Ch.box bb1 [.slice p1 b.Library.Cells.length k1, .slice p2 b.Design.Instances.length k2, .slice p3 b.Design.Nets.length k3, .slice p4 b.Design.Ports.length k4, .slice p5 b.Wires.length k5] 48]) rfl 9 rfl #[ff, ff, ff, ff, ff, ff, ff, ff, ff] (by kernel_rfl) (fun w3 hb => ?_)
  replace h := h.ext hb
  clear hb
  refine a_take 0 rfl #[tt, ff, ff, ff, ff, ff, ff, ff, ff] (by kernel_rfl) (by kernel_rfl) (fun w' hw => v_ld tabOk (hw.box 1 rfl) (j := 0) rfl rfl rfl) (h.pick [0, 1] rfl) rfl ?_
  refine a_only 1 rfl #[tt, tt, ff, ff, ff, ff, ff, ff, ff] (by kernel_rfl) (by kernel_rfl) ?_
  obtain ⟨r1, hr1, hF⟩ := bindS hF
  refine r_callB r1 h call39 (impl_IsBlock_ok (h.old ha1) hr1) rfl rfl rfl rfl ?_
  intro w4 h
  refine a_goal (fun _ => (h.pick [0, 1] rfl)) ?_
  refine a_take 2 rfl #[tt, tt, tt, ff, ff, ff, ff, ff, ff] (by kernel_rfl) (by kernel_rfl) (fun w' hw => v_p tabOk rfl w') (h.pick [0, 1] rfl) rfl ?_
  by_cases hc1 : r1 = true
  · replace hF := bifT hc1 hF
    refine a_setT hc1 (t := 7) rfl ?_
    refine a_takeW 3 rfl (by kernel_rfl) #[tt, tt, tt, tt, ff, ff, ff, ff, ff] (by kernel_rfl) (by kernel_rfl) (fun w' hw => v_ld tabOk (hw.box 1 rfl) (j := 0) rfl rfl rfl) (h.pick [0, 1] rfl) rfl ?_
    refine a_takeW 5 rfl (by kernel_rfl) #[tt, tt, tt, tt, ff, tt, ff, ff, ff] (by kernel_rfl) (by kernel_rfl) (fun w' hw => v_ld tabOk (hw.box 0 rfl) (j := 0) rfl rfl rfl) (h.pick [0, 1] rfl) rfl ?_
    refine a_only 4 rfl #[tt, tt, tt, tt, tt, tt, ff, ff, ff] (by kernel_rfl) (by kernel_rfl) ?_
    refine r_wanted rfl ?_
    have hg1 : Rg (old w) w (old w) w := .start (fun _ h => h)
    obtain ⟨r2, hr2, hF⟩ := bindS hF
    refine r_callR r2 hg1 h call40 (impl_newView_ok (hg1.regOld h) (hg1.inR h ha1) hr2) rfl rfl rfl rfl ?_
    intro w5 us1 B1 hg2 hu1 hz1 hv1
    have s9 := Up.S hg1 h hu1 s6
    have s10 := Up.S hg1 h hu1 s7
    have s11 := Up.S hg1 h hu1 s8
    have s12 := Up.R hg1 h hu1 ha2
    have hb1 := h.below.trans (hu1.below.mono h.below.size)
    have hC1 := ((h.pick [0, 1] rfl)).ext hu1.below
    replace h := hz1
    obtain ⟨cs3, rfl, hr3⟩ := rs_one hv1
    obtain ⟨p9, rfl, s13⟩ := open_ptr hr3
    refine a_goal (fun _ => (hC1.ext h.below)) ?_
    refine a_only 6 rfl #[tt, tt, tt, tt, tt, tt, tt, ff, ff] (by kernel_rfl) (by kernel_rfl) ?_
    refine r_wanted rfl ?_
    obtain ⟨r3, hr4, hF⟩ := bindS hF
    refine r_callB r3 h call41 (impl_view_isException_ok (h.old (GoT.mono s13 hg2.old)) (h.old (GoT.mono s12 hg2.old)) hr4) rfl rfl rfl rfl ?_
    intro w6 h
    refine a_goal (fun _ => (hC1.ext h.below)) ?_
    refine a_take 7 rfl #[tt, tt, tt, tt, tt, tt, tt, tt, ff] (by kernel_rfl) (by kernel_rfl) (fun w' hw => v_p tabOk rfl w') (hC1.ext h.below) rfl ?_
    refine a_take 8 rfl #[tt, tt, tt, tt, tt, tt, tt, tt, tt] (by kernel_rfl) (by kernel_rfl) (fun w' hw => v_p tabOk rfl w') (hC1.ext h.below) rfl ?_
    refine a_done (by kernel_rfl) ?_
    replace h := h.unbase hg2.below (show NoD [] from trivial)
    exact r_rB tabOk h hF ⟨rfl, trivial⟩
  replace hc1 := Bool.eq_false_iff.2 hc1
  replace hF := bifF hc1 hF
  refine a_setF hc1 (t := 7) rfl ?_
  refine a_not 3 rfl (by kernel_rfl) rfl #[tt, tt, tt, tt, ff, ff, ff, ff, ff] (by kernel_rfl) (by kernel_rfl) (h.pick [0, 1] rfl) rfl ?_
  refine a_not 4 rfl (by kernel_rfl) rfl #[tt, tt, tt, tt, tt, ff, ff, ff, ff] (by kernel_rfl) (by kernel_rfl) (h.pick [0, 1] rfl) rfl ?_
  refine a_not 5 rfl (by kernel_rfl) rfl #[tt, tt, tt, tt, tt, tt, ff, ff, ff] (by kernel_rfl) (by kernel_rfl) (h.pick [0, 1] rfl) rfl ?_
  refine a_not 6 rfl (by kernel_rfl) rfl #[tt, tt, tt, tt, tt, tt, tt, ff, ff] (by kernel_rfl) (by kernel_rfl) (h.pick [0, 1] rfl) rfl ?_
  refine a_take 7 rfl #[tt, tt, tt, tt, tt, tt, tt, tt, ff] (by kernel_rfl) (by kernel_rfl) (fun w' hw => v_p tabOk rfl w') (h.pick [0, 1] rfl) rfl ?_
  refine a_take 8 rfl #[tt, tt, tt, tt, tt, tt, tt, tt, tt] (by kernel_rfl) (by kernel_rfl) (fun w' hw => v_p tabOk rfl w') (h.pick [0, 1] rfl) rfl ?_
  refine a_done (by kernel_rfl) ?_
  exact r_rB tabOk h hF ⟨rfl, trivial⟩

def laws_eqException (n : Nat) (a : TException) (b : TException) : Option Bool :=
  bif (a.Kind != b.Kind) then
    some false
  else
    bif (a.Value != b.Value) then
      some false
    else
      (laws_eqInt64S n a.From b.From).bind fun r1 =>
      bif (!r1) then
        some false
      else
        (laws_eqInt64S n a.Through b.Through).bind fun r2 =>
        bif (!r2) then
          some false
        else
          (laws_eqInt64S n a.To b.To).bind fun r3 =>
          bif (!r3) then
            some false
          else
            some true

theorem laws_eqException_ok {n : Nat} {w : World} {a : TException} {b : TException} {cs1 : List Value} (ha1 : GoT.R w (old w) a cs1) {cs2 : List Value} (ha2 : GoT.R w (old w) b cs2) {r : Bool} (hF : laws_eqException n a b = some r) : RetV Tryz.prog 15 [GoT.v TException cs1, GoT.v TException cs2] w r := by
  obtain ⟨p1, k1, p2, k2, p3, k3, rfl, s1, s2, s3⟩ := open_TException ha1
  obtain ⟨p4, k4, p5, k5, p6, k6, rfl, s4, s5, s6⟩ := open_TException ha2
  refine retV_of_run Tryz.func15 rfl (m := 33) rfl rfl (fun h => ?_)
  rw [laws_eqException] at hF
  refine r_seq (r_region (r_box h rfl rfl ?_))
  intro w1 bb1 h
  refine r_box h rfl rfl ?_
  intro w2 bb2 h
  refine rp rfl rfl (r_nil (r_seq (r_seq (r_region (rp rfl rfl (r_v (v_ld tabOk (h.box 1 rfl) (j := 0) rfl rfl rfl) rfl (rp rfl rfl (r_v (v_ld tabOk (h.box 0 rfl) (j := 0) rfl rfl rfl) rfl (rp rfl rfl (r_nil ?_))))))))))
  refine r_if rfl hF (fun hF => ?_) (fun hF => ?_)
  · exact r_seq (r_region (rp rfl rfl (r_nil (r_rB tabOk h hF ⟨rfl, trivial⟩))))
  refine r_skip (r_seq (r_seq (r_region (rp rfl rfl (r_v (v_ld tabOk (h.box 1 rfl) (j := 1) rfl rfl rfl) rfl (rp rfl rfl (r_v (v_ld tabOk (h.box 0 rfl) (j := 1) rfl rfl rfl) rfl (rp rfl rfl (r_nil ?_)))))))))
  refine r_if rfl hF (fun hF => ?_) (fun hF => ?_)
  · exact r_seq (r_region (rp rfl rfl (r_nil (r_rB tabOk h hF ⟨rfl, trivial⟩))))
  refine r_skip (r_seq (r_seq (r_region (rp rfl rfl (r_v (v_ld tabOk (h.box 1 rfl) (j := 2) rfl rfl rfl) rfl (rp rfl rfl (r_v (v_ld tabOk (h.box 0 rfl) (j := 2) rfl rfl rfl) rfl ?_)))))))
  obtain ⟨r1, hr1, hF⟩ := bindS hF
  refine r_callB r1 h call22 (laws_eqInt64S_ok ⟨_, _, rfl, (h.oldS s1)⟩ ⟨_, _, rfl, (h.oldS s4)⟩ hr1) rfl rfl rfl rfl ?_
  intro w3 h
  refine rp rfl rfl (r_nil ?_)
  refine r_if rfl hF (fun hF => ?_) (fun hF => ?_)
  · exact r_seq (r_region (rp rfl rfl (r_nil (r_rB tabOk h hF ⟨rfl, trivial⟩))))
  refine r_skip (r_seq (r_seq (r_region (rp rfl rfl (r_v (v_ld tabOk (h.box 1 rfl) (j := 3) rfl rfl rfl) rfl (rp rfl rfl (r_v (v_ld tabOk (h.box 0 rfl) (j := 3) rfl rfl rfl) rfl ?_)))))))
  obtain ⟨r2, hr2, hF⟩ := bindS hF
  refine r_callB r2 h call22 (laws_eqInt64S_ok ⟨_, _, rfl, (h.oldS s2)⟩ ⟨_, _, rfl, (h.oldS s5)⟩ hr2) rfl rfl rfl rfl ?_
  intro w4 h
  refine rp rfl rfl (r_nil ?_)
  refine r_if rfl hF (fun hF => ?_) (fun hF => ?_)
  · exact r_seq (r_region (rp rfl rfl (r_nil (r_rB tabOk h hF ⟨rfl, trivial⟩))))
  refine r_skip (r_seq (r_seq (r_region (rp rfl rfl (r_v (v_ld tabOk (h.box 1 rfl) (j := 4) rfl rfl rfl) rfl (rp rfl rfl (r_v (v_ld tabOk (h.box 0 rfl) (j := 4) rfl rfl rfl) rfl ?_)))))))
  obtain ⟨r3, hr3, hF⟩ := bindS hF
  refine r_callB r3 h call22 (laws_eqInt64S_ok ⟨_, _, rfl, (h.oldS s3)⟩ ⟨_, _, rfl, (h.oldS s6)⟩ hr3) rfl rfl rfl rfl ?_
  intro w5 h
  refine rp rfl rfl (r_nil ?_)
  refine r_if rfl hF (fun hF => ?_) (fun hF => ?_)
  · exact r_seq (r_region (rp rfl rfl (r_nil (r_rB tabOk h hF ⟨rfl, trivial⟩))))
  exact r_skip (r_seq (r_region (rp rfl rfl (r_nil (r_rB tabOk h hF ⟨rfl, trivial⟩)))))

def laws_FnExactIsException (n : Nat) (aB : TBlock) (aE : TException) : Option Bool :=
  (laws_szBlock n aB 1048576).bind fun r1 =>
  bif decide (r1 < 0) then
    some true
  else
    (laws_szException n aE r1).bind fun r2 =>
    bif decide (r2 < 0) then
      some true
    else
      (laws_toBlock n aB).bind fun r3 =>
      (laws_toException n aE).bind fun r4 =>
      (spec_IsException n r3 r4).bind fun r5 =>
      (laws_toBlock n aB).bind fun r6 =>
      (laws_toException n aE).bind fun r7 =>
      (impl_IsException n r6 r7).bind fun r8 =>
      bif (!(r8 == r5)) then
        some false
      else
        (laws_toBlock n aB).bind fun r9 =>
        (laws_eqBlock n r6 r9).bind fun r10 =>
        bif (!r10) then
          some false
        else
          (laws_toException n aE).bind fun r11 =>
          (laws_eqException n r7 r11).bind fun r12 =>
          bif (!r12) then
            some false
          else
            some true

theorem laws_FnExactIsException_ok {n : Nat} {w : World} {aB : TBlock} {aE : TException} {cs1 : List Value} (ha1 : GoT.R w (old w) aB cs1) {cs2 : List Value} (ha2 : GoT.R w (old w) aE cs2) {r : Bool} (hF : laws_FnExactIsException n aB aE = some r) : RetV Tryz.prog 3 [GoT.v TBlock cs1, GoT.v TException cs2] w r := by
  obtain ⟨p1, k1, p2, k2, p3, k3, p4, k4, p5, k5, rfl, s1, s2, s3, s4, s5⟩ := open_TBlock ha1
  obtain ⟨p6, k6, p7, k7, p8, k8, rfl, s6, s7, s8⟩ := open_TException ha2
  refine retV_of_run Tryz.func3 rfl (m := 45) rfl rfl (fun h => ?_)
  rw [laws_FnExactIsException] at hF
  refine r_seq (r_region (r_box h rfl rfl ?_))
  intro w1 bb1 h
  refine r_box h rfl rfl ?_
  intro w2 bb2 h
  refine rp rfl rfl (r_nil (r_seq (r_region (rp rfl rfl (r_nil (r_seq (r_region (r_v (v_ld tabOk (h.box 1 rfl) (j := 0) rfl rfl rfl) rfl (rp rfl rfl ?_)))))))))
  obtain ⟨r1, hr1, hF⟩ := bindS hF
  refine r_callI r1 h call8 (laws_szBlock_ok (h.old ha1) hr1) rfl rfl rfl rfl ?_
  intro w3 h
  refine rp rfl rfl (r_nil (r_seq (r_seq (r_region (rp rfl rfl (rp rfl rfl (r_nil ?_)))))))
  refine r_if rfl hF (fun hF => ?_) (fun hF => ?_)
  · exact r_seq (r_region (rp rfl rfl (r_nil (r_rB tabOk h hF ⟨rfl, trivial⟩))))
  refine r_skip (r_seq (r_region (r_v (v_ld tabOk (h.box 0 rfl) (j := 0) rfl rfl rfl) rfl (rp rfl rfl ?_))))
  obtain ⟨r2, hr2, hF⟩ := bindS hF
  refine r_callI r2 h call9 (laws_szException_ok (h.old ha2) hr2) rfl rfl rfl rfl ?_
  intro w4 h
  refine rp rfl rfl (r_nil (r_seq (r_seq (r_region (rp rfl rfl (rp rfl rfl (r_nil ?_)))))))
  refine r_if rfl hF (fun hF => ?_) (fun hF => ?_)
  · exact r_seq (r_region (rp rfl rfl (r_nil (r_rB tabOk h hF ⟨rfl, trivial⟩))))
  refine r_skip (r_seq ?_)
  refine r_any [] (fun w' => SH w w' [Ch.box bb2 [.int .i64 aE.Kind, .int .i64 aE.Value, .slice p6 aE.From.length k6, .slice p7 aE.Through.length k7, .slice p8 aE.To.length k8] 35, Ch.box bb1 [.slice p1 aB.Library.Cells.length k1, .slice p2 aB.Design.Instances.length k2, .slice p3 aB.Design.Nets.length k3, .slice p4 aB.Design.Ports.length k4, .slice p5 aB.Wires.length k5] 32]) rfl 6 rfl #[ff, ff, ff, ff, ff, ff] (by kernel_rfl) (fun w5 hb => ?_)
  replace h := h.ext hb
  clear hb
  refine a_take 0 rfl #[tt, ff, ff, ff, ff, ff] (by kernel_rfl) (by kernel_rfl) (fun w' hw => v_ld tabOk (hw.box 1 rfl) (j := 0) rfl rfl rfl) (h.pick [0, 1] rfl) rfl ?_
  refine a_take 2 rfl #[tt, ff, tt, ff, ff, ff] (by kernel_rfl) (by kernel_rfl) (fun w' hw => v_ld tabOk (hw.box 0 rfl) (j := 0) rfl rfl rfl) (h.pick [0, 1] rfl) rfl ?_
  refine a_only 1 rfl #[tt, tt, tt, ff, ff, ff] (by kernel_rfl) (by kernel_rfl) ?_
  obtain ⟨r3, hr3, hF⟩ := bindS hF
  refine r_callO r3 h call11 (laws_toBlock_ok (h.old ha1) hr3) rfl rfl rfl rfl ?_
  intro w6 S1 cs3 h
  obtain ⟨p9, k9, p10, k10, p11, k11, p12, k12, p13, k13, rfl, -, -, -, -, -⟩ := open_TBlock (h.own 0 rfl)
  refine a_goal (fun _ => (h.pick [1, 2] rfl)) ?_
  refine a_only 3 rfl #[tt, tt, tt, tt, ff, ff] (by kernel_rfl) (by kernel_rfl) ?_
  obtain ⟨r4, hr4, hF⟩ := bindS hF
  refine r_callO r4 h call12 (laws_toException_ok (h.old ha2) hr4) rfl rfl rfl rfl ?_
  intro w7 S2 cs4 h
  obtain ⟨p14, k14, p15, k15, p16, k16, rfl, -, -, -⟩ := open_TException (h.own 0 rfl)
  refine a_goal (fun _ => (h.pick [2, 3] rfl)) ?_
  refine a_only 4 rfl #[tt, tt, tt, tt, tt, ff] (by kernel_rfl) (by kernel_rfl) ?_
  obtain ⟨r5, hr5, hF⟩ := bindS hF
  refine r_callB r5 h call10 (spec_IsException_ok (h.own 1 rfl) (h.own 0 rfl) hr5) rfl rfl rfl rfl ?_
  intro w8 h
  refine a_goal (fun _ => (h.pick [2, 3] rfl)) ?_
  refine a_take 5 rfl #[tt, tt, tt, tt, tt, tt] (by kernel_rfl) (by kernel_rfl) (fun w' hw => v_p tabOk rfl w') (h.pick [2, 3] rfl) rfl ?_
  refine a_done (by kernel_rfl) ?_
  refine r_seq (r_region (r_v (v_ld tabOk (h.box 3 rfl) (j := 0) rfl rfl rfl) rfl ?_))
  obtain ⟨r6, hr6, hF⟩ := bindS hF
  refine r_callO r6 h call11 (laws_toBlock_ok (h.old ha1) hr6) rfl rfl rfl rfl ?_
  intro w9 S3 cs5 h
  obtain ⟨p17, k17, p18, k18, p19, k19, p20, k20, p21, k21, rfl, -, -, -, -, -⟩ := open_TBlock (h.own 0 rfl)
  refine r_alloc tabOk h rfl rfl rfl ?_
  intro w10 bb3 h
  refine r_stbox tabOk 0 h rfl rfl rfl rfl rfl rfl rfl ?_
  intro w11 h
  refine r_nil (r_seq (r_region (r_v (v_ld tabOk (h.box 4 rfl) (j := 0) rfl rfl rfl) rfl ?_)))
  obtain ⟨r7, hr7, hF⟩ := bindS hF
  refine r_callO r7 h call12 (laws_toException_ok (h.old ha2) hr7) rfl rfl rfl rfl ?_
  intro w12 S4 cs6 h
  obtain ⟨p22, k22, p23, k23, p24, k24, rfl, -, -, -⟩ := open_TException (h.own 0 rfl)
  refine r_alloc tabOk h rfl rfl rfl ?_
  intro w13 bb4 h
  refine r_stbox tabOk 0 h rfl rfl rfl rfl rfl rfl rfl ?_
  intro w14 h
  replace h : SH _ _ [Ch.box bb4 [.int .i64 r7.Kind, .int .i64 r7.Value, .slice p22 r7.From.length k22, .slice p23 r7.Through.length k23, .slice p24 r7.To.length k24] 50, Ch.own S4 (r7 : TException) [.int .i64 r7.Kind, .int .i64 r7.Value, .slice p22 r7.From.length k22, .slice p23 r7.Through.length k23, .slice p24 r7.To.length k24], Ch.box bb3 [.slice p17 r6.Library.Cells.length k17, .slice p18 r6.Design.Instances.length k18, .slice p19 r6.Design.Nets.length k19, .slice p20 r6.Design.Ports.length k20, .slice p21 r6.Wires.length k21] 48, Ch.own S3 (r6 : TBlock) [.slice p17 r6.Library.Cells.length k17, .slice p18 r6.Design.Instances.length k18, .slice p19 r6.Design.Nets.length k19, .slice p20 r6.Design.Ports.length k20, .slice p21 r6.Wires.length k21], Ch.own S2 (r4 : TException) [.int .i64 r4.Kind, .int .i64 r4.Value, .slice p14 r4.From.length k14, .slice p15 r4.Through.length k15, .slice p16 r4.To.length k16], Ch.own S1 (r3 : TBlock) [.slice p9 r3.Library.Cells.length k9, .slice p10 r3.Design.Instances.length k10, .slice p11 r3.Design.Nets.length k11, .slice p12 r3.Design.Ports.length k12, .slice p13 r3.Wires.length k13], Ch.box bb2 [.int .i64 aE.Kind, .int .i64 aE.Value, .slice p6 aE.From.length k6, .slice p7 aE.Through.length k7, .slice p8 aE.To.length k8] 35, Ch.box bb1 [.slice p1 aB.Library.Cells.length k1, .slice p2 aB.Design.Instances.length k2, .slice p3 aB.Design.Nets.length k3, .slice p4 aB.Design.Ports.length k4, .slice p5 aB.Wires.length k5] 32] := h
  refine r_nil (r_seq (r_region (r_v (v_ld tabOk (h.box 2 rfl) (j := 0) rfl rfl rfl) rfl (r_v (v_ld tabOk (h.box 0 rfl) (j := 0) rfl rfl rfl) rfl ?_))))
  obtain ⟨r8, hr8, hF⟩ := bindS hF
  refine r_callB r8 h call13 (impl_IsException_ok (h.own 3 rfl) (h.own 1 rfl) hr8) rfl rfl rfl rfl ?_
  intro w15 h
  refine rp rfl rfl (r_nil (r_seq (r_seq (r_region (rp rfl rfl (rp rfl rfl (rp rfl rfl (r_nil ?_))))))))
  refine r_if rfl hF (fun hF => ?_) (fun hF => ?_)
  · exact r_seq (r_region (rp rfl rfl (r_nil (r_rB tabOk h hF ⟨rfl, trivial⟩))))
  refine r_skip (r_seq (r_seq ?_))
  refine r_any [] (fun w' => SH w w' [Ch.box bb3 [.slice p17 r6.Library.Cells.length k17, .slice p18 r6.Design.Instances.length k18, .slice p19 r6.Design.Nets.length k19, .slice p20 r6.Design.Ports.length k20, .slice p21 r6.Wires.length k21] 48, Ch.box bb1 [.slice p1 aB.Library.Cells.length k1, .slice p2 aB.Design.Instances.length k2, .slice p3 aB.Design.Nets.length k3, .slice p4 aB.Design.Ports.length k4, .slice p5 aB.Wires.length k5] 32]) rfl 5 rfl #[ff, ff, ff, ff, ff] (by kernel_rfl) (fun w16 hb => ?_)
  replace h := h.ext hb
  clear hb
  refine a_take 0 rfl #[tt, ff, ff, ff, ff] (by kernel_rfl) (by kernel_rfl) (fun w' hw => v_ld tabOk (hw.box 0 rfl) (j := 0) rfl rfl rfl) (h.pick [2, 7] rfl) rfl ?_
  refine a_take 1 rfl #[tt, tt, ff, ff, ff] (by kernel_rfl) (by kernel_rfl) (fun w' hw => v_ld tabOk (hw.box 1 rfl) (j := 0) rfl rfl rfl) (h.pick [2, 7] rfl) rfl ?_
  refine a_only 2 rfl #[tt, tt, tt, ff, ff] (by kernel_rfl) (by kernel_rfl) ?_
  obtain ⟨r9, hr9, hF⟩ := bindS hF
  refine r_callO r9 h call11 (laws_toBlock_ok (h.old ha1) hr9) rfl rfl rfl rfl ?_
  intro w17 S5 cs7 h
  obtain ⟨p25, k25, p26, k26, p27, k27, p28, k28, p29, k29, rfl, -, -, -, -, -⟩ := open_TBlock (h.own 0 rfl)
  refine a_goal (fun _ => (h.pick [3, 8] rfl)) ?_
  refine a_only 3 rfl #[tt, tt, tt, tt, ff] (by kernel_rfl) (by kernel_rfl) ?_
  obtain ⟨r10, hr10, hF⟩ := bindS hF
  refine r_callB r10 h call14 (laws_eqBlock_ok (h.own 4 rfl) (h.own 0 rfl) hr10) rfl rfl rfl rfl ?_
  intro w18 h
  refine a_goal (fun _ => (h.pick [3, 8] rfl)) ?_
  refine a_take 4 rfl #[tt, tt, tt, tt, tt] (by kernel_rfl) (by kernel_rfl) (fun w' hw => v_p tabOk rfl w') (h.pick [3, 8] rfl) rfl ?_
  refine a_done (by kernel_rfl) ?_
  refine r_if rfl hF (fun hF => ?_) (fun hF => ?_)
  · exact r_seq (r_region (rp rfl rfl (r_nil (r_rB tabOk h hF ⟨rfl, trivial⟩))))
  refine r_skip (r_seq (r_seq ?_))
  refine r_any [] (fun w' => SH w w' [Ch.box bb4 [.int .i64 r7.Kind, .int .i64 r7.Value, .slice p22 r7.From.length k22, .slice p23 r7.Through.length k23, .slice p24 r7.To.length k24] 50, Ch.box bb2 [.int .i64 aE.Kind, .int .i64 aE.Value, .slice p6 aE.From.length k6, .slice p7 aE.Through.length k7, .slice p8 aE.To.length k8] 35]) rfl 5 rfl #[ff, ff, ff, ff, ff] (by kernel_rfl) (fun w19 hb => ?_)
  replace h := h.ext hb
  clear hb
  refine a_take 0 rfl #[tt, ff, ff, ff, ff] (by kernel_rfl) (by kernel_rfl) (fun w' hw => v_ld tabOk (hw.box 0 rfl) (j := 0) rfl rfl rfl) (h.pick [1, 7] rfl) rfl ?_
  refine a_take 1 rfl #[tt, tt, ff, ff, ff] (by kernel_rfl) (by kernel_rfl) (fun w' hw => v_ld tabOk (hw.box 1 rfl) (j := 0) rfl rfl rfl) (h.pick [1, 7] rfl) rfl ?_
  refine a_only 2 rfl #[tt, tt, tt, ff, ff] (by kernel_rfl) (by kernel_rfl) ?_
  obtain ⟨r11, hr11, hF⟩ := bindS hF
  refine r_callO r11 h call12 (laws_toException_ok (h.old ha2) hr11) rfl rfl rfl rfl ?_
  intro w20 S6 cs8 h
  obtain ⟨p30, k30, p31, k31, p32, k32, rfl, -, -, -⟩ := open_TException (h.own 0 rfl)
  refine a_goal (fun _ => (h.pick [2, 8] rfl)) ?_
  refine a_only 3 rfl #[tt, tt, tt, tt, ff] (by kernel_rfl) (by kernel_rfl) ?_
  obtain ⟨r12, hr12, hF⟩ := bindS hF
  refine r_callB r12 h call15 (laws_eqException_ok (h.own 3 rfl) (h.own 0 rfl) hr12) rfl rfl rfl rfl ?_
  intro w21 h
  refine a_goal (fun _ => (h.pick [2, 8] rfl)) ?_
  refine a_take 4 rfl #[tt, tt, tt, tt, tt] (by kernel_rfl) (by kernel_rfl) (fun w' hw => v_p tabOk rfl w') (h.pick [2, 8] rfl) rfl ?_
  refine a_done (by kernel_rfl) ?_
  refine r_if rfl hF (fun hF => ?_) (fun hF => ?_)
  · exact r_seq (r_region (rp rfl rfl (r_nil (r_rB tabOk h hF ⟨rfl, trivial⟩))))
  exact r_skip (r_seq (r_region (rp rfl rfl (r_nil (r_rB tabOk h hF ⟨rfl, trivial⟩)))))

end Go.Fw


namespace Go.Fw
open Go

def rng_Exception (x : TException) : Prop := rngI x.Kind ∧ rngI x.Value ∧ (rngL rngI) x.From ∧ (rngL rngI) x.Through ∧ (rngL rngI) x.To
def w_Exception (x : TException) : Nat := w_Int64S x.From + w_Int64S x.Through + w_Int64S x.To
structure ok_Exception (x : TException) : Prop where
  Kind : okI x.Kind
  Value : okI x.Value
  From : (okL okI) x.From
  Through : (okL okI) x.Through
  To : (okL okI) x.To
theorem okof_Exception {x : TException} (h : rng_Exception x) (w : w_Exception x ≤ 1048576) : ok_Exception x := ⟨h.1, h.2.1, okof_Int64S (h.2.2.1) (by simp only [w_Exception] at w; omega), okof_Int64S (h.2.2.2.1) (by simp only [w_Exception] at w; omega), okof_Int64S (h.2.2.2.2) (by simp only [w_Exception] at w; omega)⟩
theorem eq_Exception {a : TException} (h : w_Exception a ≤ 1048576) : Ev (fun n => laws_eqException n a a) true := by
  unfold laws_eqException
  simp only [w_Exception] at h
  exact Ev.ff not_ne_self (Ev.ff not_ne_self (Ev.bind (eq_Int64S (a := a.From) (by omega)) (Ev.ff rfl (Ev.bind (eq_Int64S (a := a.Through) (by omega)) (Ev.ff rfl (Ev.bind (eq_Int64S (a := a.To) (by omega)) (Ev.ff rfl (.done))))))))

theorem sz_Exception {a : TException} {left : Int} (h : rng_Exception a) (h0 : 0 ≤ left) (h1 : left ≤ 1048576) : Sz (fun n => laws_szException n a left) (fun r => r = left - (w_Exception a : Int)) := by
  unfold laws_szException
  obtain ⟨h_0, h_1, h_2, h_3, h_4⟩ := h
  exact Sz.step (sz_Int64S (a := a.From) h_2 (by omega) (by omega)) fun r0 p0 q0 => Sz.step (sz_Int64S (a := a.Through) h_3 (by omega) (by omega)) fun r1 p1 q1 => Sz.step (sz_Int64S (a := a.To) h_4 (by omega) (by omega)) fun r2 p2 q2 => Sz.done p2 (by simp only [w_Exception]; omega)

theorem to_Exception {a : TException} (h : w_Exception a ≤ 1048576) : Ev (fun n => laws_toException n a) a := by
  unfold laws_toException
  simp only [w_Exception] at h
  exact Ev.bind (to_Int64S (a := a.From) (by omega)) (Ev.bind (to_Int64S (a := a.Through) (by omega)) (Ev.bind (to_Int64S (a := a.To) (by omega)) (.done)))

end Go.Fw


namespace Go.Fw
open Go
set_option maxRecDepth 100000

theorem l22CountE_ev {b : TBlock} (h : blockB b = true) : Ev (fun n => spec_l22Count n b) ((places b.Design).length : Int) := by
  unfold spec_l22Count
  exact Ev.bind (sPlaces_ev (designB_small (blockB_des h))) (Ev.now (by rw [List.length_map]))

def plsB (b : TBlock) (xs : List Int) : Bool := decide (xs.length ≤ 4) && allN (fun j => inPl b (at0 xs j)) xs.length
def valB (k v : Int) : Bool := bif k == 1 then v == 0 else bif k == 2 then inI v 1 10 else bif (k == 3) || (k == 4) then inI v 0 1000000000 else false
def excB (b : TBlock) (e : TException) : Bool := (plsB b e.From && (plsB b e.Through && plsB b e.To)) && (valB e.Kind e.Value && (incB e.From && incB e.To))

theorem l22Places_ev {b : TBlock} {xs : List Int} {sorted : Bool} (h : blockB b = true) (hl : xs.length ≤ 1048576) : Ev (fun n => spec_l22Places n b xs sorted) (plsB b xs && (!sorted || incB xs)) := by
  have hpl := places_len (designB_small (blockB_des h))
  have hL : Ev (fun n => spec_l22Places_L1 b xs sorted n 0) (bif allN (fun j => inPl b (at0 xs j) && (!sorted || stepB xs j)) xs.length then .nxt (xs.length : Int) else .ret false) := by
    refine ev_all ?_ (fun j hj X hX => Ev.succ ?_)
    · exact Ev.succ (by simp only [spec_l22Places_L1, lt_nat_f (Nat.le_refl _), cond_false]; exact .done)
    · simp only [spec_l22Places_L1, lt_nat_t hj, cond_true, idx_at0 hj, Option.bind_some, l01In_eq, w64_succ (show j < 9223372036854775807 by omega)]
      refine Ev.bind (l22CountE_ev h) ?_
      rw [w64_pred (show (places b.Design).length ≤ 9223372036854775807 by omega)]
      simp only [bnot_bif]
      refine Ev.okP (a := inPl b (at0 xs j)) fun _ => ?_
      cases sorted
      · exact hX
      · refine Ev.tt rfl ?_
        unfold stepB
        by_cases h0 : j = 0
        · subst h0
          exact Ev.ff (by decide) hX
        · refine Ev.tt (by simp; omega) ?_
          simp only [show (j : Int) - 1 = ((j - 1 : Nat) : Int) by omega, w64_of (show -9223372036854775808 ≤ ((j - 1 : Nat) : Int) by omega) (by omega), idx_at0 (show j - 1 < xs.length by omega), Option.bind_some]
          rw [show decide (at0 xs (j - 1) ≥ at0 xs j) = !decide (at0 xs (j - 1) < at0 xs j) by rw [Bool.eq_iff_iff]; simp, show decide (j = 0) = false by simp; omega]
          simp only [bnot_bif, Bool.not_true, Bool.false_or]
          exact Ev.okP1 fun _ => hX
  unfold spec_l22Places
  have e : (plsB b xs && (!sorted || incB xs)) = (allN (fun j => inPl b (at0 xs j) && (!sorted || stepB xs j)) xs.length && decide (xs.length ≤ 4)) := by
    unfold plsB incB
    rw [allN_and]
    cases sorted
    · simp only [Bool.not_false, Bool.true_or, Bool.and_true]
      rw [show allN (fun _ => true) xs.length = true from allN_iff.2 (fun _ _ => rfl), Bool.and_true, Bool.and_comm]
    · simp only [Bool.not_true, Bool.false_or]
      rw [Bool.and_assoc, Bool.and_comm]
  rw [e]
  refine Ev.bind hL ?_
  cases allN (fun j => inPl b (at0 xs j) && (!sorted || stepB xs j)) xs.length
  · exact .done
  · refine Ev.now ?_
    show some (decide ((xs.length : Int) ≤ ((4 : Nat) : Int))) = some (true && decide (xs.length ≤ 4))
    rw [le_natB, Bool.true_and]

theorem isValue_eq {n : Nat} {k v : Int} : impl_isValue n k v = some (valB k v) := by
  simp only [impl_isValue, within_eq, Option.bind_some]
  unfold valB
  cases (k == 1) <;> cases (k == 2) <;> cases (k == 3) <;> cases (k == 4) <;> rfl

theorem isException_ev {b : TBlock} {V : Tview} {e : TException} (h : blockB b = true) (hP : V.places = places b.Design) (he : ok_Exception e) : Ev (fun n => impl_view_isException n (some V) e) (excB b e) := by
  have hpl := places_len (designB_small (blockB_des h))
  have one : ∀ xs : List Int, xs.length ≤ 1048576 → ∀ {F : Nat → Option (Flow Bool Int)} {X : Flow Bool Int}, Ev F X →
      Ev (fun n => bif decide ((xs.length : Int) > 4) then some (.ret false) else (impl_areWithin n xs 0 (((places b.Design).length : Int) - 1)).bind fun r2 => bif (!r2) then some (.ret false) else F n) (bif plsB b xs then X else .ret false) := by
    intro xs hx F X hX
    unfold plsB
    rw [show decide ((xs.length : Int) > 4) = !decide (xs.length ≤ 4) from gt_natB (k := 4)]
    simp only [bnot_bif]
    refine Ev.okP fun _ => Ev.ok1 ((areWithin_ev hx).cast (by rw [all_allN (d := 0)]; rfl)) fun _ => hX
  have hL : Ev (fun n => impl_view_isException_L1 (some V) e n 0) (bif plsB b e.From then (bif plsB b e.Through then (bif plsB b e.To then .nxt 3 else .ret false) else .ret false) else .ret false) := by
    refine Ev.succ ?_
    simp only [impl_view_isException_L1, Option.bind_some, impl_length_impl_place, hP, w64_pred (show (places b.Design).length ≤ 9223372036854775807 by omega)]
    refine one e.From he.From.len (F := fun n => impl_view_isException_L1 (some V) e n 1) (Ev.succ ?_)
    simp only [impl_view_isException_L1, Option.bind_some, impl_length_impl_place, hP, w64_pred (show (places b.Design).length ≤ 9223372036854775807 by omega)]
    refine one e.Through he.Through.len (F := fun n => impl_view_isException_L1 (some V) e n 2) (Ev.succ ?_)
    simp only [impl_view_isException_L1, Option.bind_some, impl_length_impl_place, hP, w64_pred (show (places b.Design).length ≤ 9223372036854775807 by omega)]
    refine one e.To he.To.len (F := fun n => impl_view_isException_L1 (some V) e n 3) (Ev.succ ?_)
    exact .done
  unfold impl_view_isException excB
  refine Ev.bind hL ?_
  cases plsB b e.From
  · exact .done
  · cases plsB b e.Through
    · exact .done
    · cases plsB b e.To
      · exact .done
      · simp only [cond_true, isValue_eq, Option.bind_some, Bool.and_self, Bool.true_and]
        exact Ev.andP fun _ => Ev.and (isIncreasing_ev he.From.len) fun _ => Ev.last (isIncreasing_ev he.To.len)

theorem IsException_ev {b : TBlock} {e : TException} (hok : ok_Block b) (he : ok_Exception e) : Ev (fun n => impl_IsException n b e) (blockB b && excB b e) := by
  unfold impl_IsException
  refine Ev.and (IsBlock_ev hok) fun h => ?_
  obtain ⟨ls, lo, de, ev⟩ := newView_ev h
  exact Ev.bind ev (Ev.last (isException_ev h rfl he))

theorem sIsException_ev {b : TBlock} {e : TException} (hok : ok_Block b) (he : ok_Exception e) : Ev (fun n => spec_IsException n b e) (blockB b && excB b e) := by
  have eq : (blockB b && excB b e) = ((blockB b && ((plsB b e.From && (!true || incB e.From)) && ((plsB b e.Through && (!false || incB e.Through)) && (plsB b e.To && (!true || incB e.To))))) && valB e.Kind e.Value) := by
    unfold excB
    generalize blockB b = a1
    generalize plsB b e.From = a2
    generalize plsB b e.Through = a3
    generalize plsB b e.To = a4
    generalize valB e.Kind e.Value = a5
    generalize incB e.From = a6
    generalize incB e.To = a7
    cases a1 <;> cases a2 <;> cases a3 <;> cases a4 <;> cases a5 <;> cases a6 <;> cases a7 <;> rfl
  rw [eq]
  unfold spec_IsException
  refine Ev.guardB (Ev.or (sIsBlock_ev hok) fun h => Ev.or (l22Places_ev h he.From.len) fun _ => Ev.or (l22Places_ev h he.Through.len) fun _ => Ev.neg (l22Places_ev h he.To.len)) fun _ => ?_
  simp only [l01In_eq, Option.bind_some]
  unfold valB
  cases (e.Kind == 1) <;> cases (e.Kind == 2) <;> cases (e.Kind == 3) <;> cases (e.Kind == 4) <;> exact .done

theorem law_IsException {b : TBlock} {e : TException} (hb : rng_Block b) (hk : rng_Exception e) : Ev (fun n => laws_FnExactIsException n b e) true := by
  unfold laws_FnExactIsException
  obtain ⟨r1, e1, q1⟩ := sz_Block (a := b) (left := 1048576) hb (by omega) (by omega)
  refine Ev.bind e1 ?_
  rcases q1 with q1 | ⟨p1, q1⟩
  · exact Ev.tt (by simpa using q1) .done
  · refine Ev.ff (by simp; omega) ?_
    obtain ⟨r2, e2, q2⟩ := sz_Exception (a := e) (left := r1) hk p1 (by omega)
    refine Ev.bind e2 ?_
    rcases q2 with q2 | ⟨p2, q2⟩
    · exact Ev.tt (by simpa using q2) .done
    · refine Ev.ff (by simp; omega) ?_
      have wb : w_Block b ≤ 1048576 := by omega
      have wk : w_Exception e ≤ 1048576 := by omega
      have hok := okof_Block hb wb
      have he := okof_Exception hk wk
      exact Ev.bind (to_Block wb) (Ev.bind (to_Exception wk) (Ev.bind (sIsException_ev hok he) (Ev.bind (to_Block wb) (Ev.bind (to_Exception wk) (Ev.bind (IsException_ev hok he) (Ev.ff (by simp) (Ev.bind (to_Block wb) (Ev.bind (eq_Block wb) (Ev.ff rfl (Ev.bind (to_Exception wk) (Ev.bind (eq_Exception wk) (Ev.ff rfl .done))))))))))))
end Go.Fw
