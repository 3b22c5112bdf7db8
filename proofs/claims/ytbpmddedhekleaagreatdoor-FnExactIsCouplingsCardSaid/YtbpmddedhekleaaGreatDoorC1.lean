/- By a program of mine (gen.py): for each function a plain function and the proof that the code computes it. -/
import Derived.Test.YtbpmddedhekleaaGreatDoorA4
namespace Go.Fw
open Go Go.Proofs
open Go.RowKit (Below)
set_option maxRecDepth 100000
def laws_szCouplingS (_ : Nat) (a : (List TCoupling)) (left : Int) : Option Int :=
  bif decide ((W64 (left - (a.length : Int))) < 0) then
    some (-1)
  else
    some (W64 (left - (a.length : Int)))

theorem laws_szCouplingS_ok {n : Nat} {w : World} {a : (List TCoupling)} {left : Int} {cs1 : List Value} (ha1 : GoT.R w (old w) a cs1) {r : Int} (hF : laws_szCouplingS n a left = some r) : RetV Tryz.prog 13 [GoT.v (List TCoupling) cs1, .int .i64 left] w r := by
  obtain ⟨p1, k1, rfl, s1⟩ := ha1
  refine retV_of_run Tryz.func13 rfl (m := 12) rfl rfl (fun h => ?_)
  rw [laws_szCouplingS] at hF
  refine r_seq (r_region (r_p tabOk rfl rfl (r_nil (r_seq (r_region (r_p tabOk rfl rfl (r_p tabOk rfl rfl (r_p tabOk rfl rfl (r_p tabOk rfl rfl ?_)))))))))
  refine r_p tabOk rfl rfl (r_nil (r_seq (r_seq (r_region (r_p tabOk rfl rfl (r_p tabOk rfl rfl (r_nil ?_)))))))
  refine r_cond rfl (fun hc1 => ?_) (fun hc1 => ?_)
  · replace hF := bifT hc1 hF
    refine r_seq (r_region (r_p tabOk rfl rfl (r_nil ?_)))
    obtain rfl := someI hF
    exact r_retV tabOk (ρ := Int) [_] h ⟨rfl, trivial⟩ (vs_int _ _)
  · replace hF := bifF hc1 hF
    refine r_skip (r_seq (r_region (r_p tabOk rfl rfl (r_p tabOk rfl rfl (r_nil ?_)))))
    obtain rfl := someI hF
    exact r_retV tabOk (ρ := Int) [_] h ⟨rfl, trivial⟩ (vs_int _ _)

def spec_l19Couplings_L1 (a_0 : TBlock) (a_1 : (List TCoupling)) : Nat → Int → Option (Flow Bool Int)
  | 0, _ => none
  | n + 1, i1 =>
    bif decide (i1 < (a_1.length : Int)) then
      (idx a_1 i1).bind fun y1 =>
      (
        (spec_l01In n y1.A 0 (W64 ((a_0.Design.Nets.length : Int) - 1))).bind fun r1 =>
        bif (!r1) then
          some true
        else
          (spec_l01In n y1.B (W64 (y1.A + 1)) (W64 ((a_0.Design.Nets.length : Int) - 1))).bind fun r2 =>
          bif (!r2) then
            some true
          else
            (spec_l01In n y1.Delta 1 10000).bind fun r3 =>
            some (!r3)).bind fun b2 =>
      bif b2 then
        some (.ret false)
      else
        bif decide (i1 > 0) then
          (idx a_1 (W64 (i1 - 1))).bind fun y2 =>
          bif decide (y2.A > y1.A) then
            some (.ret false)
          else
            (idx a_1 (W64 (i1 - 1))).bind fun y3 =>
            bif (y3.A == y1.A) then
              (idx a_1 (W64 (i1 - 1))).bind fun y4 =>
              bif decide (y4.B ≥ y1.B) then
                some (.ret false)
              else
                spec_l19Couplings_L1 a_0 a_1 n (W64 (i1 + 1))
            else
              spec_l19Couplings_L1 a_0 a_1 n (W64 (i1 + 1))
        else
          spec_l19Couplings_L1 a_0 a_1 n (W64 (i1 + 1))
    else
      some (.nxt i1)

def spec_l19Couplings (n : Nat) (a_0 : TBlock) (a_1 : (List TCoupling)) : Option Bool :=
  (spec_l19Couplings_L1 a_0 a_1 n 0).bind fun o => match o with
  | .ret r => some r
  | .nxt _ =>
    some (decide ((a_1.length : Int) ≤ 20))

theorem spec_l19Couplings_ok {n : Nat} {w : World} {a_0 : TBlock} {a_1 : (List TCoupling)} {cs1 : List Value} (ha1 : GoT.R w (old w) a_0 cs1) {cs2 : List Value} (ha2 : GoT.R w (old w) a_1 cs2) {r : Bool} (hF : spec_l19Couplings n a_0 a_1 = some r) : RetV Tryz.prog 46 [GoT.v TBlock cs1, GoT.v (List TCoupling) cs2] w r := by
  obtain ⟨p1, k1, p2, k2, p3, k3, p4, k4, p5, k5, rfl, s1, s2, s3, s4, s5⟩ := open_TBlock ha1
  obtain ⟨p6, k6, rfl, s6⟩ := ha2
  refine retV_of_run Tryz.func46 rfl (m := 83) rfl rfl (fun h => ?_)
  rw [spec_l19Couplings] at hF
  refine r_seq (r_region ?_)
  refine r_box h rfl rfl ?_
  intro w1 bb1 h
  refine r_p tabOk rfl rfl (r_nil (r_seq (r_region (r_p tabOk rfl rfl (r_p tabOk rfl rfl (r_v (v_ld tabOk (h.box 0 rfl) (j := 2) rfl rfl rfl) rfl (r_p tabOk rfl rfl (r_p tabOk rfl rfl (r_nil ?_)))))))))
  refine r_seq (r_seq (r_region (r_p tabOk rfl rfl (r_nil ?_))))
  obtain ⟨o1, hF, hK1⟩ := bindS hF
  refine r_block ?_
  replace h := h.pick [] rfl
  refine r_sub [(1, _), (5, _), (6, _)] ⟨rfl, rfl, rfl, trivial⟩ ?_
  refine r_loop (fun m e w' => ∃ (i1 : Int), spec_l19Couplings_L1 a_0 a_1 m i1 = some o1 ∧ e = [(1, .slice p6 a_1.length k6), (5, .int .i64 (a_0.Design.Nets.length : Int)), (6, .int .i64 i1)] ∧ SH w w' []) n ⟨_, hF, rfl, h⟩ ?_
  rintro m1 e1 w2 ⟨i1, hF, rfl, h⟩
  rcases m1 with _ | m1
  · rw [spec_l19Couplings_L1] at hF
    cases hF
  rw [spec_l19Couplings_L1] at hF
  refine r_seq (r_seq (r_region (r_p tabOk rfl rfl (r_p tabOk rfl rfl (r_p tabOk rfl rfl (r_p tabOk rfl rfl (r_nil ?_)))))))
  refine r_cond rfl (fun hc1 => ?_) (fun hc1 => ?_)
  · replace hF := bifT hc1 hF
    refine r_skip (r_seq (r_block (r_seq (r_region (r_p tabOk rfl rfl (r_p tabOk rfl rfl ?_))))))
    obtain ⟨y1, hy1, hF⟩ := bindS hF
    have he1 := idx_some hy1
    obtain ⟨b1, o_1, q1, cs3, hp1, hq1, -, hr1, hc2⟩ := s6.at hy1
    obtain rfl := open_TCoupling hr1
    refine r_v (v_ix tabOk hp1 hq1 ⟨he1.1, he1.2.1⟩ rfl rfl rfl rfl rfl rfl) rfl (r_v (v_ld tabOk (hc2.below h.below) (j := 0) rfl rfl rfl) rfl ?_)
    refine r_alloc tabOk h rfl rfl rfl ?_
    intro w3 bb2 h
    refine r_stbox tabOk 0 h rfl rfl rfl rfl rfl rfl rfl ?_
    intro w4 h
    refine r_nil (r_seq (r_seq ?_))
    obtain ⟨KF1, hKF1, o2, hF, hK2⟩ := bindE hF
    refine r_cut (fun e w' => ∃ (b2 : Bool), KF1 b2 = some o1 ∧ e = [(1, .slice p6 a_1.length k6), (5, .int .i64 (a_0.Design.Nets.length : Int)), (6, .int .i64 i1), (7, .pointer (some ⟨bb2, 0, none⟩)), (44, .bool b2)] ∧ SH w w' [Ch.box bb2 [.int .i64 y1.A, .int .i64 y1.B, .int .i64 y1.Delta] 88]) ?_ ?_
    · refine r_region (r_p tabOk rfl rfl (r_v (v_ld tabOk (h.box 0 rfl) (j := 0) rfl rfl rfl) rfl (r_p tabOk rfl rfl (r_p tabOk rfl rfl ?_))))
      obtain ⟨r1, hr5, hF⟩ := bindS hF
      refine r_callB r1 h call50 (spec_l01In_ok hr5) rfl rfl rfl rfl ?_
      intro w9 h
      refine r_p tabOk rfl rfl (r_p tabOk rfl rfl ?_)
      by_cases hc11 : (!r1) = true
      · replace hF := bifT hc11 hF
        refine r_setT hc11 (t := 28) rfl ?_
        refine r_not rfl rfl rfl ?_
        refine r_not rfl rfl rfl ?_
        refine r_not rfl rfl rfl ?_
        refine r_not rfl rfl rfl ?_
        refine r_not rfl rfl rfl ?_
        refine r_not rfl rfl rfl ?_
        refine r_not rfl rfl rfl ?_
        refine r_not rfl rfl rfl ?_
        refine r_not rfl rfl rfl ?_
        refine r_p tabOk rfl rfl (r_p tabOk rfl rfl ?_)
        refine r_not rfl rfl rfl ?_
        refine r_not rfl rfl rfl ?_
        refine r_not rfl rfl rfl ?_
        refine r_not rfl rfl rfl ?_
        refine r_p tabOk rfl rfl (r_nil ?_)
        obtain rfl := someI hF
        exact r_cutgoal [(1, _), (5, _), (6, _), (7, _), (44, _)] ⟨rfl, rfl, rfl, rfl, rfl, trivial⟩ ⟨_, hK2, rfl, h⟩
      · replace hc11 := Bool.eq_false_iff.2 hc11
        replace hF := bifF hc11 hF
        refine r_setF hc11 (t := 28) rfl ?_
        refine r_wanted rfl (r_p tabOk rfl rfl (r_wanted rfl (r_v (v_ld tabOk (h.box 0 rfl) (j := 1) rfl rfl rfl) rfl (r_wanted rfl (r_p tabOk rfl rfl (r_wanted rfl (r_v (v_ld tabOk (h.box 0 rfl) (j := 0) rfl rfl rfl) rfl (r_wanted rfl (r_p tabOk rfl rfl ?_)))))))))
        refine r_wanted rfl (r_p tabOk rfl rfl (r_wanted rfl (r_p tabOk rfl rfl (r_wanted rfl ?_))))
        obtain ⟨r2, hr6, hF⟩ := bindS hF
        refine r_callB r2 h call50 (spec_l01In_ok hr6) rfl rfl rfl rfl ?_
        intro w10 h
        refine r_wanted rfl (r_p tabOk rfl rfl (r_p tabOk rfl rfl (r_p tabOk rfl rfl ?_)))
        by_cases hc12 : (!r2) = true
        · replace hF := bifT hc12 hF
          refine r_setT hc12 (t := 39) rfl ?_
          refine r_not rfl rfl rfl ?_
          refine r_not rfl rfl rfl ?_
          refine r_not rfl rfl rfl ?_
          refine r_not rfl rfl rfl ?_
          refine r_p tabOk rfl rfl (r_nil ?_)
          obtain rfl := someI hF
          exact r_cutgoal [(1, _), (5, _), (6, _), (7, _), (44, _)] ⟨rfl, rfl, rfl, rfl, rfl, trivial⟩ ⟨_, hK2, rfl, h⟩
        · replace hc12 := Bool.eq_false_iff.2 hc12
          replace hF := bifF hc12 hF
          refine r_setF hc12 (t := 39) rfl ?_
          refine r_wanted rfl (r_p tabOk rfl rfl (r_wanted rfl (r_v (v_ld tabOk (h.box 0 rfl) (j := 2) rfl rfl rfl) rfl (r_wanted rfl ?_))))
          obtain ⟨r3, hr7, hF⟩ := bindS hF
          refine r_callB r3 h call50 (spec_l01In_ok hr7) rfl rfl rfl rfl ?_
          intro w11 h
          refine r_wanted rfl (r_p tabOk rfl rfl (r_p tabOk rfl rfl (r_nil ?_)))
          obtain rfl := someI hF
          exact r_cutgoal [(1, _), (5, _), (6, _), (7, _), (44, _)] ⟨rfl, rfl, rfl, rfl, rfl, trivial⟩ ⟨_, hK2, rfl, h⟩
    · rintro e2 w12 ⟨b2, hF, rfl, h⟩
      subst hKF1
      refine r_cond rfl (fun hc3 => ?_) (fun hc3 => ?_)
      · replace hF := bifT hc3 hF
        refine r_seq (r_region (r_p tabOk rfl rfl (r_nil ?_)))
        obtain rfl := someI hF; replace hF := hK1
        obtain rfl := someI hF
        exact r_retV tabOk (ρ := Bool) [_] h ⟨rfl, trivial⟩ (vs_bool _ _)
      · replace hF := bifF hc3 hF
        refine r_skip (r_seq ?_)
        refine r_draw rfl (by kernel_rfl) ?_
        refine d_p tabOk rfl rfl (d_p tabOk rfl rfl (d_p tabOk rfl rfl ?_))
        by_cases hc4 : (decide (i1 > 0)) = true
        · replace hF := bifT hc4 hF
          refine d_setT hc4 (t := 47) rfl ?_
          refine d_wanted rfl ?_
          refine d_p tabOk rfl rfl ?_
          refine d_wanted rfl ?_
          refine d_p tabOk rfl rfl ?_
          refine d_wanted rfl ?_
          refine d_p tabOk rfl rfl ?_
          refine d_wanted rfl ?_
          obtain ⟨y2, hy2, hF⟩ := bindS hF
          have he2 := idx_some hy2
          obtain ⟨b3, o_2, q2, cs4, hp2, hq2, -, hr2, hc5⟩ := s6.at hy2
          obtain rfl := open_TCoupling hr2
          refine d_v (fun _ hb => v_ix tabOk hp2 hq2 ⟨he2.1, he2.2.1⟩ rfl rfl rfl rfl rfl rfl) rfl ?_
          refine d_wanted rfl ?_
          refine d_p tabOk rfl rfl ?_
          refine d_wanted rfl ?_
          refine d_v (fun _ hb => v_ld tabOk ((hc5.below h.below).below hb) (j := 0) rfl rfl rfl) rfl ?_
          refine d_wanted rfl ?_
          refine d_p tabOk rfl rfl ?_
          refine d_wanted rfl ?_
          refine d_v (fun _ hb => v_ld tabOk ((h.box 0 rfl).below hb) (j := 0) rfl rfl rfl) rfl ?_
          refine d_wanted rfl ?_
          refine d_p tabOk rfl rfl ?_
          refine d_wanted rfl ?_
          refine d_p tabOk rfl rfl ?_
          by_cases hc6 : (decide (y2.A > y1.A)) = true
          · replace hF := bifT hc6 hF
            refine d_setT hc6 (t := 57) rfl ?_
            refine d_not rfl rfl rfl ?_
            refine d_not rfl rfl rfl ?_
            refine d_not rfl rfl rfl ?_
            refine d_not rfl rfl rfl ?_
            refine d_not rfl rfl rfl ?_
            refine d_not rfl rfl rfl ?_
            refine d_not rfl rfl rfl ?_
            refine d_not rfl rfl rfl ?_
            refine d_not rfl rfl rfl ?_
            refine d_not rfl rfl rfl ?_
            refine d_not rfl rfl rfl ?_
            refine d_not rfl rfl rfl ?_
            refine d_not rfl rfl rfl ?_
            refine d_not rfl rfl rfl ?_
            refine d_not rfl rfl rfl ?_
            refine d_not rfl rfl rfl ?_
            refine d_not rfl rfl rfl ?_
            refine d_not rfl rfl rfl ?_
            refine d_not rfl rfl rfl ?_
            refine d_not rfl rfl rfl ?_
            refine d_wanted rfl ?_
            refine d_p tabOk rfl rfl (d_p tabOk rfl rfl ?_)
            refine d_nil (fun w5 hb => ?_)
            replace h := h.ext hb
            clear hb
            refine r_condT rfl rfl ?_
            refine r_seq (r_region (r_p tabOk rfl rfl (r_nil ?_)))
            obtain rfl := someI hF; replace hF := hK1
            obtain rfl := someI hF
            exact r_retV tabOk (ρ := Bool) [_] h ⟨rfl, trivial⟩ (vs_bool _ _)
          · replace hc6 := Bool.eq_false_iff.2 hc6
            replace hF := bifF hc6 hF
            refine d_setF hc6 (t := 57) rfl ?_
            refine d_wanted rfl ?_
            refine d_p tabOk rfl rfl ?_
            refine d_wanted rfl ?_
            refine d_p tabOk rfl rfl ?_
            refine d_wanted rfl ?_
            refine d_p tabOk rfl rfl ?_
            refine d_wanted rfl ?_
            obtain ⟨y3, hy3, hF⟩ := bindS hF
            have he3 := idx_some hy3
            obtain ⟨b4, o_3, q3, cs5, hp3, hq3, -, hr3, hc7⟩ := s6.at hy3
            obtain rfl := open_TCoupling hr3
            refine d_v (fun _ hb => v_ix tabOk hp3 hq3 ⟨he3.1, he3.2.1⟩ rfl rfl rfl rfl rfl rfl) rfl ?_
            refine d_wanted rfl ?_
            refine d_p tabOk rfl rfl ?_
            refine d_wanted rfl ?_
            refine d_v (fun _ hb => v_ld tabOk ((hc7.below h.below).below hb) (j := 0) rfl rfl rfl) rfl ?_
            refine d_wanted rfl ?_
            refine d_p tabOk rfl rfl ?_
            refine d_wanted rfl ?_
            refine d_v (fun _ hb => v_ld tabOk ((h.box 0 rfl).below hb) (j := 0) rfl rfl rfl) rfl ?_
            refine d_wanted rfl ?_
            refine d_p tabOk rfl rfl ?_
            refine d_wanted rfl ?_
            refine d_p tabOk rfl rfl ?_
            by_cases hc8 : (y3.A == y1.A) = true
            · replace hF := bifT hc8 hF
              refine d_setT hc8 (t := 67) rfl ?_
              refine d_wanted rfl ?_
              refine d_p tabOk rfl rfl ?_
              refine d_wanted rfl ?_
              refine d_p tabOk rfl rfl ?_
              refine d_wanted rfl ?_
              refine d_p tabOk rfl rfl ?_
              refine d_wanted rfl ?_
              obtain ⟨y4, hy4, hF⟩ := bindS hF
              have he4 := idx_some hy4
              obtain ⟨b5, o_4, q4, cs6, hp4, hq4, -, hr4, hc9⟩ := s6.at hy4
              obtain rfl := open_TCoupling hr4
              refine d_v (fun _ hb => v_ix tabOk hp4 hq4 ⟨he4.1, he4.2.1⟩ rfl rfl rfl rfl rfl rfl) rfl ?_
              refine d_wanted rfl ?_
              refine d_p tabOk rfl rfl ?_
              refine d_wanted rfl ?_
              refine d_v (fun _ hb => v_ld tabOk ((hc9.below h.below).below hb) (j := 1) rfl rfl rfl) rfl ?_
              refine d_wanted rfl ?_
              refine d_p tabOk rfl rfl ?_
              refine d_wanted rfl ?_
              refine d_v (fun _ hb => v_ld tabOk ((h.box 0 rfl).below hb) (j := 1) rfl rfl rfl) rfl ?_
              refine d_wanted rfl ?_
              refine d_p tabOk rfl rfl ?_
              refine d_wanted rfl ?_
              refine d_p tabOk rfl rfl ?_
              refine d_wanted rfl ?_
              refine d_p tabOk rfl rfl (d_p tabOk rfl rfl ?_)
              refine d_nil (fun w6 hb => ?_)
              replace h := h.ext hb
              clear hb
              refine r_cond rfl (fun hc10 => ?_) (fun hc10 => ?_)
              · replace hF := bifT hc10 hF
                refine r_seq (r_region (r_p tabOk rfl rfl (r_nil ?_)))
                obtain rfl := someI hF; replace hF := hK1
                obtain rfl := someI hF
                exact r_retV tabOk (ρ := Bool) [_] h ⟨rfl, trivial⟩ (vs_bool _ _)
              · replace hF := bifF hc10 hF
                refine r_skip ?_
                refine r_blk ?_
                refine r_region (r_p tabOk rfl rfl (r_p tabOk rfl rfl (r_p tabOk rfl rfl (r_nil ?_))))
                replace h := h.pick [] rfl
                exact r_back m1 [(1, _), (5, _), (6, _)] (Nat.lt_succ_self m1) ⟨rfl, rfl, rfl, trivial⟩ ⟨_, hF, rfl, h⟩
            · replace hc8 := Bool.eq_false_iff.2 hc8
              replace hF := bifF hc8 hF
              refine d_setF hc8 (t := 67) rfl ?_
              refine d_not rfl rfl rfl ?_
              refine d_not rfl rfl rfl ?_
              refine d_not rfl rfl rfl ?_
              refine d_not rfl rfl rfl ?_
              refine d_not rfl rfl rfl ?_
              refine d_not rfl rfl rfl ?_
              refine d_not rfl rfl rfl ?_
              refine d_not rfl rfl rfl ?_
              refine d_not rfl rfl rfl ?_
              refine d_wanted rfl ?_
              refine d_p tabOk rfl rfl ?_
              refine d_wanted rfl ?_
              refine d_p tabOk rfl rfl (d_p tabOk rfl rfl ?_)
              refine d_nil (fun w7 hb => ?_)
              replace h := h.ext hb
              clear hb
              refine r_condF rfl rfl ?_
              refine r_skip ?_
              refine r_blk ?_
              refine r_region (r_p tabOk rfl rfl (r_p tabOk rfl rfl (r_p tabOk rfl rfl (r_nil ?_))))
              replace h := h.pick [] rfl
              exact r_back m1 [(1, _), (5, _), (6, _)] (Nat.lt_succ_self m1) ⟨rfl, rfl, rfl, trivial⟩ ⟨_, hF, rfl, h⟩
        · replace hc4 := Bool.eq_false_iff.2 hc4
          replace hF := bifF hc4 hF
          refine d_setF hc4 (t := 47) rfl ?_
          refine d_not rfl rfl rfl ?_
          refine d_not rfl rfl rfl ?_
          refine d_not rfl rfl rfl ?_
          refine d_not rfl rfl rfl ?_
          refine d_not rfl rfl rfl ?_
          refine d_not rfl rfl rfl ?_
          refine d_not rfl rfl rfl ?_
          refine d_not rfl rfl rfl ?_
          refine d_not rfl rfl rfl ?_
          refine d_not rfl rfl rfl ?_
          refine d_not rfl rfl rfl ?_
          refine d_not rfl rfl rfl ?_
          refine d_not rfl rfl rfl ?_
          refine d_not rfl rfl rfl ?_
          refine d_not rfl rfl rfl ?_
          refine d_not rfl rfl rfl ?_
          refine d_not rfl rfl rfl ?_
          refine d_not rfl rfl rfl ?_
          refine d_not rfl rfl rfl ?_
          refine d_not rfl rfl rfl ?_
          refine d_not rfl rfl rfl ?_
          refine d_not rfl rfl rfl ?_
          refine d_not rfl rfl rfl ?_
          refine d_not rfl rfl rfl ?_
          refine d_not rfl rfl rfl ?_
          refine d_not rfl rfl rfl ?_
          refine d_not rfl rfl rfl ?_
          refine d_not rfl rfl rfl ?_
          refine d_not rfl rfl rfl ?_
          refine d_not rfl rfl rfl ?_
          refine d_not rfl rfl rfl ?_
          refine d_p tabOk rfl rfl ?_
          refine d_nil (fun w8 hb => ?_)
          replace h := h.ext hb
          clear hb
          refine r_condF rfl rfl ?_
          refine r_skip ?_
          refine r_blk ?_
          refine r_region (r_p tabOk rfl rfl (r_p tabOk rfl rfl (r_p tabOk rfl rfl (r_nil ?_))))
          replace h := h.pick [] rfl
          exact r_back m1 [(1, _), (5, _), (6, _)] (Nat.lt_succ_self m1) ⟨rfl, rfl, rfl, trivial⟩ ⟨_, hF, rfl, h⟩
  · replace hF := bifF hc1 hF
    refine r_exit rfl ?_
    obtain rfl := someI hF; replace hF := hK1
    refine r_seq (r_region (r_p tabOk rfl rfl (r_p tabOk rfl rfl (r_p tabOk rfl rfl (r_p tabOk rfl rfl (r_nil ?_))))))
    obtain rfl := someI hF
    exact r_retV tabOk (ρ := Bool) [_] h ⟨rfl, trivial⟩ (vs_bool _ _)

def spec_IsCouplings (n : Nat) (b : TBlock) (list : (List TCoupling)) : Option Bool :=
  (spec_IsBlock n b).bind fun r1 =>
  bif r1 then
    (spec_l19Couplings n b list).bind fun r2 =>
    some r2
  else
    some false

theorem spec_IsCouplings_ok {n : Nat} {w : World} {b : TBlock} {list : (List TCoupling)} {cs1 : List Value} (ha1 : GoT.R w (old w) b cs1) {cs2 : List Value} (ha2 : GoT.R w (old w) list cs2) {r : Bool} (hF : spec_IsCouplings n b list = some r) : RetV Tryz.prog 14 [GoT.v TBlock cs1, GoT.v (List TCoupling) cs2] w r := by
  obtain ⟨p1, k1, p2, k2, p3, k3, p4, k4, p5, k5, rfl, s1, s2, s3, s4, s5⟩ := open_TBlock ha1
  obtain ⟨p6, k6, rfl, s6⟩ := ha2
  refine retV_of_run Tryz.func14 rfl (m := 12) rfl rfl (fun h => ?_)
  rw [spec_IsCouplings] at hF
  refine r_seq (r_region ?_)
  refine r_box h rfl rfl ?_
  intro w1 bb1 h
  refine r_p tabOk rfl rfl (r_nil (r_seq (r_region (r_v (v_ld tabOk (h.box 0 rfl) (j := 0) rfl rfl rfl) rfl ?_))))
  obtain ⟨r1, hr1, hF⟩ := bindS hF
  refine r_callB r1 h call32 (spec_IsBlock_ok (h.old ha1) hr1) rfl rfl rfl rfl ?_
  intro w2 h
  refine r_p tabOk rfl rfl ?_
  by_cases hc1 : r1 = true
  · replace hF := bifT hc1 hF
    refine r_setT hc1 (t := 7) rfl ?_
    refine r_wanted rfl (r_v (v_ld tabOk (h.box 0 rfl) (j := 0) rfl rfl rfl) rfl (r_wanted rfl (r_p tabOk rfl rfl (r_wanted rfl ?_))))
    obtain ⟨r2, hr2, hF⟩ := bindS hF
    refine r_callB r2 h call46 (spec_l19Couplings_ok (h.old ha1) ⟨_, _, rfl, (h.oldS s6)⟩ hr2) rfl rfl rfl rfl ?_
    intro w3 h
    refine r_p tabOk rfl rfl (r_p tabOk rfl rfl (r_nil ?_))
    obtain rfl := someI hF
    exact r_retV tabOk (ρ := Bool) [_] h ⟨rfl, trivial⟩ (vs_bool _ _)
  · replace hc1 := Bool.eq_false_iff.2 hc1
    replace hF := bifF hc1 hF
    refine r_setF hc1 (t := 7) rfl ?_
    refine r_not rfl rfl rfl ?_
    refine r_not rfl rfl rfl ?_
    refine r_not rfl rfl rfl ?_
    refine r_p tabOk rfl rfl (r_p tabOk rfl rfl (r_nil ?_))
    obtain rfl := someI hF
    exact r_retV tabOk (ρ := Bool) [_] h ⟨rfl, trivial⟩ (vs_bool _ _)

def laws_toCoupling (_ : Nat) (a : TCoupling) : Option TCoupling :=
  some (⟨a.A, a.B, a.Delta⟩ : TCoupling)

theorem laws_toCoupling_ok {n : Nat} {w : World} {a : TCoupling} {cs1 : List Value} (ha1 : GoT.R w (old w) a cs1) {r : TCoupling} (hF : laws_toCoupling n a = some r) : RetV Tryz.prog 47 [GoT.v TCoupling cs1] w r := by
  obtain rfl := open_TCoupling ha1
  refine retV_of_run Tryz.func47 rfl (m := 14) rfl rfl (fun h => ?_)
  rw [laws_toCoupling] at hF
  refine r_seq (r_region ?_)
  refine r_box h rfl rfl ?_
  intro w1 bb1 h
  refine r_alloc tabOk h rfl rfl rfl ?_
  intro w2 bb2 h
  refine r_nil (r_seq (r_region ?_))
  refine r_alloc tabOk h rfl rfl rfl ?_
  intro w3 bb3 h
  refine r_nil (r_seq (r_region (r_p tabOk rfl rfl (r_v (v_ld tabOk (h.box 2 rfl) (j := 0) rfl rfl rfl) rfl (r_p tabOk rfl rfl ?_)))))
  refine r_stbox tabOk 0 h rfl rfl rfl rfl rfl rfl rfl ?_
  intro w4 h
  refine r_nil (r_seq (r_region (r_p tabOk rfl rfl (r_v (v_ld tabOk (h.box 2 rfl) (j := 1) rfl rfl rfl) rfl (r_p tabOk rfl rfl ?_)))))
  refine r_stbox tabOk 0 h rfl rfl rfl rfl rfl rfl rfl ?_
  intro w5 h
  replace h : SH _ _ [Ch.box bb3 [.int .i64 a.A, .int .i64 a.B, .int .i64 0] 88, Ch.box bb2 [.int .i64 0, .int .i64 0, .int .i64 0] 88, Ch.box bb1 [.int .i64 a.A, .int .i64 a.B, .int .i64 a.Delta] 90] := h
  refine r_nil (r_seq (r_region (r_p tabOk rfl rfl (r_v (v_ld tabOk (h.box 2 rfl) (j := 2) rfl rfl rfl) rfl (r_p tabOk rfl rfl ?_)))))
  refine r_stbox tabOk 0 h rfl rfl rfl rfl rfl rfl rfl ?_
  intro w6 h
  refine r_nil (r_seq (r_region (r_v (v_ld tabOk (h.box 0 rfl) (j := 0) rfl rfl rfl) rfl ?_)))
  refine r_stbox tabOk 1 h rfl rfl rfl rfl rfl rfl rfl ?_
  intro w7 h
  replace h : SH _ _ [Ch.box bb3 [.int .i64 a.A, .int .i64 a.B, .int .i64 a.Delta] 88, Ch.box bb2 [.int .i64 a.A, .int .i64 a.B, .int .i64 a.Delta] 88, Ch.box bb1 [.int .i64 a.A, .int .i64 a.B, .int .i64 a.Delta] 90] := h
  refine r_nil ?_
  obtain rfl := someI hF
  exact r_retV tabOk (ρ := TCoupling) [GoT.v TCoupling [.int .i64 a.A, .int .i64 a.B, .int .i64 a.Delta]] h ⟨⟨_, _, _, rfl, rfl, h.box 1 rfl, rfl⟩, trivial⟩ (PV.done h (pv_one (po_flat (S := fun _ => False) (mkR_TCoupling (⟨a.A, a.B, a.Delta⟩ : TCoupling)))))

def laws_toCouplingS_L1 (a : (List TCoupling)) : Nat → (List TCoupling) → Int → Option ((List TCoupling) × Int)
  | 0, _, _ => none
  | n + 1, x2, i1 =>
    bif decide (i1 < (a.length : Int)) then
      (idx a i1).bind fun y1 =>
      (laws_toCoupling n y1).bind fun r1 =>
      (idx x2 i1).bind fun _ =>
      laws_toCouplingS_L1 a n (setS x2 i1 r1) (W64 (i1 + 1))
    else
      some (x2, i1)

def laws_toCouplingS (n : Nat) (a : (List TCoupling)) : Option (List TCoupling) :=
  (mkS (a.length : Int) ((⟨0, 0, 0⟩ : TCoupling) : TCoupling)).bind fun x1 =>
  (laws_toCouplingS_L1 a n x1 0).bind fun o => match o with
  | (x2, _) =>
    some x2

theorem laws_toCouplingS_ok {n : Nat} {w : World} {a : (List TCoupling)} {cs1 : List Value} (ha1 : GoT.R w (old w) a cs1) {r : (List TCoupling)} (hF : laws_toCouplingS n a = some r) : RetV Tryz.prog 15 [GoT.v (List TCoupling) cs1] w r := by
  obtain ⟨p1, k1, rfl, s1⟩ := ha1
  refine retV_of_run Tryz.func15 rfl (m := 23) rfl rfl (fun h => ?_)
  rw [laws_toCouplingS] at hF
  refine r_seq (r_region (r_p tabOk rfl rfl (r_nil (r_seq (r_region (r_p tabOk rfl rfl (r_p tabOk rfl rfl ?_)))))))
  obtain ⟨x1, hx1, hF⟩ := bindS hF
  obtain ⟨g1, g2, hx1⟩ := mkS_some hx1
  refine r_makeE tabOk TCoupling h rfl rfl rfl rfl rfl rfl rfl rfl rfl g1 g2 hx1 rfl ?_
  intro w1 S1 p2 h
  refine r_p tabOk rfl rfl (r_nil (r_seq (r_seq (r_region (r_p tabOk rfl rfl (r_nil ?_))))))
  obtain ⟨o1, hF, hK1⟩ := bindS hF
  refine r_block ?_
  refine r_sub [(0, _), (3, _), (4, _)] ⟨rfl, rfl, rfl, trivial⟩ ?_
  refine r_loop (fun m e w' => ∃ (x2 : (List TCoupling)) (i1 : Int), laws_toCouplingS_L1 a m x2 i1 = some o1 ∧ e = [(0, .slice p1 a.length k1), (3, .slice p2 x1.length x1.length), (4, .int .i64 i1)] ∧ SH w w' [Ch.own S1 (x2 : List TCoupling) [.slice p2 x1.length x1.length]]) n ⟨_, _, hF, rfl, h⟩ ?_
  rintro m1 e1 w2 ⟨x2, i1, hF, rfl, h⟩
  rcases m1 with _ | m1
  · rw [laws_toCouplingS_L1] at hF
    cases hF
  rw [laws_toCouplingS_L1] at hF
  refine r_seq (r_seq (r_region (r_p tabOk rfl rfl (r_p tabOk rfl rfl (r_p tabOk rfl rfl (r_p tabOk rfl rfl (r_nil ?_)))))))
  refine r_cond rfl (fun hc1 => ?_) (fun hc1 => ?_)
  · replace hF := bifT hc1 hF
    refine r_skip (r_seq (r_block (r_region (r_p tabOk rfl rfl (r_p tabOk rfl rfl (r_p tabOk rfl rfl (r_p tabOk rfl rfl ?_)))))))
    obtain ⟨y1, hy1, hF⟩ := bindS hF
    have he1 := idx_some hy1
    obtain ⟨b1, o_1, q1, cs2, hp1, hq1, -, hr1, hc2⟩ := s1.at hy1
    obtain rfl := open_TCoupling hr1
    refine r_v (v_ix tabOk hp1 hq1 ⟨he1.1, he1.2.1⟩ rfl rfl rfl rfl rfl rfl) rfl (r_v (v_ld tabOk (hc2.below h.below) (j := 0) rfl rfl rfl) rfl ?_)
    obtain ⟨r1, hr2, hF⟩ := bindS hF
    refine r_callO r1 h call47 (laws_toCoupling_ok (mkR_TCoupling y1) hr2) rfl rfl rfl rfl ?_
    intro w3 S2 cs3 h
    obtain rfl := open_TCoupling (h.own 0 rfl)
    obtain ⟨y2, hy2, hF⟩ := bindS hF
    have he2 := idx_some hy2
    obtain ⟨b2, o_2, q2, cs4, hp2, hq2, -, hr3, hc3⟩ := (h.sl 1 rfl).1.at hy2
    obtain rfl := open_TCoupling hr3
    refine r_v (v_ix tabOk hp2 hq2 ⟨he2.1, lt_ln he2.2.1 (h.sl 1 rfl).2⟩ rfl rfl rfl rfl rfl rfl) rfl ?_
    refine r_stown tabOk 1 0 r1 h rfl hy2 hp2 hq2 (mkR_TCoupling y2) hc3 rfl rfl rfl (mkR_TCoupling r1) rfl rfl rfl ?_
    intro w4 h
    refine r_nil ?_
    refine r_blk ?_
    refine r_region (r_p tabOk rfl rfl (r_p tabOk rfl rfl (r_p tabOk rfl rfl (r_nil ?_))))
    replace h := h.pick [1] rfl
    exact r_back m1 [(0, _), (3, _), (4, _)] (Nat.lt_succ_self m1) ⟨rfl, rfl, rfl, trivial⟩ ⟨_, _, hF, rfl, h⟩
  · replace hF := bifF hc1 hF
    refine r_exit rfl ?_
    obtain rfl := someI hF; replace hF := hK1
    refine r_seq (r_region (r_p tabOk rfl rfl (r_p tabOk rfl rfl (r_nil ?_))))
    obtain rfl := someI hF
    exact r_retV tabOk (ρ := (List TCoupling)) [GoT.v (List TCoupling) [.slice p2 x1.length x1.length]] h ⟨rfl, trivial⟩ (PV.done h (pv_one (po_own 0 h rfl)))

def cmp_Or_int_L1 (vals : (List Int)) : Nat → Int → Option (Flow Int Int)
  | 0, _ => none
  | n + 1, i1 =>
    bif decide (i1 < (vals.length : Int)) then
      (idx vals i1).bind fun y1 =>
      bif (y1 != 0) then
        some (.ret y1)
      else
        cmp_Or_int_L1 vals n (W64 (i1 + 1))
    else
      some (.nxt i1)

def cmp_Or_int (n : Nat) (vals : (List Int)) : Option Int :=
  (cmp_Or_int_L1 vals n 0).bind fun o => match o with
  | .ret r => some r
  | .nxt _ =>
    some 0

theorem cmp_Or_int_ok {n : Nat} {w : World} {vals : (List Int)} {cs1 : List Value} (ha1 : GoT.R w (old w) vals cs1) {r : Int} (hF : cmp_Or_int n vals = some r) : RetV Tryz.prog 91 [GoT.v (List Int) cs1] w r := by
  obtain ⟨p1, k1, rfl, s1⟩ := ha1
  refine retV_of_run Tryz.func91 rfl (m := 18) rfl rfl (fun h => ?_)
  rw [cmp_Or_int] at hF
  refine r_seq (r_region (r_p tabOk rfl rfl (r_nil (r_seq (r_region (r_p tabOk rfl rfl (r_nil (r_seq (r_seq ?_)))))))))
  refine r_region (r_p tabOk rfl rfl (r_p tabOk rfl rfl (r_p tabOk rfl rfl (r_nil ?_))))
  obtain ⟨o1, hF, hK1⟩ := bindS hF
  refine r_block ?_
  refine r_sub [(3, _), (6, _), (7, _), (8, _)] ⟨rfl, rfl, rfl, rfl, trivial⟩ ?_
  refine r_loop (fun m e w' => ∃ (i1 : Int), cmp_Or_int_L1 vals m i1 = some o1 ∧ e = [(3, .int .i64 0), (6, .slice p1 vals.length k1), (7, .int .i64 (vals.length : Int)), (8, .int .i64 i1)] ∧ SH w w' []) n ⟨_, hF, rfl, h⟩ ?_
  rintro m1 e1 w1 ⟨i1, hF, rfl, h⟩
  rcases m1 with _ | m1
  · rw [cmp_Or_int_L1] at hF
    cases hF
  rw [cmp_Or_int_L1] at hF
  refine r_seq (r_region (r_p tabOk rfl rfl (r_nil (r_seq ?_))))
  refine r_cond rfl (fun hc1 => ?_) (fun hc1 => ?_)
  · replace hF := bifT hc1 hF
    refine r_skip (r_seq (r_block (r_seq (r_region ?_))))
    obtain ⟨y1, hy1, hF⟩ := bindS hF
    have he1 := idx_some hy1
    obtain ⟨b1, o_1, q1, cs2, hp1, hq1, -, hr1, hc2⟩ := s1.at hy1
    obtain rfl := hr1
    refine r_v (v_ix tabOk hp1 hq1 ⟨he1.1, he1.2.1⟩ rfl rfl rfl rfl rfl rfl) rfl (r_v (v_ld tabOk (hc2.below h.below) (j := 0) rfl rfl rfl) rfl (r_p tabOk rfl rfl (r_nil (r_seq (r_region (r_p tabOk rfl rfl (r_p tabOk rfl rfl (r_p tabOk rfl rfl (r_nil ?_)))))))))
    refine r_cond rfl (fun hc3 => ?_) (fun hc3 => ?_)
    · replace hF := bifT hc3 hF
      refine r_seq (r_region (r_p tabOk rfl rfl (r_p tabOk rfl rfl (r_nil ?_))))
      obtain rfl := someI hF; replace hF := hK1
      obtain rfl := someI hF
      exact r_retV tabOk (ρ := Int) [_] h ⟨rfl, trivial⟩ (vs_int _ _)
    · replace hF := bifF hc3 hF
      refine r_skip ?_
      refine r_blk ?_
      refine r_region (r_p tabOk rfl rfl (r_p tabOk rfl rfl (r_nil ?_)))
      exact r_back m1 [(3, _), (6, _), (7, _), (8, _)] (Nat.lt_succ_self m1) ⟨rfl, rfl, rfl, rfl, trivial⟩ ⟨_, hF, rfl, h⟩
  · replace hF := bifF hc1 hF
    refine r_exit rfl ?_
    obtain rfl := someI hF; replace hF := hK1
    refine r_seq (r_region (r_p tabOk rfl rfl (r_p tabOk rfl rfl (r_nil ?_))))
    obtain rfl := someI hF
    exact r_retV tabOk (ρ := Int) [_] h ⟨rfl, trivial⟩ (vs_int _ _)

def cmp_isNaN_int64 (_ : Nat) (x : Int) : Option Bool :=
  some (x != x)

theorem cmp_isNaN_int64_ok {n : Nat} {w : World} {x : Int}  {r : Bool} (hF : cmp_isNaN_int64 n x = some r) : RetV Tryz.prog 139 [.int .i64 x] w r := by
  refine retV_of_run Tryz.func139 rfl (m := 6) rfl rfl (fun h => ?_)
  rw [cmp_isNaN_int64] at hF
  refine r_seq (r_region (r_p tabOk rfl rfl (r_nil (r_seq (r_region (r_p tabOk rfl rfl (r_p tabOk rfl rfl (r_p tabOk rfl rfl (r_p tabOk rfl rfl ?_)))))))))
  refine r_nil ?_
  obtain rfl := someI hF
  exact r_retV tabOk (ρ := Bool) [_] h ⟨rfl, trivial⟩ (vs_bool _ _)

def cmp_Compare_int64 (n : Nat) (x : Int) (y : Int) : Option Int :=
  (cmp_isNaN_int64 n x).bind fun r1 =>
  (cmp_isNaN_int64 n y).bind fun r2 =>
  bif r1 then
    bif r2 then
      some 0
    else
      some (-1)
  else
    bif r2 then
      some 1
    else
      bif decide (x < y) then
        some (-1)
      else
        bif decide (x > y) then
          some 1
        else
          some 0

theorem cmp_Compare_int64_ok {n : Nat} {w : World} {x : Int} {y : Int}  {r : Int} (hF : cmp_Compare_int64 n x y = some r) : RetV Tryz.prog 92 [.int .i64 x, .int .i64 y] w r := by
  refine retV_of_run Tryz.func92 rfl (m := 20) rfl rfl (fun h => ?_)
  rw [cmp_Compare_int64] at hF
  refine r_seq (r_region (r_p tabOk rfl rfl (r_nil (r_seq (r_region (r_p tabOk rfl rfl ?_))))))
  obtain ⟨r1, hr1, hF⟩ := bindS hF
  refine r_callB r1 h call139 (cmp_isNaN_int64_ok hr1) rfl rfl rfl rfl ?_
  intro w1 h
  refine r_p tabOk rfl rfl (r_nil (r_seq (r_region (r_p tabOk rfl rfl ?_))))
  obtain ⟨r2, hr2, hF⟩ := bindS hF
  refine r_callB r2 h call139 (cmp_isNaN_int64_ok hr2) rfl rfl rfl rfl ?_
  intro w2 h
  refine r_p tabOk rfl rfl (r_nil (r_seq (r_seq (r_region (r_p tabOk rfl rfl (r_nil ?_))))))
  refine r_cond rfl (fun hc1 => ?_) (fun hc1 => ?_)
  · replace hF := bifT hc1 hF
    refine r_seq (r_seq (r_region (r_p tabOk rfl rfl (r_nil ?_))))
    refine r_cond rfl (fun hc2 => ?_) (fun hc2 => ?_)
    · replace hF := bifT hc2 hF
      refine r_seq (r_region (r_p tabOk rfl rfl (r_nil ?_)))
      obtain rfl := someI hF
      exact r_retV tabOk (ρ := Int) [_] h ⟨rfl, trivial⟩ (vs_int _ _)
    · replace hF := bifF hc2 hF
      refine r_skip (r_seq (r_region (r_p tabOk rfl rfl (r_nil ?_))))
      obtain rfl := someI hF
      exact r_retV tabOk (ρ := Int) [_] h ⟨rfl, trivial⟩ (vs_int _ _)
  · replace hF := bifF hc1 hF
    refine r_skip (r_seq (r_seq (r_region (r_p tabOk rfl rfl (r_nil ?_)))))
    refine r_cond rfl (fun hc3 => ?_) (fun hc3 => ?_)
    · replace hF := bifT hc3 hF
      refine r_seq (r_region (r_p tabOk rfl rfl (r_nil ?_)))
      obtain rfl := someI hF
      exact r_retV tabOk (ρ := Int) [_] h ⟨rfl, trivial⟩ (vs_int _ _)
    · replace hF := bifF hc3 hF
      refine r_skip (r_seq (r_seq (r_region (r_p tabOk rfl rfl (r_p tabOk rfl rfl (r_p tabOk rfl rfl (r_nil ?_)))))))
      refine r_cond rfl (fun hc4 => ?_) (fun hc4 => ?_)
      · replace hF := bifT hc4 hF
        refine r_seq (r_region (r_p tabOk rfl rfl (r_nil ?_)))
        obtain rfl := someI hF
        exact r_retV tabOk (ρ := Int) [_] h ⟨rfl, trivial⟩ (vs_int _ _)
      · replace hF := bifF hc4 hF
        refine r_skip (r_seq (r_seq (r_region (r_p tabOk rfl rfl (r_p tabOk rfl rfl (r_p tabOk rfl rfl (r_nil ?_)))))))
        refine r_cond rfl (fun hc5 => ?_) (fun hc5 => ?_)
        · replace hF := bifT hc5 hF
          refine r_seq (r_region (r_p tabOk rfl rfl (r_nil ?_)))
          obtain rfl := someI hF
          exact r_retV tabOk (ρ := Int) [_] h ⟨rfl, trivial⟩ (vs_int _ _)
        · replace hF := bifF hc5 hF
          refine r_skip (r_seq (r_region (r_p tabOk rfl rfl (r_nil ?_))))
          obtain rfl := someI hF
          exact r_retV tabOk (ρ := Int) [_] h ⟨rfl, trivial⟩ (vs_int _ _)

def impl_Block_areCouplings_L1 (a_0 : TBlock) (a_1 : (List TCoupling)) : Nat → Int → Option (Flow Bool Int)
  | 0, _ => none
  | n + 1, i1 =>
    bif decide (i1 < (a_1.length : Int)) then
      (idx a_1 i1).bind fun y1 =>
      (
        (impl_Design_isNet n (⟨a_0.Design.Instances, a_0.Design.Nets, a_0.Design.Ports⟩ : TDesign) y1.A).bind fun r4 =>
        bif (!r4) then
          some true
        else
          (impl_Design_isNet n (⟨a_0.Design.Instances, a_0.Design.Nets, a_0.Design.Ports⟩ : TDesign) y1.B).bind fun r5 =>
          bif (!r5) then
            some true
          else
            bif decide (y1.A ≥ y1.B) then
              some true
            else
              (impl_within n y1.Delta 1 10000).bind fun r6 =>
              some (!r6)).bind fun b2 =>
      bif b2 then
        some (.ret false)
      else
        bif decide (i1 > 0) then
          (idx a_1 (W64 (i1 - 1))).bind fun y2 =>
          (idx a_1 (W64 (i1 - 1))).bind fun y3 =>
          (cmp_Compare_int64 n y2.A y1.A).bind fun r1 =>
          (cmp_Compare_int64 n y3.B y1.B).bind fun r2 =>
          (cmp_Or_int n ([r1, r2] : List Int)).bind fun r3 =>
          bif decide (r3 ≥ 0) then
            some (.ret false)
          else
            impl_Block_areCouplings_L1 a_0 a_1 n (W64 (i1 + 1))
        else
          impl_Block_areCouplings_L1 a_0 a_1 n (W64 (i1 + 1))
    else
      some (.nxt i1)

def impl_Block_areCouplings (n : Nat) (a_0 : TBlock) (a_1 : (List TCoupling)) : Option Bool :=
  (impl_Block_areCouplings_L1 a_0 a_1 n 0).bind fun o => match o with
  | .ret r => some r
  | .nxt _ =>
    some (decide ((a_1.length : Int) ≤ 20))

theorem impl_Block_areCouplings_ok {n : Nat} {w : World} {a_0 : TBlock} {a_1 : (List TCoupling)} {cs1 : List Value} (ha1 : GoT.R w (old w) a_0 cs1) {cs2 : List Value} (ha2 : GoT.R w (old w) a_1 cs2) {r : Bool} (hF : impl_Block_areCouplings n a_0 a_1 = some r) : RetV Tryz.prog 48 [GoT.v TBlock cs1, GoT.v (List TCoupling) cs2] w r := by
  obtain ⟨p1, k1, p2, k2, p3, k3, p4, k4, p5, k5, rfl, s1, s2, s3, s4, s5⟩ := open_TBlock ha1
  obtain ⟨p6, k6, rfl, s6⟩ := ha2
  refine retV_of_run Tryz.func48 rfl (m := 70) rfl rfl (fun h => ?_)
  rw [impl_Block_areCouplings] at hF
  refine r_seq (r_region ?_)
  refine r_box h rfl rfl ?_
  intro w1 bb1 h
  refine r_p tabOk rfl rfl (r_nil (r_seq (r_seq (r_region (r_p tabOk rfl rfl (r_p tabOk rfl rfl (r_p tabOk rfl rfl (r_nil ?_))))))))
  obtain ⟨o1, hF, hK1⟩ := bindS hF
  refine r_block ?_
  refine r_sub [(1, _), (2, _), (7, _), (8, _), (9, _)] ⟨rfl, rfl, rfl, rfl, rfl, trivial⟩ ?_
  refine r_loop (fun m e w' => ∃ (i1 : Int), impl_Block_areCouplings_L1 a_0 a_1 m i1 = some o1 ∧ e = [(1, .slice p6 a_1.length k6), (2, .pointer (some ⟨bb1, 0, none⟩)), (7, .slice p6 a_1.length k6), (8, .int .i64 (a_1.length : Int)), (9, .int .i64 i1)] ∧ SH w w' [Ch.box bb1 [.slice p1 a_0.Library.Cells.length k1, .slice p2 a_0.Design.Instances.length k2, .slice p3 a_0.Design.Nets.length k3, .slice p4 a_0.Design.Ports.length k4, .slice p5 a_0.Wires.length k5] 44]) n ⟨_, hF, rfl, h⟩ ?_
  rintro m1 e1 w2 ⟨i1, hF, rfl, h⟩
  rcases m1 with _ | m1
  · rw [impl_Block_areCouplings_L1] at hF
    cases hF
  rw [impl_Block_areCouplings_L1] at hF
  refine r_seq (r_region (r_p tabOk rfl rfl (r_nil (r_seq ?_))))
  refine r_cond rfl (fun hc1 => ?_) (fun hc1 => ?_)
  · replace hF := bifT hc1 hF
    refine r_skip (r_seq (r_block (r_seq (r_region (r_p tabOk rfl rfl ?_)))))
    obtain ⟨y1, hy1, hF⟩ := bindS hF
    have he1 := idx_some hy1
    obtain ⟨b1, o_1, q1, cs3, hp1, hq1, -, hr1, hc2⟩ := s6.at hy1
    obtain rfl := open_TCoupling hr1
    refine r_v (v_ix tabOk hp1 hq1 ⟨he1.1, he1.2.1⟩ rfl rfl rfl rfl rfl rfl) rfl (r_v (v_ld tabOk (hc2.below h.below) (j := 0) rfl rfl rfl) rfl ?_)
    refine r_alloc tabOk h rfl rfl rfl ?_
    intro w3 bb2 h
    refine r_p tabOk rfl rfl ?_
    refine r_stbox tabOk 0 h rfl rfl rfl rfl rfl rfl rfl ?_
    intro w4 h
    refine r_nil (r_seq (r_seq ?_))
    obtain ⟨KF1, hKF1, o2, hF, hK2⟩ := bindE hF
    refine r_cut (fun e w' => ∃ (b2 : Bool), KF1 b2 = some o1 ∧ e = [(1, .slice p6 a_1.length k6), (2, .pointer (some ⟨bb1, 0, none⟩)), (5, .int .i64 i1), (6, .pointer (some ⟨bb2, 0, none⟩)), (7, .slice p6 a_1.length k6), (8, .int .i64 (a_1.length : Int)), (9, .int .i64 i1), (40, .bool b2)] ∧ SH w w' [Ch.box bb2 [.int .i64 y1.A, .int .i64 y1.B, .int .i64 y1.Delta] 88, Ch.box bb1 [.slice p1 a_0.Library.Cells.length k1, .slice p2 a_0.Design.Instances.length k2, .slice p3 a_0.Design.Nets.length k3, .slice p4 a_0.Design.Ports.length k4, .slice p5 a_0.Wires.length k5] 44]) ?_ ?_
    · refine r_region (r_p tabOk rfl rfl (r_v (v_ld tabOk (h.box 1 rfl) (j := 1) rfl rfl rfl) rfl (r_p tabOk rfl rfl (r_v (v_ld tabOk (h.box 0 rfl) (j := 0) rfl rfl rfl) rfl ?_))))
      obtain ⟨r4, hr7, hF⟩ := bindS hF
      refine r_callB r4 h call89 (impl_Design_isNet_ok (mkR_TDesign (⟨a_0.Design.Instances, a_0.Design.Nets, a_0.Design.Ports⟩ : TDesign) (h.oldS s2) (h.oldS s3) (h.oldS s4)) hr7) rfl rfl rfl rfl ?_
      intro w10 h
      refine r_p tabOk rfl rfl (r_p tabOk rfl rfl ?_)
      by_cases hc8 : (!r4) = true
      · replace hF := bifT hc8 hF
        refine r_setT hc8 (t := 20) rfl ?_
        refine r_not rfl rfl rfl ?_
        refine r_not rfl rfl rfl ?_
        refine r_not rfl rfl rfl ?_
        refine r_not rfl rfl rfl ?_
        refine r_not rfl rfl rfl ?_
        refine r_not rfl rfl rfl ?_
        refine r_p tabOk rfl rfl (r_p tabOk rfl rfl ?_)
        refine r_not rfl rfl rfl ?_
        refine r_not rfl rfl rfl ?_
        refine r_not rfl rfl rfl ?_
        refine r_not rfl rfl rfl ?_
        refine r_not rfl rfl rfl ?_
        refine r_p tabOk rfl rfl (r_p tabOk rfl rfl ?_)
        refine r_not rfl rfl rfl ?_
        refine r_not rfl rfl rfl ?_
        refine r_not rfl rfl rfl ?_
        refine r_not rfl rfl rfl ?_
        refine r_p tabOk rfl rfl (r_nil ?_)
        obtain rfl := someI hF
        exact r_cutgoal [(1, _), (2, _), (5, _), (6, _), (7, _), (8, _), (9, _), (40, _)] ⟨rfl, rfl, rfl, rfl, rfl, rfl, rfl, rfl, trivial⟩ ⟨_, hK2, rfl, h⟩
      · replace hc8 := Bool.eq_false_iff.2 hc8
        replace hF := bifF hc8 hF
        refine r_setF hc8 (t := 20) rfl ?_
        refine r_wanted rfl (r_p tabOk rfl rfl (r_wanted rfl (r_v (v_ld tabOk (h.box 1 rfl) (j := 1) rfl rfl rfl) rfl (r_wanted rfl (r_p tabOk rfl rfl (r_wanted rfl (r_v (v_ld tabOk (h.box 0 rfl) (j := 1) rfl rfl rfl) rfl (r_wanted rfl ?_))))))))
        obtain ⟨r5, hr8, hF⟩ := bindS hF
        refine r_callB r5 h call89 (impl_Design_isNet_ok (mkR_TDesign (⟨a_0.Design.Instances, a_0.Design.Nets, a_0.Design.Ports⟩ : TDesign) (h.oldS s2) (h.oldS s3) (h.oldS s4)) hr8) rfl rfl rfl rfl ?_
        intro w11 h
        refine r_wanted rfl (r_p tabOk rfl rfl (r_p tabOk rfl rfl (r_p tabOk rfl rfl ?_)))
        by_cases hc9 : (!r5) = true
        · replace hF := bifT hc9 hF
          refine r_setT hc9 (t := 28) rfl ?_
          refine r_not rfl rfl rfl ?_
          refine r_not rfl rfl rfl ?_
          refine r_not rfl rfl rfl ?_
          refine r_not rfl rfl rfl ?_
          refine r_not rfl rfl rfl ?_
          refine r_p tabOk rfl rfl (r_p tabOk rfl rfl ?_)
          refine r_not rfl rfl rfl ?_
          refine r_not rfl rfl rfl ?_
          refine r_not rfl rfl rfl ?_
          refine r_not rfl rfl rfl ?_
          refine r_p tabOk rfl rfl (r_nil ?_)
          obtain rfl := someI hF
          exact r_cutgoal [(1, _), (2, _), (5, _), (6, _), (7, _), (8, _), (9, _), (40, _)] ⟨rfl, rfl, rfl, rfl, rfl, rfl, rfl, rfl, trivial⟩ ⟨_, hK2, rfl, h⟩
        · replace hc9 := Bool.eq_false_iff.2 hc9
          replace hF := bifF hc9 hF
          refine r_setF hc9 (t := 28) rfl ?_
          refine r_wanted rfl (r_p tabOk rfl rfl (r_wanted rfl (r_v (v_ld tabOk (h.box 0 rfl) (j := 0) rfl rfl rfl) rfl (r_wanted rfl (r_p tabOk rfl rfl (r_wanted rfl (r_v (v_ld tabOk (h.box 0 rfl) (j := 1) rfl rfl rfl) rfl (r_wanted rfl (r_p tabOk rfl rfl ?_)))))))))
          refine r_p tabOk rfl rfl (r_p tabOk rfl rfl ?_)
          by_cases hc10 : (decide (y1.A ≥ y1.B)) = true
          · replace hF := bifT hc10 hF
            refine r_setT hc10 (t := 35) rfl ?_
            refine r_not rfl rfl rfl ?_
            refine r_not rfl rfl rfl ?_
            refine r_not rfl rfl rfl ?_
            refine r_not rfl rfl rfl ?_
            refine r_p tabOk rfl rfl (r_nil ?_)
            obtain rfl := someI hF
            exact r_cutgoal [(1, _), (2, _), (5, _), (6, _), (7, _), (8, _), (9, _), (40, _)] ⟨rfl, rfl, rfl, rfl, rfl, rfl, rfl, rfl, trivial⟩ ⟨_, hK2, rfl, h⟩
          · replace hc10 := Bool.eq_false_iff.2 hc10
            replace hF := bifF hc10 hF
            refine r_setF hc10 (t := 35) rfl ?_
            refine r_wanted rfl (r_p tabOk rfl rfl (r_wanted rfl (r_v (v_ld tabOk (h.box 0 rfl) (j := 2) rfl rfl rfl) rfl (r_wanted rfl ?_))))
            obtain ⟨r6, hr9, hF⟩ := bindS hF
            refine r_callB r6 h call90 (impl_within_ok hr9) rfl rfl rfl rfl ?_
            intro w12 h
            refine r_wanted rfl (r_p tabOk rfl rfl (r_p tabOk rfl rfl (r_nil ?_)))
            obtain rfl := someI hF
            exact r_cutgoal [(1, _), (2, _), (5, _), (6, _), (7, _), (8, _), (9, _), (40, _)] ⟨rfl, rfl, rfl, rfl, rfl, rfl, rfl, rfl, trivial⟩ ⟨_, hK2, rfl, h⟩
    · rintro e2 w13 ⟨b2, hF, rfl, h⟩
      subst hKF1
      refine r_cond rfl (fun hc3 => ?_) (fun hc3 => ?_)
      · replace hF := bifT hc3 hF
        refine r_seq (r_region (r_p tabOk rfl rfl (r_nil ?_)))
        obtain rfl := someI hF; replace hF := hK1
        obtain rfl := someI hF
        exact r_retV tabOk (ρ := Bool) [_] h ⟨rfl, trivial⟩ (vs_bool _ _)
      · replace hF := bifF hc3 hF
        refine r_skip (r_seq ?_)
        refine r_any [] (fun w' => SH w w' [Ch.box bb2 [.int .i64 y1.A, .int .i64 y1.B, .int .i64 y1.Delta] 88]) rfl 25 rfl #[false, false, false, false, false, false, false, false, false, false, false, false, false, false, false, false, false, false, false, false, false, false, false, false, false] (by kernel_rfl) (fun w5 hb => ?_)
        replace h := h.ext hb
        clear hb
        refine a_take 0 rfl #[true, false, false, false, false, false, false, false, false, false, false, false, false, false, false, false, false, false, false, false, false, false, false, false, false] (by kernel_rfl) (by kernel_rfl) (fun w' hw => v_p tabOk rfl w') (h.pick [0] rfl) rfl ?_
        refine a_take 1 rfl #[true, true, false, false, false, false, false, false, false, false, false, false, false, false, false, false, false, false, false, false, false, false, false, false, false] (by kernel_rfl) (by kernel_rfl) (fun w' hw => v_p tabOk rfl w') (h.pick [0] rfl) rfl ?_
        refine a_take 2 rfl #[true, true, true, false, false, false, false, false, false, false, false, false, false, false, false, false, false, false, false, false, false, false, false, false, false] (by kernel_rfl) (by kernel_rfl) (fun w' hw => v_p tabOk rfl w') (h.pick [0] rfl) rfl ?_
        by_cases hc4 : (decide (i1 > 0)) = true
        · replace hF := bifT hc4 hF
          refine a_setT hc4 (t := 43) rfl ?_
          refine a_takeW 3 rfl (by kernel_rfl) #[true, true, true, true, false, false, false, false, false, false, false, false, false, false, false, false, false, false, false, false, false, false, false, false, false] (by kernel_rfl) (by kernel_rfl) (fun w' hw => v_p tabOk rfl w') (h.pick [0] rfl) rfl ?_
          refine a_takeW 4 rfl (by kernel_rfl) #[true, true, true, true, true, false, false, false, false, false, false, false, false, false, false, false, false, false, false, false, false, false, false, false, false] (by kernel_rfl) (by kernel_rfl) (fun w' hw => v_p tabOk rfl w') (h.pick [0] rfl) rfl ?_
          refine a_takeW 5 rfl (by kernel_rfl) #[true, true, true, true, true, true, false, false, false, false, false, false, false, false, false, false, false, false, false, false, false, false, false, false, false] (by kernel_rfl) (by kernel_rfl) (fun w' hw => v_p tabOk rfl w') (h.pick [0] rfl) rfl ?_
          obtain ⟨y2, hy2, hF⟩ := bindS hF
          have he2 := idx_some hy2
          obtain ⟨b3, o_2, q2, cs4, hp2, hq2, -, hr2, hc5⟩ := s6.at hy2
          obtain rfl := open_TCoupling hr2
          refine a_takeW 6 rfl (by kernel_rfl) #[true, true, true, true, true, true, true, false, false, false, false, false, false, false, false, false, false, false, false, false, false, false, false, false, false] (by kernel_rfl) (by kernel_rfl) (fun w' hw => v_ix tabOk hp2 hq2 ⟨he2.1, he2.2.1⟩ rfl rfl rfl rfl rfl rfl) (h.pick [0] rfl) rfl ?_
          refine a_takeW 7 rfl (by kernel_rfl) #[true, true, true, true, true, true, true, true, false, false, false, false, false, false, false, false, false, false, false, false, false, false, false, false, false] (by kernel_rfl) (by kernel_rfl) (fun w' hw => v_p tabOk rfl w') (h.pick [0] rfl) rfl ?_
          refine a_takeW 8 rfl (by kernel_rfl) #[true, true, true, true, true, true, true, true, true, false, false, false, false, false, false, false, false, false, false, false, false, false, false, false, false] (by kernel_rfl) (by kernel_rfl) (fun w' hw => v_ld tabOk (hc5.below hw.below) (j := 0) rfl rfl rfl) (h.pick [0] rfl) rfl ?_
          refine a_takeW 9 rfl (by kernel_rfl) #[true, true, true, true, true, true, true, true, true, true, false, false, false, false, false, false, false, false, false, false, false, false, false, false, false] (by kernel_rfl) (by kernel_rfl) (fun w' hw => v_p tabOk rfl w') (h.pick [0] rfl) rfl ?_
          refine a_takeW 10 rfl (by kernel_rfl) #[true, true, true, true, true, true, true, true, true, true, true, false, false, false, false, false, false, false, false, false, false, false, false, false, false] (by kernel_rfl) (by kernel_rfl) (fun w' hw => v_ld tabOk (hw.box 0 rfl) (j := 0) rfl rfl rfl) (h.pick [0] rfl) rfl ?_
          refine a_takeW 12 rfl (by kernel_rfl) #[true, true, true, true, true, true, true, true, true, true, true, false, true, false, false, false, false, false, false, false, false, false, false, false, false] (by kernel_rfl) (by kernel_rfl) (fun w' hw => v_p tabOk rfl w') (h.pick [0] rfl) rfl ?_
          refine a_takeW 13 rfl (by kernel_rfl) #[true, true, true, true, true, true, true, true, true, true, true, false, true, true, false, false, false, false, false, false, false, false, false, false, false] (by kernel_rfl) (by kernel_rfl) (fun w' hw => v_p tabOk rfl w') (h.pick [0] rfl) rfl ?_
          refine a_takeW 14 rfl (by kernel_rfl) #[true, true, true, true, true, true, true, true, true, true, true, false, true, true, true, false, false, false, false, false, false, false, false, false, false] (by kernel_rfl) (by kernel_rfl) (fun w' hw => v_p tabOk rfl w') (h.pick [0] rfl) rfl ?_
          obtain ⟨y3, hy3, hF⟩ := bindS hF
          have he3 := idx_some hy3
          obtain ⟨b4, o_3, q3, cs5, hp3, hq3, -, hr3, hc6⟩ := s6.at hy3
          obtain rfl := open_TCoupling hr3
          refine a_takeW 15 rfl (by kernel_rfl) #[true, true, true, true, true, true, true, true, true, true, true, false, true, true, true, true, false, false, false, false, false, false, false, false, false] (by kernel_rfl) (by kernel_rfl) (fun w' hw => v_ix tabOk hp3 hq3 ⟨he3.1, he3.2.1⟩ rfl rfl rfl rfl rfl rfl) (h.pick [0] rfl) rfl ?_
          refine a_takeW 16 rfl (by kernel_rfl) #[true, true, true, true, true, true, true, true, true, true, true, false, true, true, true, true, true, false, false, false, false, false, false, false, false] (by kernel_rfl) (by kernel_rfl) (fun w' hw => v_p tabOk rfl w') (h.pick [0] rfl) rfl ?_
          refine a_takeW 17 rfl (by kernel_rfl) #[true, true, true, true, true, true, true, true, true, true, true, false, true, true, true, true, true, true, false, false, false, false, false, false, false] (by kernel_rfl) (by kernel_rfl) (fun w' hw => v_ld tabOk (hc6.below hw.below) (j := 1) rfl rfl rfl) (h.pick [0] rfl) rfl ?_
          refine a_takeW 18 rfl (by kernel_rfl) #[true, true, true, true, true, true, true, true, true, true, true, false, true, true, true, true, true, true, true, false, false, false, false, false, false] (by kernel_rfl) (by kernel_rfl) (fun w' hw => v_p tabOk rfl w') (h.pick [0] rfl) rfl ?_
          refine a_takeW 19 rfl (by kernel_rfl) #[true, true, true, true, true, true, true, true, true, true, true, false, true, true, true, true, true, true, true, true, false, false, false, false, false] (by kernel_rfl) (by kernel_rfl) (fun w' hw => v_ld tabOk (hw.box 0 rfl) (j := 1) rfl rfl rfl) (h.pick [0] rfl) rfl ?_
          refine a_only 11 rfl #[true, true, true, true, true, true, true, true, true, true, true, true, true, true, true, true, true, true, true, true, false, false, false, false, false] (by kernel_rfl) (by kernel_rfl) ?_
          refine r_wanted rfl ?_
          obtain ⟨r1, hr4, hF⟩ := bindS hF
          refine r_callI r1 h call92 (cmp_Compare_int64_ok hr4) rfl rfl rfl rfl ?_
          intro w6 h
          refine a_goal (fun _ => (h.pick [0] rfl)) ?_
          refine a_only 20 rfl #[true, true, true, true, true, true, true, true, true, true, true, true, true, true, true, true, true, true, true, true, true, false, false, false, false] (by kernel_rfl) (by kernel_rfl) ?_
          refine r_wanted rfl ?_
          obtain ⟨r2, hr5, hF⟩ := bindS hF
          refine r_callI r2 h call92 (cmp_Compare_int64_ok hr5) rfl rfl rfl rfl ?_
          intro w7 h
          refine a_goal (fun _ => (h.pick [0] rfl)) ?_
          refine a_only 21 rfl #[true, true, true, true, true, true, true, true, true, true, true, true, true, true, true, true, true, true, true, true, true, true, false, false, false] (by kernel_rfl) (by kernel_rfl) ?_
          refine r_wanted rfl ?_
          refine r_bslice tabOk [.tmp 52, .tmp 61] _ ([r1, r2] : List Int) h rfl rfl rfl rfl rfl rfl rfl rfl rfl ⟨rfl, rfl, trivial⟩ rfl ?_
          intro w8 p7 S1 h
          refine a_goal (fun _ => (h.pick [1] rfl)) ?_
          refine a_only 22 rfl #[true, true, true, true, true, true, true, true, true, true, true, true, true, true, true, true, true, true, true, true, true, true, true, false, false] (by kernel_rfl) (by kernel_rfl) ?_
          refine r_wanted rfl ?_
          obtain ⟨r3, hr6, hF⟩ := bindS hF
          refine r_callI r3 h call91 (cmp_Or_int_ok (h.own 0 rfl) hr6) rfl rfl rfl rfl ?_
          intro w9 h
          refine a_goal (fun _ => (h.pick [1] rfl)) ?_
          refine a_takeW 23 rfl (by kernel_rfl) #[true, true, true, true, true, true, true, true, true, true, true, true, true, true, true, true, true, true, true, true, true, true, true, true, false] (by kernel_rfl) (by kernel_rfl) (fun w' hw => v_p tabOk rfl w') (h.pick [1] rfl) rfl ?_
          refine a_take 24 rfl #[true, true, true, true, true, true, true, true, true, true, true, true, true, true, true, true, true, true, true, true, true, true, true, true, true] (by kernel_rfl) (by kernel_rfl) (fun w' hw => v_p tabOk rfl w') (h.pick [1] rfl) rfl ?_
          refine a_done (by kernel_rfl) ?_
          refine r_cond rfl (fun hc7 => ?_) (fun hc7 => ?_)
          · replace hF := bifT hc7 hF
            refine r_seq (r_region (r_p tabOk rfl rfl (r_nil ?_)))
            obtain rfl := someI hF; replace hF := hK1
            obtain rfl := someI hF
            exact r_retV tabOk (ρ := Bool) [_] h ⟨rfl, trivial⟩ (vs_bool _ _)
          · replace hF := bifF hc7 hF
            refine r_skip ?_
            refine r_blk ?_
            refine r_region (r_p tabOk rfl rfl (r_p tabOk rfl rfl (r_nil ?_)))
            replace h := h.pick [2] rfl
            exact r_back m1 [(1, _), (2, _), (7, _), (8, _), (9, _)] (Nat.lt_succ_self m1) ⟨rfl, rfl, rfl, rfl, rfl, trivial⟩ ⟨_, hF, rfl, h⟩
        · replace hc4 := Bool.eq_false_iff.2 hc4
          replace hF := bifF hc4 hF
          refine a_setF hc4 (t := 43) rfl ?_
          refine a_not 3 rfl (by kernel_rfl) rfl #[true, true, true, true, false, false, false, false, false, false, false, false, false, false, false, false, false, false, false, false, false, false, false, false, false] (by kernel_rfl) (by kernel_rfl) (h.pick [0] rfl) rfl ?_
          refine a_not 4 rfl (by kernel_rfl) rfl #[true, true, true, true, true, false, false, false, false, false, false, false, false, false, false, false, false, false, false, false, false, false, false, false, false] (by kernel_rfl) (by kernel_rfl) (h.pick [0] rfl) rfl ?_
          refine a_not 5 rfl (by kernel_rfl) rfl #[true, true, true, true, true, true, false, false, false, false, false, false, false, false, false, false, false, false, false, false, false, false, false, false, false] (by kernel_rfl) (by kernel_rfl) (h.pick [0] rfl) rfl ?_
          refine a_not 6 rfl (by kernel_rfl) rfl #[true, true, true, true, true, true, true, false, false, false, false, false, false, false, false, false, false, false, false, false, false, false, false, false, false] (by kernel_rfl) (by kernel_rfl) (h.pick [0] rfl) rfl ?_
          refine a_not 7 rfl (by kernel_rfl) rfl #[true, true, true, true, true, true, true, true, false, false, false, false, false, false, false, false, false, false, false, false, false, false, false, false, false] (by kernel_rfl) (by kernel_rfl) (h.pick [0] rfl) rfl ?_
          refine a_not 8 rfl (by kernel_rfl) rfl #[true, true, true, true, true, true, true, true, true, false, false, false, false, false, false, false, false, false, false, false, false, false, false, false, false] (by kernel_rfl) (by kernel_rfl) (h.pick [0] rfl) rfl ?_
          refine a_not 9 rfl (by kernel_rfl) rfl #[true, true, true, true, true, true, true, true, true, true, false, false, false, false, false, false, false, false, false, false, false, false, false, false, false] (by kernel_rfl) (by kernel_rfl) (h.pick [0] rfl) rfl ?_
          refine a_not 10 rfl (by kernel_rfl) rfl #[true, true, true, true, true, true, true, true, true, true, true, false, false, false, false, false, false, false, false, false, false, false, false, false, false] (by kernel_rfl) (by kernel_rfl) (h.pick [0] rfl) rfl ?_
          refine a_not 11 rfl (by kernel_rfl) rfl #[true, true, true, true, true, true, true, true, true, true, true, true, false, false, false, false, false, false, false, false, false, false, false, false, false] (by kernel_rfl) (by kernel_rfl) (h.pick [0] rfl) rfl ?_
          refine a_not 12 rfl (by kernel_rfl) rfl #[true, true, true, true, true, true, true, true, true, true, true, true, true, false, false, false, false, false, false, false, false, false, false, false, false] (by kernel_rfl) (by kernel_rfl) (h.pick [0] rfl) rfl ?_
          refine a_not 13 rfl (by kernel_rfl) rfl #[true, true, true, true, true, true, true, true, true, true, true, true, true, true, false, false, false, false, false, false, false, false, false, false, false] (by kernel_rfl) (by kernel_rfl) (h.pick [0] rfl) rfl ?_
          refine a_not 14 rfl (by kernel_rfl) rfl #[true, true, true, true, true, true, true, true, true, true, true, true, true, true, true, false, false, false, false, false, false, false, false, false, false] (by kernel_rfl) (by kernel_rfl) (h.pick [0] rfl) rfl ?_
          refine a_not 15 rfl (by kernel_rfl) rfl #[true, true, true, true, true, true, true, true, true, true, true, true, true, true, true, true, false, false, false, false, false, false, false, false, false] (by kernel_rfl) (by kernel_rfl) (h.pick [0] rfl) rfl ?_
          refine a_not 16 rfl (by kernel_rfl) rfl #[true, true, true, true, true, true, true, true, true, true, true, true, true, true, true, true, true, false, false, false, false, false, false, false, false] (by kernel_rfl) (by kernel_rfl) (h.pick [0] rfl) rfl ?_
          refine a_not 17 rfl (by kernel_rfl) rfl #[true, true, true, true, true, true, true, true, true, true, true, true, true, true, true, true, true, true, false, false, false, false, false, false, false] (by kernel_rfl) (by kernel_rfl) (h.pick [0] rfl) rfl ?_
          refine a_not 18 rfl (by kernel_rfl) rfl #[true, true, true, true, true, true, true, true, true, true, true, true, true, true, true, true, true, true, true, false, false, false, false, false, false] (by kernel_rfl) (by kernel_rfl) (h.pick [0] rfl) rfl ?_
          refine a_not 19 rfl (by kernel_rfl) rfl #[true, true, true, true, true, true, true, true, true, true, true, true, true, true, true, true, true, true, true, true, false, false, false, false, false] (by kernel_rfl) (by kernel_rfl) (h.pick [0] rfl) rfl ?_
          refine a_not 20 rfl (by kernel_rfl) rfl #[true, true, true, true, true, true, true, true, true, true, true, true, true, true, true, true, true, true, true, true, true, false, false, false, false] (by kernel_rfl) (by kernel_rfl) (h.pick [0] rfl) rfl ?_
          refine a_not 21 rfl (by kernel_rfl) rfl #[true, true, true, true, true, true, true, true, true, true, true, true, true, true, true, true, true, true, true, true, true, true, false, false, false] (by kernel_rfl) (by kernel_rfl) (h.pick [0] rfl) rfl ?_
          refine a_not 22 rfl (by kernel_rfl) rfl #[true, true, true, true, true, true, true, true, true, true, true, true, true, true, true, true, true, true, true, true, true, true, true, false, false] (by kernel_rfl) (by kernel_rfl) (h.pick [0] rfl) rfl ?_
          refine a_not 23 rfl (by kernel_rfl) rfl #[true, true, true, true, true, true, true, true, true, true, true, true, true, true, true, true, true, true, true, true, true, true, true, true, false] (by kernel_rfl) (by kernel_rfl) (h.pick [0] rfl) rfl ?_
          refine a_take 24 rfl #[true, true, true, true, true, true, true, true, true, true, true, true, true, true, true, true, true, true, true, true, true, true, true, true, true] (by kernel_rfl) (by kernel_rfl) (fun w' hw => v_p tabOk rfl w') (h.pick [0] rfl) rfl ?_
          refine a_done (by kernel_rfl) ?_
          refine r_condF rfl rfl ?_
          refine r_skip ?_
          refine r_blk ?_
          refine r_region (r_p tabOk rfl rfl (r_p tabOk rfl rfl (r_nil ?_)))
          replace h := h.pick [1] rfl
          exact r_back m1 [(1, _), (2, _), (7, _), (8, _), (9, _)] (Nat.lt_succ_self m1) ⟨rfl, rfl, rfl, rfl, rfl, trivial⟩ ⟨_, hF, rfl, h⟩
  · replace hF := bifF hc1 hF
    refine r_exit rfl ?_
    obtain rfl := someI hF; replace hF := hK1
    refine r_seq (r_region (r_p tabOk rfl rfl (r_p tabOk rfl rfl (r_p tabOk rfl rfl (r_p tabOk rfl rfl (r_nil ?_))))))
    obtain rfl := someI hF
    exact r_retV tabOk (ρ := Bool) [_] h ⟨rfl, trivial⟩ (vs_bool _ _)

def impl_IsCouplings (n : Nat) (b : TBlock) (list : (List TCoupling)) : Option Bool :=
  (impl_IsBlock n b).bind fun r1 =>
  bif r1 then
    (impl_Block_areCouplings n b list).bind fun r2 =>
    some r2
  else
    some false

theorem impl_IsCouplings_ok {n : Nat} {w : World} {b : TBlock} {list : (List TCoupling)} {cs1 : List Value} (ha1 : GoT.R w (old w) b cs1) {cs2 : List Value} (ha2 : GoT.R w (old w) list cs2) {r : Bool} (hF : impl_IsCouplings n b list = some r) : RetV Tryz.prog 16 [GoT.v TBlock cs1, GoT.v (List TCoupling) cs2] w r := by
  obtain ⟨p1, k1, p2, k2, p3, k3, p4, k4, p5, k5, rfl, s1, s2, s3, s4, s5⟩ := open_TBlock ha1
  obtain ⟨p6, k6, rfl, s6⟩ := ha2
  refine retV_of_run Tryz.func16 rfl (m := 12) rfl rfl (fun h => ?_)
  rw [impl_IsCouplings] at hF
  refine r_seq (r_region ?_)
  refine r_box h rfl rfl ?_
  intro w1 bb1 h
  refine r_p tabOk rfl rfl (r_nil (r_seq (r_region (r_v (v_ld tabOk (h.box 0 rfl) (j := 0) rfl rfl rfl) rfl ?_))))
  obtain ⟨r1, hr1, hF⟩ := bindS hF
  refine r_callB r1 h call37 (impl_IsBlock_ok (h.old ha1) hr1) rfl rfl rfl rfl ?_
  intro w2 h
  refine r_p tabOk rfl rfl ?_
  by_cases hc1 : r1 = true
  · replace hF := bifT hc1 hF
    refine r_setT hc1 (t := 7) rfl ?_
    refine r_wanted rfl (r_v (v_ld tabOk (h.box 0 rfl) (j := 0) rfl rfl rfl) rfl (r_wanted rfl (r_p tabOk rfl rfl (r_wanted rfl ?_))))
    obtain ⟨r2, hr2, hF⟩ := bindS hF
    refine r_callB r2 h call48 (impl_Block_areCouplings_ok (h.old ha1) ⟨_, _, rfl, (h.oldS s6)⟩ hr2) rfl rfl rfl rfl ?_
    intro w3 h
    refine r_p tabOk rfl rfl (r_p tabOk rfl rfl (r_nil ?_))
    obtain rfl := someI hF
    exact r_retV tabOk (ρ := Bool) [_] h ⟨rfl, trivial⟩ (vs_bool _ _)
  · replace hc1 := Bool.eq_false_iff.2 hc1
    replace hF := bifF hc1 hF
    refine r_setF hc1 (t := 7) rfl ?_
    refine r_not rfl rfl rfl ?_
    refine r_not rfl rfl rfl ?_
    refine r_not rfl rfl rfl ?_
    refine r_p tabOk rfl rfl (r_p tabOk rfl rfl (r_nil ?_))
    obtain rfl := someI hF
    exact r_retV tabOk (ρ := Bool) [_] h ⟨rfl, trivial⟩ (vs_bool _ _)

def laws_eqCoupling (_ : Nat) (a : TCoupling) (b : TCoupling) : Option Bool :=
  bif (a.A != b.A) then
    some false
  else
    bif (a.B != b.B) then
      some false
    else
      bif (a.Delta != b.Delta) then
        some false
      else
        some true

theorem laws_eqCoupling_ok {n : Nat} {w : World} {a : TCoupling} {b : TCoupling} {cs1 : List Value} (ha1 : GoT.R w (old w) a cs1) {cs2 : List Value} (ha2 : GoT.R w (old w) b cs2) {r : Bool} (hF : laws_eqCoupling n a b = some r) : RetV Tryz.prog 49 [GoT.v TCoupling cs1, GoT.v TCoupling cs2] w r := by
  obtain rfl := open_TCoupling ha1
  obtain rfl := open_TCoupling ha2
  refine retV_of_run Tryz.func49 rfl (m := 20) rfl rfl (fun h => ?_)
  rw [laws_eqCoupling] at hF
  refine r_seq (r_region ?_)
  refine r_box h rfl rfl ?_
  intro w1 bb1 h
  refine r_box h rfl rfl ?_
  intro w2 bb2 h
  refine r_p tabOk rfl rfl (r_nil (r_seq (r_seq (r_region (r_p tabOk rfl rfl (r_v (v_ld tabOk (h.box 1 rfl) (j := 0) rfl rfl rfl) rfl (r_p tabOk rfl rfl (r_v (v_ld tabOk (h.box 0 rfl) (j := 0) rfl rfl rfl) rfl (r_p tabOk rfl rfl ?_)))))))))
  refine r_nil ?_
  refine r_cond rfl (fun hc1 => ?_) (fun hc1 => ?_)
  · replace hF := bifT hc1 hF
    refine r_seq (r_region (r_p tabOk rfl rfl (r_nil ?_)))
    obtain rfl := someI hF
    exact r_retV tabOk (ρ := Bool) [_] h ⟨rfl, trivial⟩ (vs_bool _ _)
  · replace hF := bifF hc1 hF
    refine r_skip (r_seq (r_seq (r_region (r_p tabOk rfl rfl (r_v (v_ld tabOk (h.box 1 rfl) (j := 1) rfl rfl rfl) rfl (r_p tabOk rfl rfl (r_v (v_ld tabOk (h.box 0 rfl) (j := 1) rfl rfl rfl) rfl (r_p tabOk rfl rfl (r_nil ?_)))))))))
    refine r_cond rfl (fun hc2 => ?_) (fun hc2 => ?_)
    · replace hF := bifT hc2 hF
      refine r_seq (r_region (r_p tabOk rfl rfl (r_nil ?_)))
      obtain rfl := someI hF
      exact r_retV tabOk (ρ := Bool) [_] h ⟨rfl, trivial⟩ (vs_bool _ _)
    · replace hF := bifF hc2 hF
      refine r_skip (r_seq (r_seq (r_region (r_p tabOk rfl rfl (r_v (v_ld tabOk (h.box 1 rfl) (j := 2) rfl rfl rfl) rfl (r_p tabOk rfl rfl (r_v (v_ld tabOk (h.box 0 rfl) (j := 2) rfl rfl rfl) rfl (r_p tabOk rfl rfl (r_nil ?_)))))))))
      refine r_cond rfl (fun hc3 => ?_) (fun hc3 => ?_)
      · replace hF := bifT hc3 hF
        refine r_seq (r_region (r_p tabOk rfl rfl (r_nil ?_)))
        obtain rfl := someI hF
        exact r_retV tabOk (ρ := Bool) [_] h ⟨rfl, trivial⟩ (vs_bool _ _)
      · replace hF := bifF hc3 hF
        refine r_skip (r_seq (r_region (r_p tabOk rfl rfl (r_nil ?_))))
        obtain rfl := someI hF
        exact r_retV tabOk (ρ := Bool) [_] h ⟨rfl, trivial⟩ (vs_bool _ _)

def laws_eqCouplingS_L1 (a : (List TCoupling)) (b : (List TCoupling)) : Nat → Int → Option (Flow Bool Int)
  | 0, _ => none
  | n + 1, i1 =>
    bif decide (i1 < (a.length : Int)) then
      (idx a i1).bind fun y1 =>
      (idx b i1).bind fun y2 =>
      (laws_eqCoupling n y1 y2).bind fun r1 =>
      bif (!r1) then
        some (.ret false)
      else
        laws_eqCouplingS_L1 a b n (W64 (i1 + 1))
    else
      some (.nxt i1)

def laws_eqCouplingS (n : Nat) (a : (List TCoupling)) (b : (List TCoupling)) : Option Bool :=
  bif ((a.length : Int) != (b.length : Int)) then
    some false
  else
    (laws_eqCouplingS_L1 a b n 0).bind fun o => match o with
    | .ret r => some r
    | .nxt _ =>
      some true

theorem laws_eqCouplingS_ok {n : Nat} {w : World} {a : (List TCoupling)} {b : (List TCoupling)} {cs1 : List Value} (ha1 : GoT.R w (old w) a cs1) {cs2 : List Value} (ha2 : GoT.R w (old w) b cs2) {r : Bool} (hF : laws_eqCouplingS n a b = some r) : RetV Tryz.prog 17 [GoT.v (List TCoupling) cs1, GoT.v (List TCoupling) cs2] w r := by
  obtain ⟨p1, k1, rfl, s1⟩ := ha1
  obtain ⟨p2, k2, rfl, s2⟩ := ha2
  refine retV_of_run Tryz.func17 rfl (m := 27) rfl rfl (fun h => ?_)
  rw [laws_eqCouplingS] at hF
  refine r_seq (r_region (r_p tabOk rfl rfl (r_nil (r_seq (r_seq (r_region (r_p tabOk rfl rfl (r_p tabOk rfl rfl (r_p tabOk rfl rfl ?_)))))))))
  refine r_p tabOk rfl rfl (r_p tabOk rfl rfl (r_nil ?_))
  refine r_cond rfl (fun hc1 => ?_) (fun hc1 => ?_)
  · replace hF := bifT hc1 hF
    refine r_seq (r_region (r_p tabOk rfl rfl (r_nil ?_)))
    obtain rfl := someI hF
    exact r_retV tabOk (ρ := Bool) [_] h ⟨rfl, trivial⟩ (vs_bool _ _)
  · replace hF := bifF hc1 hF
    refine r_skip (r_seq (r_seq (r_region (r_p tabOk rfl rfl (r_nil ?_)))))
    obtain ⟨o1, hF, hK1⟩ := bindS hF
    refine r_block ?_
    refine r_sub [(0, _), (1, _), (5, _)] ⟨rfl, rfl, rfl, trivial⟩ ?_
    refine r_loop (fun m e w' => ∃ (i1 : Int), laws_eqCouplingS_L1 a b m i1 = some o1 ∧ e = [(0, .slice p1 a.length k1), (1, .slice p2 b.length k2), (5, .int .i64 i1)] ∧ SH w w' []) n ⟨_, hF, rfl, h⟩ ?_
    rintro m1 e1 w1 ⟨i1, hF, rfl, h⟩
    rcases m1 with _ | m1
    · rw [laws_eqCouplingS_L1] at hF
      cases hF
    rw [laws_eqCouplingS_L1] at hF
    refine r_seq (r_seq (r_region (r_p tabOk rfl rfl (r_p tabOk rfl rfl (r_p tabOk rfl rfl (r_p tabOk rfl rfl (r_nil ?_)))))))
    refine r_cond rfl (fun hc2 => ?_) (fun hc2 => ?_)
    · replace hF := bifT hc2 hF
      refine r_skip (r_seq (r_block (r_seq ?_)))
      refine r_draw rfl (by kernel_rfl) ?_
      refine d_p tabOk rfl rfl (d_p tabOk rfl rfl ?_)
      obtain ⟨y1, hy1, hF⟩ := bindS hF
      have he1 := idx_some hy1
      obtain ⟨b1, o_1, q1, cs3, hp1, hq1, -, hr1, hc3⟩ := s1.at hy1
      obtain rfl := open_TCoupling hr1
      refine d_v (fun _ hb => v_ix tabOk hp1 hq1 ⟨he1.1, he1.2.1⟩ rfl rfl rfl rfl rfl rfl) rfl ?_
      refine d_v (fun _ hb => v_ld tabOk ((hc3.below h.below).below hb) (j := 0) rfl rfl rfl) rfl ?_
      refine d_p tabOk rfl rfl (d_p tabOk rfl rfl ?_)
      obtain ⟨y2, hy2, hF⟩ := bindS hF
      have he2 := idx_some hy2
      obtain ⟨b2, o_2, q2, cs4, hp2, hq2, -, hr2, hc4⟩ := s2.at hy2
      obtain rfl := open_TCoupling hr2
      refine d_v (fun _ hb => v_ix tabOk hp2 hq2 ⟨he2.1, he2.2.1⟩ rfl rfl rfl rfl rfl rfl) rfl ?_
      refine d_v (fun _ hb => v_ld tabOk ((hc4.below h.below).below hb) (j := 0) rfl rfl rfl) rfl ?_
      obtain ⟨r1, hr3, hF⟩ := bindS hF
      refine d_call r1 (vsB _) call49 (fun _ hb => laws_eqCoupling_ok (mkR_TCoupling y1) (mkR_TCoupling y2) hr3) rfl rfl rfl rfl ?_
      refine d_p tabOk rfl rfl ?_
      refine d_nil (fun w2 hb => ?_)
      replace h := h.ext hb
      clear hb
      refine r_cond rfl (fun hc5 => ?_) (fun hc5 => ?_)
      · replace hF := bifT hc5 hF
        refine r_seq (r_region (r_p tabOk rfl rfl (r_nil ?_)))
        obtain rfl := someI hF; replace hF := hK1
        obtain rfl := someI hF
        exact r_retV tabOk (ρ := Bool) [_] h ⟨rfl, trivial⟩ (vs_bool _ _)
      · replace hF := bifF hc5 hF
        refine r_skip ?_
        refine r_blk ?_
        refine r_region (r_p tabOk rfl rfl (r_p tabOk rfl rfl (r_p tabOk rfl rfl (r_nil ?_))))
        exact r_back m1 [(0, _), (1, _), (5, _)] (Nat.lt_succ_self m1) ⟨rfl, rfl, rfl, trivial⟩ ⟨_, hF, rfl, h⟩
    · replace hF := bifF hc2 hF
      refine r_exit rfl ?_
      obtain rfl := someI hF; replace hF := hK1
      refine r_seq (r_region (r_p tabOk rfl rfl (r_nil ?_)))
      obtain rfl := someI hF
      exact r_retV tabOk (ρ := Bool) [_] h ⟨rfl, trivial⟩ (vs_bool _ _)

def laws_FnExactIsCouplings (n : Nat) (aB : TBlock) (aList : (List TCoupling)) : Option Bool :=
  (laws_szBlock n aB 1048576).bind fun r1 =>
  bif decide (r1 < 0) then
    some true
  else
    (laws_szCouplingS n aList r1).bind fun r2 =>
    bif decide (r2 < 0) then
      some true
    else
      (laws_toBlock n aB).bind fun r3 =>
      (laws_toCouplingS n aList).bind fun r4 =>
      (spec_IsCouplings n r3 r4).bind fun r5 =>
      (laws_toBlock n aB).bind fun r6 =>
      (laws_toCouplingS n aList).bind fun r7 =>
      (impl_IsCouplings n r6 r7).bind fun r8 =>
      bif (!(r8 == r5)) then
        some false
      else
        (laws_toBlock n aB).bind fun r9 =>
        (laws_eqBlock n r6 r9).bind fun r10 =>
        bif (!r10) then
          some false
        else
          (laws_toCouplingS n aList).bind fun r11 =>
          (laws_eqCouplingS n r7 r11).bind fun r12 =>
          bif (!r12) then
            some false
          else
            some true

theorem laws_FnExactIsCouplings_ok {n : Nat} {w : World} {aB : TBlock} {aList : (List TCoupling)} {cs1 : List Value} (ha1 : GoT.R w (old w) aB cs1) {cs2 : List Value} (ha2 : GoT.R w (old w) aList cs2) {r : Bool} (hF : laws_FnExactIsCouplings n aB aList = some r) : RetV Tryz.prog 4 [GoT.v TBlock cs1, GoT.v (List TCoupling) cs2] w r := by
  obtain ⟨p1, k1, p2, k2, p3, k3, p4, k4, p5, k5, rfl, s1, s2, s3, s4, s5⟩ := open_TBlock ha1
  obtain ⟨p6, k6, rfl, s6⟩ := ha2
  refine retV_of_run Tryz.func4 rfl (m := 45) rfl rfl (fun h => ?_)
  rw [laws_FnExactIsCouplings] at hF
  refine r_seq (r_region ?_)
  refine r_box h rfl rfl ?_
  intro w1 bb1 h
  refine r_p tabOk rfl rfl (r_nil (r_seq (r_region (r_p tabOk rfl rfl (r_nil (r_seq (r_region (r_v (v_ld tabOk (h.box 0 rfl) (j := 0) rfl rfl rfl) rfl (r_p tabOk rfl rfl ?_)))))))))
  obtain ⟨r1, hr1, hF⟩ := bindS hF
  refine r_callI r1 h call8 (laws_szBlock_ok (h.old ha1) hr1) rfl rfl rfl rfl ?_
  intro w2 h
  refine r_p tabOk rfl rfl (r_nil (r_seq (r_seq (r_region (r_p tabOk rfl rfl (r_p tabOk rfl rfl (r_nil ?_)))))))
  refine r_cond rfl (fun hc1 => ?_) (fun hc1 => ?_)
  · replace hF := bifT hc1 hF
    refine r_seq (r_region (r_p tabOk rfl rfl (r_nil ?_)))
    obtain rfl := someI hF
    exact r_retV tabOk (ρ := Bool) [_] h ⟨rfl, trivial⟩ (vs_bool _ _)
  · replace hF := bifF hc1 hF
    refine r_skip (r_seq (r_region (r_p tabOk rfl rfl (r_p tabOk rfl rfl ?_))))
    obtain ⟨r2, hr2, hF⟩ := bindS hF
    refine r_callI r2 h call13 (laws_szCouplingS_ok ⟨_, _, rfl, (h.oldS s6)⟩ hr2) rfl rfl rfl rfl ?_
    intro w3 h
    refine r_p tabOk rfl rfl (r_nil (r_seq (r_seq (r_region (r_p tabOk rfl rfl (r_p tabOk rfl rfl (r_nil ?_)))))))
    refine r_cond rfl (fun hc2 => ?_) (fun hc2 => ?_)
    · replace hF := bifT hc2 hF
      refine r_seq (r_region (r_p tabOk rfl rfl (r_nil ?_)))
      obtain rfl := someI hF
      exact r_retV tabOk (ρ := Bool) [_] h ⟨rfl, trivial⟩ (vs_bool _ _)
    · replace hF := bifF hc2 hF
      refine r_skip (r_seq (r_region (r_v (v_ld tabOk (h.box 0 rfl) (j := 0) rfl rfl rfl) rfl ?_)))
      obtain ⟨r3, hr3, hF⟩ := bindS hF
      refine r_callO r3 h call10 (laws_toBlock_ok (h.old ha1) hr3) rfl rfl rfl rfl ?_
      intro w4 S1 cs3 h
      obtain ⟨p7, k7, p8, k8, p9, k9, p10, k10, p11, k11, rfl, -, -, -, -, -⟩ := open_TBlock (h.own 0 rfl)
      refine r_p tabOk rfl rfl ?_
      obtain ⟨r4, hr4, hF⟩ := bindS hF
      refine r_callL r4 h call15 (laws_toCouplingS_ok ⟨_, _, rfl, (h.oldS s6)⟩ hr4) rfl rfl rfl rfl ?_
      intro w5 S2 p12 k12 h
      obtain ⟨r5, hr5, hF⟩ := bindS hF
      refine r_callB r5 h call14 (spec_IsCouplings_ok (h.own 1 rfl) (h.own 0 rfl) hr5) rfl rfl rfl rfl ?_
      intro w6 h
      refine r_p tabOk rfl rfl (r_nil (r_seq (r_region (r_v (v_ld tabOk (h.box 2 rfl) (j := 0) rfl rfl rfl) rfl ?_))))
      obtain ⟨r6, hr6, hF⟩ := bindS hF
      refine r_callO r6 h call10 (laws_toBlock_ok (h.old ha1) hr6) rfl rfl rfl rfl ?_
      intro w7 S3 cs4 h
      obtain ⟨p13, k13, p14, k14, p15, k15, p16, k16, p17, k17, rfl, -, -, -, -, -⟩ := open_TBlock (h.own 0 rfl)
      refine r_alloc tabOk h rfl rfl rfl ?_
      intro w8 bb2 h
      refine r_stbox tabOk 0 h rfl rfl rfl rfl rfl rfl rfl ?_
      intro w9 h
      refine r_nil (r_seq (r_region (r_p tabOk rfl rfl ?_)))
      obtain ⟨r7, hr7, hF⟩ := bindS hF
      refine r_callL r7 h call15 (laws_toCouplingS_ok ⟨_, _, rfl, (h.oldS s6)⟩ hr7) rfl rfl rfl rfl ?_
      intro w10 S4 p18 k18 h
      refine r_p tabOk rfl rfl (r_nil (r_seq (r_region (r_v (v_ld tabOk (h.box 1 rfl) (j := 0) rfl rfl rfl) rfl (r_p tabOk rfl rfl ?_)))))
      obtain ⟨r8, hr8, hF⟩ := bindS hF
      refine r_callB r8 h call16 (impl_IsCouplings_ok (h.own 2 rfl) (h.own 0 rfl) hr8) rfl rfl rfl rfl ?_
      intro w11 h
      refine r_p tabOk rfl rfl (r_nil (r_seq (r_seq (r_region (r_p tabOk rfl rfl (r_p tabOk rfl rfl (r_p tabOk rfl rfl (r_nil ?_))))))))
      refine r_cond rfl (fun hc3 => ?_) (fun hc3 => ?_)
      · replace hF := bifT hc3 hF
        refine r_seq (r_region (r_p tabOk rfl rfl (r_nil ?_)))
        obtain rfl := someI hF
        exact r_retV tabOk (ρ := Bool) [_] h ⟨rfl, trivial⟩ (vs_bool _ _)
      · replace hF := bifF hc3 hF
        refine r_skip (r_seq (r_seq ?_))
        refine r_any [] (fun w' => SH w w' [Ch.box bb2 [.slice p13 r6.Library.Cells.length k13, .slice p14 r6.Design.Instances.length k14, .slice p15 r6.Design.Nets.length k15, .slice p16 r6.Design.Ports.length k16, .slice p17 r6.Wires.length k17] 44, Ch.box bb1 [.slice p1 aB.Library.Cells.length k1, .slice p2 aB.Design.Instances.length k2, .slice p3 aB.Design.Nets.length k3, .slice p4 aB.Design.Ports.length k4, .slice p5 aB.Wires.length k5] 32]) rfl 5 rfl #[false, false, false, false, false] (by kernel_rfl) (fun w12 hb => ?_)
        replace h := h.ext hb
        clear hb
        refine a_take 0 rfl #[true, false, false, false, false] (by kernel_rfl) (by kernel_rfl) (fun w' hw => v_ld tabOk (hw.box 0 rfl) (j := 0) rfl rfl rfl) (h.pick [1, 5] rfl) rfl ?_
        refine a_take 1 rfl #[true, true, false, false, false] (by kernel_rfl) (by kernel_rfl) (fun w' hw => v_ld tabOk (hw.box 1 rfl) (j := 0) rfl rfl rfl) (h.pick [1, 5] rfl) rfl ?_
        refine a_only 2 rfl #[true, true, true, false, false] (by kernel_rfl) (by kernel_rfl) ?_
        obtain ⟨r9, hr9, hF⟩ := bindS hF
        refine r_callO r9 h call10 (laws_toBlock_ok (h.old ha1) hr9) rfl rfl rfl rfl ?_
        intro w13 S5 cs5 h
        obtain ⟨p19, k19, p20, k20, p21, k21, p22, k22, p23, k23, rfl, -, -, -, -, -⟩ := open_TBlock (h.own 0 rfl)
        refine a_goal (fun _ => (h.pick [2, 6] rfl)) ?_
        refine a_only 3 rfl #[true, true, true, true, false] (by kernel_rfl) (by kernel_rfl) ?_
        obtain ⟨r10, hr10, hF⟩ := bindS hF
        refine r_callB r10 h call12 (laws_eqBlock_ok (h.own 3 rfl) (h.own 0 rfl) hr10) rfl rfl rfl rfl ?_
        intro w14 h
        refine a_goal (fun _ => (h.pick [2, 6] rfl)) ?_
        refine a_take 4 rfl #[true, true, true, true, true] (by kernel_rfl) (by kernel_rfl) (fun w' hw => v_p tabOk rfl w') (h.pick [2, 6] rfl) rfl ?_
        refine a_done (by kernel_rfl) ?_
        refine r_cond rfl (fun hc4 => ?_) (fun hc4 => ?_)
        · replace hF := bifT hc4 hF
          refine r_seq (r_region (r_p tabOk rfl rfl (r_nil ?_)))
          obtain rfl := someI hF
          exact r_retV tabOk (ρ := Bool) [_] h ⟨rfl, trivial⟩ (vs_bool _ _)
        · replace hF := bifF hc4 hF
          refine r_skip (r_seq (r_seq (r_region (r_p tabOk rfl rfl (r_p tabOk rfl rfl ?_)))))
          obtain ⟨r11, hr11, hF⟩ := bindS hF
          refine r_callL r11 h call15 (laws_toCouplingS_ok ⟨_, _, rfl, (h.oldS s6)⟩ hr11) rfl rfl rfl rfl ?_
          intro w15 S6 p24 k24 h
          obtain ⟨r12, hr12, hF⟩ := bindS hF
          refine r_callB r12 h call17 (laws_eqCouplingS_ok (h.own 2 rfl) (h.own 0 rfl) hr12) rfl rfl rfl rfl ?_
          intro w16 h
          refine r_p tabOk rfl rfl (r_nil ?_)
          refine r_cond rfl (fun hc5 => ?_) (fun hc5 => ?_)
          · replace hF := bifT hc5 hF
            refine r_seq (r_region (r_p tabOk rfl rfl (r_nil ?_)))
            obtain rfl := someI hF
            exact r_retV tabOk (ρ := Bool) [_] h ⟨rfl, trivial⟩ (vs_bool _ _)
          · replace hF := bifF hc5 hF
            refine r_skip (r_seq (r_region (r_p tabOk rfl rfl (r_nil ?_))))
            obtain rfl := someI hF
            exact r_retV tabOk (ρ := Bool) [_] h ⟨rfl, trivial⟩ (vs_bool _ _)

end Go.Fw
