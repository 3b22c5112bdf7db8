/- By a program of mine (gen.py): for each function a plain function and the proof that the code computes it. -/
import Derived.Test.YthcphhbmdpepkaaGreatDoorA2

namespace Go.Fw
open Go Go.Proofs
open Go.RowKit (Below)
set_option maxRecDepth 100000
def spec_IsCell_L2 (a_0 : TCell) (i1 : Int) (y1 : TArc) : Nat → Int → Option (Flow Bool Int)
  | 0, _ => none
  | n + 1, i2 =>
    bif decide (i2 < i1) then
      (idx a_0.Arcs i2).bind fun y2 =>
      bif (y2.Kind == y1.Kind) then
        (idx a_0.Arcs i2).bind fun y3 =>
        bif (y3.From == y1.From) then
          (idx a_0.Arcs i2).bind fun y4 =>
          bif (y4.To == y1.To) then
            some (.ret false)
          else
            spec_IsCell_L2 a_0 i1 y1 n (W64 (i2 + 1))
        else
          spec_IsCell_L2 a_0 i1 y1 n (W64 (i2 + 1))
      else
        spec_IsCell_L2 a_0 i1 y1 n (W64 (i2 + 1))
    else
      some (.nxt i2)

def spec_IsCell_L3 (a_0 : TCell) : Nat → Int → Option (Flow Bool Int)
  | 0, _ => none
  | n + 1, i3 =>
    bif decide (i3 < (a_0.Truth.length : Int)) then
      (idx a_0.Truth i3).bind fun y5 =>
      (spec_l01In n y5 0 1).bind fun r6 =>
      bif (!r6) then
        some (.ret false)
      else
        spec_IsCell_L3 a_0 n (W64 (i3 + 1))
    else
      some (.nxt i3)

def spec_IsCell_L1 (a_0 : TCell) : Nat → Int → Option (Flow Bool Int)
  | 0, _ => none
  | n + 1, i1 =>
    bif decide (i1 < (a_0.Arcs.length : Int)) then
      (idx a_0.Arcs i1).bind fun y1 =>
      (spec_l03Arc n a_0 y1).bind fun r4 =>
      bif (!r4) then
        some (.ret false)
      else
        (spec_IsCell_L2 a_0 i1 y1 n 0).bind fun o => match o with
        | .ret r => some (.ret r)
        | .nxt _ =>
          spec_IsCell_L1 a_0 n (W64 (i1 + 1))
    else
      some (.nxt i1)

def spec_IsCell (n : Nat) (a_0 : TCell) : Option Bool :=
  (spec_l03Pins n a_0).bind fun o => match o with
    | (r2, r3) =>
      (
        bif (!r3) then
          some true
        else
          (spec_l03Name n a_0.Name).bind fun r7 =>
          bif (!r7) then
            some true
          else
            bif decide ((a_0.Arcs.length : Int) > 8) then
              some true
            else
              (spec_l01In n a_0.Leak 0 100000).bind fun r8 =>
              bif (!r8) then
                some true
              else
                (spec_l01In n a_0.Energy 0 100000).bind fun r9 =>
                some (!r9)).bind fun b1 =>
      bif b1 then
        some false
      else
        (spec_IsCell_L1 a_0 n 0).bind fun o => match o with
        | .ret r => some r
        | .nxt _ =>
          (spec_l03Kinds n a_0).bind fun r5 =>
          bif (a_0.Kind == 1) then
            (spec_IsCell_L3 a_0 n 0).bind fun o => match o with
            | .ret r => some r
            | .nxt _ =>
              bif (r2 == 0) then
                (shlS 1 (IntKind.wrap .u64 (W64 ((a_0.Pins.length : Int) - 1)))).bind fun y6 =>
                some ((a_0.Truth.length : Int) == y6)
              else
                some false
          else
            bif (a_0.Kind == 2) then
              bif (r2 == 1) then
                (idx r5 1).bind fun y7 =>
                bif (y7 == 0) then
                  (idx r5 2).bind fun y8 =>
                  (idx r5 3).bind fun y9 =>
                  bif (!((decide (y8 > 0)) == (decide (y9 > 0)))) then
                    some ((a_0.Truth.length : Int) == 0)
                  else
                    some false
                else
                  some false
              else
                some false
            else
              bif (a_0.Kind == 3) then
                bif (r2 == 1) then
                  (idx r5 1).bind fun y10 =>
                  bif decide (y10 > 0) then
                    (idx r5 2).bind fun y11 =>
                    bif decide (y11 > 0) then
                      (idx r5 3).bind fun y12 =>
                      bif (y12 == 0) then
                        some ((a_0.Truth.length : Int) == 0)
                      else
                        some false
                    else
                      some false
                  else
                    some false
                else
                  some false
              else
                some false

theorem spec_IsCell_ok {n : Nat} {w : World} {a_0 : TCell} {cs1 : List Value} (ha1 : GoT.R w (old w) a_0 cs1) {r : Bool} (hF : spec_IsCell n a_0 = some r) : RetV Tryz.prog 149 [GoT.v TCell cs1] w r := by
  obtain ⟨p1, k1, p2, k2, p3, k3, rfl, s1, s2, s3⟩ := open_TCell ha1
  refine retV_of_run Tryz.func149 rfl (m := 182) rfl rfl (fun h => ?_)
  rw [spec_IsCell] at hF
  refine r_seq (r_region (r_box h rfl rfl ?_))
  intro w1 bb1 h
  refine rp rfl rfl (r_nil (r_seq (r_region (r_v (v_ld tabOk (h.box 0 rfl) (j := 0) rfl rfl rfl) rfl ?_))))
  obtain ⟨r1, hr1, hF⟩ := bindS hF
  obtain ⟨r2, r3⟩ := r1
  refine r_call (r2, r3) h call165 (spec_l03Pins_ok (h.old ha1) hr1) rfl rfl rfl rfl ?_
  intro w2 S1 us1 hv1 hr2
  obtain ⟨S2, us2, rfl, hv2, hr3⟩ := hv1.consI hr2
  obtain ⟨rfl, h⟩ := hv2.lastB hr3
  refine rp rfl rfl (rp rfl rfl (rp rfl rfl (rp rfl rfl (rp rfl rfl (r_nil (r_seq (r_seq ?_)))))))
  obtain ⟨KF1, hKF1, o4, hF, hK4⟩ := bindE hF
  refine r_cut (fun e w' => ∃ (b1 : Bool), KF1 b1 = some r ∧ e = [(1, .pointer (some ⟨bb1, 0, none⟩)), (3, .int .i64 r2), (40, .bool b1)] ∧ SH w w' [Ch.box bb1 [.string a_0.Name, .int .i64 a_0.Kind, .slice p1 a_0.Pins.length k1, .slice p2 a_0.Arcs.length k2, .slice p3 a_0.Truth.length k3, .int .i64 a_0.Leak, .int .i64 a_0.Energy] 155]) ?_ ?_
  · refine r_region (rp rfl rfl (rp rfl rfl (rp rfl rfl ?_)))
    by_cases hc32 : (!r3) = true
    · replace hF := bifT hc32 hF
      refine r_setT hc32 (t := 17) rfl (r_not rfl rfl rfl (r_not rfl rfl rfl (r_not rfl rfl rfl (r_not rfl rfl rfl (rp rfl rfl (rp rfl rfl (r_not rfl rfl rfl (r_not rfl rfl rfl (r_not rfl rfl rfl (r_not rfl rfl rfl (rp rfl rfl ?_)))))))))))
      refine rp rfl rfl (r_not rfl rfl rfl (r_not rfl rfl rfl (r_not rfl rfl rfl (r_not rfl rfl rfl (rp rfl rfl (rp rfl rfl (r_not rfl rfl rfl (r_not rfl rfl rfl (r_not rfl rfl rfl (r_not rfl rfl rfl (rp rfl rfl ?_)))))))))))
      refine r_nil ?_
      obtain rfl := someI hF
      exact r_cutgoal [(1, _), (3, _), (40, _)] ⟨rfl, rfl, rfl, trivial⟩ ⟨_, hK4, rfl, h⟩
    replace hc32 := Bool.eq_false_iff.2 hc32
    replace hF := bifF hc32 hF
    refine r_setF hc32 (t := 17) rfl (r_wanted rfl (rp rfl rfl (r_wanted rfl (r_v (v_ld tabOk (h.box 0 rfl) (j := 0) rfl rfl rfl) rfl (r_wanted rfl ?_)))))
    obtain ⟨r7, hr19, hF⟩ := bindS hF
    refine r_callB r7 h call150 (spec_l03Name_ok hr19) rfl rfl rfl rfl ?_
    intro w18 h
    refine r_wanted rfl (rp rfl rfl (rp rfl rfl (rp rfl rfl ?_)))
    by_cases hc33 : (!r7) = true
    · replace hF := bifT hc33 hF
      refine r_setT hc33 (t := 23) rfl (r_not rfl rfl rfl (r_not rfl rfl rfl (r_not rfl rfl rfl (r_not rfl rfl rfl (rp rfl rfl (rp rfl rfl (r_not rfl rfl rfl (r_not rfl rfl rfl (r_not rfl rfl rfl (r_not rfl rfl rfl (rp rfl rfl ?_)))))))))))
      refine rp rfl rfl (r_not rfl rfl rfl (r_not rfl rfl rfl (r_not rfl rfl rfl (r_not rfl rfl rfl (rp rfl rfl (r_nil ?_))))))
      obtain rfl := someI hF
      exact r_cutgoal [(1, _), (3, _), (40, _)] ⟨rfl, rfl, rfl, trivial⟩ ⟨_, hK4, rfl, h⟩
    replace hc33 := Bool.eq_false_iff.2 hc33
    replace hF := bifF hc33 hF
    refine r_setF hc33 (t := 23) rfl (r_wanted rfl (rp rfl rfl (r_wanted rfl (r_v (v_ld tabOk (h.box 0 rfl) (j := 3) rfl rfl rfl) rfl (r_wanted rfl (rp rfl rfl (r_wanted rfl (rp rfl rfl (rp rfl rfl (rp rfl rfl ?_))))))))))
    by_cases hc34 : (decide ((a_0.Arcs.length : Int) > 8)) = true
    · replace hF := bifT hc34 hF
      refine r_setT hc34 (t := 29) rfl (r_not rfl rfl rfl (r_not rfl rfl rfl (r_not rfl rfl rfl (r_not rfl rfl rfl (rp rfl rfl (rp rfl rfl (r_not rfl rfl rfl (r_not rfl rfl rfl (r_not rfl rfl rfl (r_not rfl rfl rfl (rp rfl rfl ?_)))))))))))
      refine r_nil ?_
      obtain rfl := someI hF
      exact r_cutgoal [(1, _), (3, _), (40, _)] ⟨rfl, rfl, rfl, trivial⟩ ⟨_, hK4, rfl, h⟩
    replace hc34 := Bool.eq_false_iff.2 hc34
    replace hF := bifF hc34 hF
    refine r_setF hc34 (t := 29) rfl (r_wanted rfl (rp rfl rfl (r_wanted rfl (r_v (v_ld tabOk (h.box 0 rfl) (j := 5) rfl rfl rfl) rfl (r_wanted rfl ?_)))))
    obtain ⟨r8, hr20, hF⟩ := bindS hF
    refine r_callB r8 h call35 (spec_l01In_ok hr20) rfl rfl rfl rfl ?_
    intro w19 h
    refine r_wanted rfl (rp rfl rfl (rp rfl rfl (rp rfl rfl ?_)))
    by_cases hc35 : (!r8) = true
    · replace hF := bifT hc35 hF
      refine r_setT hc35 (t := 35) rfl (r_not rfl rfl rfl (r_not rfl rfl rfl (r_not rfl rfl rfl (r_not rfl rfl rfl (rp rfl rfl (r_nil ?_))))))
      obtain rfl := someI hF
      exact r_cutgoal [(1, _), (3, _), (40, _)] ⟨rfl, rfl, rfl, trivial⟩ ⟨_, hK4, rfl, h⟩
    replace hc35 := Bool.eq_false_iff.2 hc35
    replace hF := bifF hc35 hF
    refine r_setF hc35 (t := 35) rfl (r_wanted rfl (rp rfl rfl (r_wanted rfl (r_v (v_ld tabOk (h.box 0 rfl) (j := 6) rfl rfl rfl) rfl (r_wanted rfl ?_)))))
    obtain ⟨r9, hr21, hF⟩ := bindS hF
    refine r_callB r9 h call35 (spec_l01In_ok hr21) rfl rfl rfl rfl ?_
    intro w20 h
    refine r_wanted rfl (rp rfl rfl (rp rfl rfl (r_nil ?_)))
    obtain rfl := someI hF
    exact r_cutgoal [(1, _), (3, _), (40, _)] ⟨rfl, rfl, rfl, trivial⟩ ⟨_, hK4, rfl, h⟩
  rintro e4 w21 ⟨b1, hF, rfl, h⟩
  subst hKF1
  refine r_if rfl hF (fun hF => ?_) (fun hF => ?_)
  · exact r_seq (r_region (rp rfl rfl (r_nil (r_rB tabOk h hF ⟨rfl, trivial⟩))))
  refine r_skip (r_seq (r_seq (r_region (rp rfl rfl (r_nil ?_)))))
  obtain ⟨o1, hF, hK1⟩ := bindS hF
  refine r_block (r_sub [(1, _), (3, _), (5, _)] ⟨rfl, rfl, rfl, trivial⟩ ?_)
  refine r_loop (fun m e w' => ∃ (i1 : Int), spec_IsCell_L1 a_0 m i1 = some o1 ∧ e = [(1, .pointer (some ⟨bb1, 0, none⟩)), (3, .int .i64 r2), (5, .int .i64 i1)] ∧ SH w w' [Ch.box bb1 [.string a_0.Name, .int .i64 a_0.Kind, .slice p1 a_0.Pins.length k1, .slice p2 a_0.Arcs.length k2, .slice p3 a_0.Truth.length k3, .int .i64 a_0.Leak, .int .i64 a_0.Energy] 155]) n ⟨_, hF, rfl, h⟩ ?_
  rintro m1 e1 w3 ⟨i1, hF, rfl, h⟩
  rcases m1 with _ | m1
  · rw [spec_IsCell_L1] at hF
    cases hF
  rw [spec_IsCell_L1] at hF
  refine r_seq (r_seq (r_region (rp rfl rfl (rp rfl rfl (r_v (v_ld tabOk (h.box 0 rfl) (j := 3) rfl rfl rfl) rfl (rp rfl rfl (rp rfl rfl (r_nil ?_))))))))
  refine r_if rfl hF (fun hF => ?_) (fun hF => ?_)
  · refine r_skip (r_seq (r_block (r_seq (r_region (rp rfl rfl (r_v (v_ld tabOk (h.box 0 rfl) (j := 3) rfl rfl rfl) rfl (rp rfl rfl ?_)))))))
    obtain ⟨y1, hy1, hF⟩ := bindS hF
    have he1 := idx_some hy1
    obtain ⟨b2, o_1, q1, cs2, hp1, hq1, -, hr5, hc3⟩ := s2.at hy1
    obtain ⟨p4, k4, p5, k5, rfl, s4, s5⟩ := open_TArc hr5
    refine r_v (v_ix tabOk hp1 hq1 ⟨he1.1, he1.2.1⟩ rfl rfl rfl rfl rfl rfl) rfl (r_v (v_ld tabOk (hc3.below h.below) (j := 0) rfl rfl rfl) rfl (r_alloc tabOk h rfl rfl rfl ?_))
    intro w4 bb2 h
    refine r_stbox tabOk 0 h rfl rfl rfl rfl rfl rfl rfl ?_
    intro w5 h
    refine r_nil (r_seq (r_seq (r_region (r_v (v_ld tabOk (h.box 1 rfl) (j := 0) rfl rfl rfl) rfl (r_v (v_ld tabOk (h.box 0 rfl) (j := 0) rfl rfl rfl) rfl ?_)))))
    obtain ⟨r4, hr6, hF⟩ := bindS hF
    refine r_callB r4 h call166 (spec_l03Arc_ok (h.old ha1) (mkR_TArc y1 (h.oldS s4) (h.oldS s5)) hr6) rfl rfl rfl rfl ?_
    intro w6 h
    refine rp rfl rfl (r_nil ?_)
    refine r_if rfl hF (fun hF => ?_) (fun hF => ?_)
    · refine r_seq (r_region (rp rfl rfl (r_nil ?_)))
      obtain rfl := someI hF; replace hF := hK1
      exact r_rB tabOk h hF ⟨rfl, trivial⟩
    refine r_skip (r_seq (r_region (rp rfl rfl (r_nil ?_))))
    obtain ⟨o2, hF, hK2⟩ := bindS hF
    refine r_block (r_sub [(1, _), (3, _), (5, _), (6, _), (7, _)] ⟨rfl, rfl, rfl, rfl, rfl, trivial⟩ ?_)
    refine r_loop (fun m e w' => ∃ (i2 : Int), spec_IsCell_L2 a_0 i1 y1 m i2 = some o2 ∧ e = [(1, .pointer (some ⟨bb1, 0, none⟩)), (3, .int .i64 r2), (5, .int .i64 i1), (6, .pointer (some ⟨bb2, 0, none⟩)), (7, .int .i64 i2)] ∧ SH w w' [Ch.box bb2 [.int .i64 y1.Kind, .int .i64 y1.From, .int .i64 y1.To, .int .i64 y1.Sense, .slice p4 y1.Delay.length k4, .slice p5 y1.Slew.length k5] 159, Ch.box bb1 [.string a_0.Name, .int .i64 a_0.Kind, .slice p1 a_0.Pins.length k1, .slice p2 a_0.Arcs.length k2, .slice p3 a_0.Truth.length k3, .int .i64 a_0.Leak, .int .i64 a_0.Energy] 155]) m1 ⟨_, hF, rfl, h⟩ ?_
    rintro m2 e2 w7 ⟨i2, hF, rfl, h⟩
    rcases m2 with _ | m2
    · rw [spec_IsCell_L2] at hF
      cases hF
    rw [spec_IsCell_L2] at hF
    refine r_seq (r_seq (r_region (rp rfl rfl (rp rfl rfl (rp rfl rfl (r_nil ?_))))))
    refine r_if rfl hF (fun hF => ?_) (fun hF => ?_)
    · refine r_skip (r_seq (r_block (r_seq ?_)))
      refine r_draw rfl (by kernel_rfl) ?_
      refine dp rfl rfl ?_
      refine d_v (fun _ hb => v_ld tabOk ((h.box 1 rfl).below hb) (j := 3) rfl rfl rfl) rfl ?_
      refine dp rfl rfl ?_
      obtain ⟨y2, hy2, hF⟩ := bindS hF
      have he2 := idx_some hy2
      obtain ⟨b3, o_2, q2, cs3, hp2, hq2, -, hr7, hc6⟩ := s2.at hy2
      obtain ⟨p6, k6, p7, k7, rfl, s6, s7⟩ := open_TArc hr7
      refine d_v (fun _ hb => v_ix tabOk hp2 hq2 ⟨he2.1, he2.2.1⟩ rfl rfl rfl rfl rfl rfl) rfl ?_
      refine dp rfl rfl ?_
      refine d_v (fun _ hb => v_ld tabOk ((hc6.below h.below).below hb) (j := 0) rfl rfl rfl) rfl ?_
      refine dp rfl rfl ?_
      refine d_v (fun _ hb => v_ld tabOk ((h.box 0 rfl).below hb) (j := 0) rfl rfl rfl) rfl ?_
      refine dp rfl rfl (dp rfl rfl ?_)
      by_cases hc7 : (y2.Kind == y1.Kind) = true
      · replace hF := bifT hc7 hF
        refine d_setT hc7 (t := 71) rfl (d_wanted rfl (dp rfl rfl (d_wanted rfl ?_)))
        refine d_v (fun _ hb => v_ld tabOk ((h.box 1 rfl).below hb) (j := 3) rfl rfl rfl) rfl ?_
        refine d_wanted rfl (dp rfl rfl (d_wanted rfl ?_))
        obtain ⟨y3, hy3, hF⟩ := bindS hF
        have he3 := idx_some hy3
        obtain ⟨b4, o_3, q3, cs4, hp3, hq3, -, hr8, hc8⟩ := s2.at hy3
        obtain ⟨p8, k8, p9, k9, rfl, s8, s9⟩ := open_TArc hr8
        refine d_v (fun _ hb => v_ix tabOk hp3 hq3 ⟨he3.1, he3.2.1⟩ rfl rfl rfl rfl rfl rfl) rfl ?_
        refine d_wanted rfl (dp rfl rfl (d_wanted rfl ?_))
        refine d_v (fun _ hb => v_ld tabOk ((hc8.below h.below).below hb) (j := 1) rfl rfl rfl) rfl ?_
        refine d_wanted rfl (dp rfl rfl (d_wanted rfl ?_))
        refine d_v (fun _ hb => v_ld tabOk ((h.box 0 rfl).below hb) (j := 1) rfl rfl rfl) rfl ?_
        refine d_wanted rfl (dp rfl rfl (dp rfl rfl (dp rfl rfl ?_)))
        by_cases hc9 : (y3.From == y1.From) = true
        · replace hF := bifT hc9 hF
          refine d_setT hc9 (t := 82) rfl (d_wanted rfl (dp rfl rfl (d_wanted rfl ?_)))
          refine d_v (fun _ hb => v_ld tabOk ((h.box 1 rfl).below hb) (j := 3) rfl rfl rfl) rfl ?_
          refine d_wanted rfl (dp rfl rfl (d_wanted rfl ?_))
          obtain ⟨y4, hy4, hF⟩ := bindS hF
          have he4 := idx_some hy4
          obtain ⟨b5, o_4, q4, cs5, hp4, hq4, -, hr9, hc10⟩ := s2.at hy4
          obtain ⟨p10, k10, p11, k11, rfl, s10, s11⟩ := open_TArc hr9
          refine d_v (fun _ hb => v_ix tabOk hp4 hq4 ⟨he4.1, he4.2.1⟩ rfl rfl rfl rfl rfl rfl) rfl ?_
          refine d_wanted rfl (dp rfl rfl (d_wanted rfl ?_))
          refine d_v (fun _ hb => v_ld tabOk ((hc10.below h.below).below hb) (j := 2) rfl rfl rfl) rfl ?_
          refine d_wanted rfl (dp rfl rfl (d_wanted rfl ?_))
          refine d_v (fun _ hb => v_ld tabOk ((h.box 0 rfl).below hb) (j := 2) rfl rfl rfl) rfl ?_
          refine d_wanted rfl (dp rfl rfl (dp rfl rfl ?_))
          refine d_nil (fun w8 hb => ?_)
          replace h := h.ext hb
          clear hb
          refine r_if rfl hF (fun hF => ?_) (fun hF => ?_)
          · refine r_seq (r_region (rp rfl rfl (r_nil ?_)))
            obtain rfl := someI hF; replace hF := hK2
            obtain rfl := someI hF; replace hF := hK1
            exact r_rB tabOk h hF ⟨rfl, trivial⟩
          exact r_skip (r_blk (r_region (rp rfl rfl (rp rfl rfl (rp rfl rfl (r_nil (r_back m2 [(1, _), (3, _), (5, _), (6, _), (7, _)] (Nat.lt_succ_self m2) ⟨rfl, rfl, rfl, rfl, rfl, trivial⟩ ⟨_, hF, rfl, h⟩)))))))
        replace hc9 := Bool.eq_false_iff.2 hc9
        replace hF := bifF hc9 hF
        refine d_setF hc9 (t := 82) rfl (d_not rfl rfl rfl (d_not rfl rfl rfl (d_not rfl rfl rfl (d_not rfl rfl rfl (d_not rfl rfl rfl (d_not rfl rfl rfl (d_not rfl rfl rfl (d_not rfl rfl rfl (d_not rfl rfl rfl (dp rfl rfl ?_))))))))))
        refine d_nil (fun w9 hb => ?_)
        replace h := h.ext hb
        clear hb
        exact r_condF rfl rfl (r_skip (r_blk (r_region (rp rfl rfl (rp rfl rfl (rp rfl rfl (r_nil (r_back m2 [(1, _), (3, _), (5, _), (6, _), (7, _)] (Nat.lt_succ_self m2) ⟨rfl, rfl, rfl, rfl, rfl, trivial⟩ ⟨_, hF, rfl, h⟩))))))))
      replace hc7 := Bool.eq_false_iff.2 hc7
      replace hF := bifF hc7 hF
      refine d_setF hc7 (t := 71) rfl (d_not rfl rfl rfl (d_not rfl rfl rfl (d_not rfl rfl rfl (d_not rfl rfl rfl (d_not rfl rfl rfl (d_not rfl rfl rfl (d_not rfl rfl rfl (d_not rfl rfl rfl (d_not rfl rfl rfl (dp rfl rfl (dp rfl rfl ?_)))))))))))
      refine d_not rfl rfl rfl (d_not rfl rfl rfl (d_not rfl rfl rfl (d_not rfl rfl rfl (d_not rfl rfl rfl (d_not rfl rfl rfl (d_not rfl rfl rfl (d_not rfl rfl rfl (d_not rfl rfl rfl (dp rfl rfl ?_)))))))))
      refine d_nil (fun w10 hb => ?_)
      replace h := h.ext hb
      clear hb
      exact r_condF rfl rfl (r_skip (r_blk (r_region (rp rfl rfl (rp rfl rfl (rp rfl rfl (r_nil (r_back m2 [(1, _), (3, _), (5, _), (6, _), (7, _)] (Nat.lt_succ_self m2) ⟨rfl, rfl, rfl, rfl, rfl, trivial⟩ ⟨_, hF, rfl, h⟩))))))))
    refine r_exit rfl ?_
    obtain rfl := someI hF; replace hF := hK2
    refine r_blk (r_region (rp rfl rfl (rp rfl rfl (rp rfl rfl (r_nil ?_)))))
    replace h := h.pick [1] rfl
    exact r_back m1 [(1, _), (3, _), (5, _)] (Nat.lt_succ_self m1) ⟨rfl, rfl, rfl, trivial⟩ ⟨_, hF, rfl, h⟩
  refine r_exit rfl ?_
  obtain rfl := someI hF; replace hF := hK1
  refine r_seq (r_region (r_v (v_ld tabOk (h.box 0 rfl) (j := 0) rfl rfl rfl) rfl ?_))
  obtain ⟨r5, hr10, hF⟩ := bindS hF
  refine r_callL r5 h call167 (spec_l03Kinds_ok (h.old ha1) hr10) rfl rfl rfl rfl ?_
  intro w11 S4 p12 k12 h
  refine rp rfl rfl (r_nil (r_seq (r_seq (r_region (rp rfl rfl (r_v (v_ld tabOk (h.box 1 rfl) (j := 1) rfl rfl rfl) rfl (r_nil (r_block (r_seq (r_region (rp rfl rfl ?_)))))))))))
  refine rp rfl rfl (r_nil ?_)
  refine r_if rfl hF (fun hF => ?_) (fun hF => ?_)
  · refine r_seq (r_seq (r_region (rp rfl rfl (r_nil ?_))))
    obtain ⟨o3, hF, hK3⟩ := bindS hF
    refine r_block ?_
    replace h := h.pick [1] rfl
    refine r_sub [(1, _), (3, _), (9, _)] ⟨rfl, rfl, rfl, trivial⟩ ?_
    refine r_loop (fun m e w' => ∃ (i3 : Int), spec_IsCell_L3 a_0 m i3 = some o3 ∧ e = [(1, .pointer (some ⟨bb1, 0, none⟩)), (3, .int .i64 r2), (9, .int .i64 i3)] ∧ SH w w' [Ch.box bb1 [.string a_0.Name, .int .i64 a_0.Kind, .slice p1 a_0.Pins.length k1, .slice p2 a_0.Arcs.length k2, .slice p3 a_0.Truth.length k3, .int .i64 a_0.Leak, .int .i64 a_0.Energy] 155]) n ⟨_, hF, rfl, h⟩ ?_
    rintro m3 e3 w12 ⟨i3, hF, rfl, h⟩
    rcases m3 with _ | m3
    · rw [spec_IsCell_L3] at hF
      cases hF
    rw [spec_IsCell_L3] at hF
    refine r_seq (r_seq (r_region (rp rfl rfl (rp rfl rfl (r_v (v_ld tabOk (h.box 0 rfl) (j := 4) rfl rfl rfl) rfl (rp rfl rfl (rp rfl rfl (r_nil ?_))))))))
    refine r_if rfl hF (fun hF => ?_) (fun hF => ?_)
    · refine r_skip (r_seq (r_block (r_seq (r_region (rp rfl rfl (r_v (v_ld tabOk (h.box 0 rfl) (j := 4) rfl rfl rfl) rfl (rp rfl rfl ?_)))))))
      obtain ⟨y5, hy5, hF⟩ := bindS hF
      have he5 := idx_some hy5
      obtain ⟨b6, o_5, q5, cs6, hp5, hq5, -, hr11, hc14⟩ := s3.at hy5
      obtain rfl := hr11
      refine r_v (v_ix tabOk hp5 hq5 ⟨he5.1, he5.2.1⟩ rfl rfl rfl rfl rfl rfl) rfl (r_v (v_ld tabOk (hc14.below h.below) (j := 0) rfl rfl rfl) rfl ?_)
      obtain ⟨r6, hr12, hF⟩ := bindS hF
      refine r_callB r6 h call35 (spec_l01In_ok hr12) rfl rfl rfl rfl ?_
      intro w13 h
      refine rp rfl rfl (r_nil ?_)
      refine r_if rfl hF (fun hF => ?_) (fun hF => ?_)
      · refine r_seq (r_region (rp rfl rfl (r_nil ?_)))
        obtain rfl := someI hF; replace hF := hK3
        exact r_rB tabOk h hF ⟨rfl, trivial⟩
      exact r_skip (r_blk (r_region (rp rfl rfl (rp rfl rfl (rp rfl rfl (r_nil (r_back m3 [(1, _), (3, _), (9, _)] (Nat.lt_succ_self m3) ⟨rfl, rfl, rfl, trivial⟩ ⟨_, hF, rfl, h⟩)))))))
    refine r_exit rfl ?_
    obtain rfl := someI hF; replace hF := hK3
    refine r_seq (r_region (rp rfl rfl (rp rfl rfl (rp rfl rfl ?_))))
    by_cases hc16 : (r2 == 0) = true
    · replace hF := bifT hc16 hF
      refine r_setT hc16 (t := 115) rfl (r_wanted rfl (rp rfl rfl (r_wanted rfl (r_v (v_ld tabOk (h.box 0 rfl) (j := 4) rfl rfl rfl) rfl (r_wanted rfl (rp rfl rfl (r_wanted rfl (rp rfl rfl (r_wanted rfl (r_v (v_ld tabOk (h.box 0 rfl) (j := 2) rfl rfl rfl) rfl (r_wanted rfl ?_)))))))))))
      refine rp rfl rfl (r_wanted rfl (rp rfl rfl (r_wanted rfl (rp rfl rfl (r_wanted rfl ?_)))))
      obtain ⟨y6, hx1, hF⟩ := bindS hF
      obtain ⟨g1, hx1⟩ := shlS_some hx1
      refine r_v (v_shl g1 rfl rfl) rfl ?_
      rw [hx1]
      exact r_wanted rfl (rp rfl rfl (rp rfl rfl (rp rfl rfl (r_nil (r_rB tabOk h hF ⟨rfl, trivial⟩)))))
    replace hc16 := Bool.eq_false_iff.2 hc16
    replace hF := bifF hc16 hF
    refine r_setF hc16 (t := 115) rfl (r_not rfl rfl rfl (r_not rfl rfl rfl (r_not rfl rfl rfl (r_not rfl rfl rfl (r_not rfl rfl rfl (r_not rfl rfl rfl (r_not rfl rfl rfl (r_not rfl rfl rfl (r_not rfl rfl rfl (r_not rfl rfl rfl (rp rfl rfl ?_)))))))))))
    exact rp rfl rfl (r_nil (r_rB tabOk h hF ⟨rfl, trivial⟩))
  refine r_seq (r_region (rp rfl rfl (rp rfl rfl (r_nil ?_))))
  refine r_if rfl hF (fun hF => ?_) (fun hF => ?_)
  · refine r_seq ?_
    refine r_draw rfl (by kernel_rfl) ?_
    refine dp rfl rfl (dp rfl rfl (dp rfl rfl ?_))
    by_cases hc18 : (r2 == 1) = true
    · replace hF := bifT hc18 hF
      refine d_setT hc18 (t := 131) rfl (d_wanted rfl (dp rfl rfl (d_wanted rfl ?_)))
      obtain ⟨y7, hy6, hF⟩ := bindS hF
      have he6 := idx_some hy6
      obtain ⟨b7, o_6, q6, cs7, hp6, hq6, -, hr13, hc19⟩ := (h.sl 0 rfl).1.at hy6
      obtain rfl := hr13
      refine d_v (fun _ hb => v_ix tabOk hp6 hq6 ⟨he6.1, lt_ln he6.2.1 (h.sl 0 rfl).2⟩ rfl rfl rfl rfl rfl rfl) rfl ?_
      refine d_wanted rfl ?_
      refine d_v (fun _ hb => v_ld tabOk (hc19.below hb) (j := 0) rfl rfl rfl) rfl ?_
      refine d_wanted rfl (dp rfl rfl (dp rfl rfl (dp rfl rfl ?_)))
      by_cases hc20 : (y7 == 0) = true
      · replace hF := bifT hc20 hF
        refine d_setT hc20 (t := 137) rfl (d_wanted rfl (dp rfl rfl (d_wanted rfl ?_)))
        obtain ⟨y8, hy7, hF⟩ := bindS hF
        have he7 := idx_some hy7
        obtain ⟨b8, o_7, q7, cs8, hp7, hq7, -, hr14, hc21⟩ := (h.sl 0 rfl).1.at hy7
        obtain rfl := hr14
        refine d_v (fun _ hb => v_ix tabOk hp7 hq7 ⟨he7.1, lt_ln he7.2.1 (h.sl 0 rfl).2⟩ rfl rfl rfl rfl rfl rfl) rfl ?_
        refine d_wanted rfl ?_
        refine d_v (fun _ hb => v_ld tabOk (hc21.below hb) (j := 0) rfl rfl rfl) rfl ?_
        refine d_wanted rfl (dp rfl rfl (d_wanted rfl (dp rfl rfl (d_wanted rfl ?_))))
        obtain ⟨y9, hy8, hF⟩ := bindS hF
        have he8 := idx_some hy8
        obtain ⟨b9, o_8, q8, cs9, hp8, hq8, -, hr15, hc22⟩ := (h.sl 0 rfl).1.at hy8
        obtain rfl := hr15
        refine d_v (fun _ hb => v_ix tabOk hp8 hq8 ⟨he8.1, lt_ln he8.2.1 (h.sl 0 rfl).2⟩ rfl rfl rfl rfl rfl rfl) rfl ?_
        refine d_wanted rfl ?_
        refine d_v (fun _ hb => v_ld tabOk (hc22.below hb) (j := 0) rfl rfl rfl) rfl ?_
        refine d_wanted rfl (dp rfl rfl (d_wanted rfl (dp rfl rfl (dp rfl rfl (dp rfl rfl ?_)))))
        by_cases hc23 : (!((decide (y8 > 0)) == (decide (y9 > 0)))) = true
        · replace hF := bifT hc23 hF
          refine d_setT hc23 (t := 148) rfl (d_wanted rfl (dp rfl rfl (d_wanted rfl ?_)))
          refine d_v (fun _ hb => v_ld tabOk ((h.box 1 rfl).below hb) (j := 4) rfl rfl rfl) rfl ?_
          refine d_wanted rfl (dp rfl rfl (d_wanted rfl (dp rfl rfl (dp rfl rfl (dp rfl rfl ?_)))))
          refine d_nil (fun w14 hb => ?_)
          replace h := h.ext hb
          clear hb
          exact r_rB tabOk h hF ⟨rfl, trivial⟩
        replace hc23 := Bool.eq_false_iff.2 hc23
        replace hF := bifF hc23 hF
        refine d_setF hc23 (t := 148) rfl (d_not rfl rfl rfl (d_not rfl rfl rfl (d_not rfl rfl rfl (d_not rfl rfl rfl (dp rfl rfl (dp rfl rfl ?_))))))
        refine d_nil (fun w15 hb => ?_)
        replace h := h.ext hb
        clear hb
        exact r_rB tabOk h hF ⟨rfl, trivial⟩
      replace hc20 := Bool.eq_false_iff.2 hc20
      replace hF := bifF hc20 hF
      refine d_setF hc20 (t := 137) rfl (d_not rfl rfl rfl (d_not rfl rfl rfl (d_not rfl rfl rfl (d_not rfl rfl rfl (d_not rfl rfl rfl (d_not rfl rfl rfl (d_not rfl rfl rfl (d_not rfl rfl rfl (d_not rfl rfl rfl (dp rfl rfl (dp rfl rfl ?_)))))))))))
      refine d_not rfl rfl rfl (d_not rfl rfl rfl (d_not rfl rfl rfl (d_not rfl rfl rfl (dp rfl rfl (dp rfl rfl ?_)))))
      refine d_nil (fun w16 hb => ?_)
      replace h := h.ext hb
      clear hb
      exact r_rB tabOk h hF ⟨rfl, trivial⟩
    replace hc18 := Bool.eq_false_iff.2 hc18
    replace hF := bifF hc18 hF
    refine d_setF hc18 (t := 131) rfl (d_not rfl rfl rfl (d_not rfl rfl rfl (d_not rfl rfl rfl (d_not rfl rfl rfl (dp rfl rfl (dp rfl rfl (d_not rfl rfl rfl (d_not rfl rfl rfl (d_not rfl rfl rfl (d_not rfl rfl rfl (d_not rfl rfl rfl ?_)))))))))))
    refine d_not rfl rfl rfl (d_not rfl rfl rfl (d_not rfl rfl rfl (d_not rfl rfl rfl (dp rfl rfl (dp rfl rfl (d_not rfl rfl rfl (d_not rfl rfl rfl (d_not rfl rfl rfl (d_not rfl rfl rfl (dp rfl rfl (dp rfl rfl ?_)))))))))))
    refine d_nil (fun w17 hb => ?_)
    replace h := h.ext hb
    clear hb
    exact r_rB tabOk h hF ⟨rfl, trivial⟩
  refine r_seq (r_region (rp rfl rfl (rp rfl rfl (r_nil ?_))))
  refine r_if rfl hF (fun hF => ?_) (fun hF => ?_)
  · refine r_seq (r_region (rp rfl rfl (rp rfl rfl (rp rfl rfl ?_))))
    by_cases hc25 : (r2 == 1) = true
    · replace hF := bifT hc25 hF
      refine r_setT hc25 (t := 158) rfl (r_wanted rfl (rp rfl rfl (r_wanted rfl ?_)))
      obtain ⟨y10, hy9, hF⟩ := bindS hF
      have he9 := idx_some hy9
      obtain ⟨b10, o_9, q9, cs10, hp9, hq9, -, hr16, hc26⟩ := (h.sl 0 rfl).1.at hy9
      obtain rfl := hr16
      refine r_v (v_ix tabOk hp9 hq9 ⟨he9.1, lt_ln he9.2.1 (h.sl 0 rfl).2⟩ rfl rfl rfl rfl rfl rfl) rfl (r_wanted rfl (r_v (v_ld tabOk hc26 (j := 0) rfl rfl rfl) rfl (r_wanted rfl (rp rfl rfl (rp rfl rfl (rp rfl rfl ?_))))))
      by_cases hc27 : (decide (y10 > 0)) = true
      · replace hF := bifT hc27 hF
        refine r_setT hc27 (t := 164) rfl (r_wanted rfl (rp rfl rfl (r_wanted rfl ?_)))
        obtain ⟨y11, hy10, hF⟩ := bindS hF
        have he10 := idx_some hy10
        obtain ⟨b11, o_10, q10, cs11, hp10, hq10, -, hr17, hc28⟩ := (h.sl 0 rfl).1.at hy10
        obtain rfl := hr17
        refine r_v (v_ix tabOk hp10 hq10 ⟨he10.1, lt_ln he10.2.1 (h.sl 0 rfl).2⟩ rfl rfl rfl rfl rfl rfl) rfl (r_wanted rfl (r_v (v_ld tabOk hc28 (j := 0) rfl rfl rfl) rfl (r_wanted rfl (rp rfl rfl (rp rfl rfl (rp rfl rfl ?_))))))
        by_cases hc29 : (decide (y11 > 0)) = true
        · replace hF := bifT hc29 hF
          refine r_setT hc29 (t := 170) rfl (r_wanted rfl (rp rfl rfl (r_wanted rfl ?_)))
          obtain ⟨y12, hy11, hF⟩ := bindS hF
          have he11 := idx_some hy11
          obtain ⟨b12, o_11, q11, cs12, hp11, hq11, -, hr18, hc30⟩ := (h.sl 0 rfl).1.at hy11
          obtain rfl := hr18
          refine r_v (v_ix tabOk hp11 hq11 ⟨he11.1, lt_ln he11.2.1 (h.sl 0 rfl).2⟩ rfl rfl rfl rfl rfl rfl) rfl (r_wanted rfl (r_v (v_ld tabOk hc30 (j := 0) rfl rfl rfl) rfl (r_wanted rfl (rp rfl rfl (rp rfl rfl (rp rfl rfl ?_))))))
          by_cases hc31 : (y12 == 0) = true
          · replace hF := bifT hc31 hF
            refine r_setT hc31 (t := 176) rfl (r_wanted rfl (rp rfl rfl (r_wanted rfl (r_v (v_ld tabOk (h.box 1 rfl) (j := 4) rfl rfl rfl) rfl (r_wanted rfl (rp rfl rfl (r_wanted rfl (rp rfl rfl (rp rfl rfl (rp rfl rfl (r_nil ?_)))))))))))
            exact r_rB tabOk h hF ⟨rfl, trivial⟩
          replace hc31 := Bool.eq_false_iff.2 hc31
          replace hF := bifF hc31 hF
          exact r_setF hc31 (t := 176) rfl (r_not rfl rfl rfl (r_not rfl rfl rfl (r_not rfl rfl rfl (r_not rfl rfl rfl (rp rfl rfl (rp rfl rfl (r_nil (r_rB tabOk h hF ⟨rfl, trivial⟩))))))))
        replace hc29 := Bool.eq_false_iff.2 hc29
        replace hF := bifF hc29 hF
        refine r_setF hc29 (t := 170) rfl (r_not rfl rfl rfl (r_not rfl rfl rfl (r_not rfl rfl rfl (r_not rfl rfl rfl (rp rfl rfl (rp rfl rfl (r_not rfl rfl rfl (r_not rfl rfl rfl (r_not rfl rfl rfl (r_not rfl rfl rfl (rp rfl rfl ?_)))))))))))
        exact rp rfl rfl (r_nil (r_rB tabOk h hF ⟨rfl, trivial⟩))
      replace hc27 := Bool.eq_false_iff.2 hc27
      replace hF := bifF hc27 hF
      refine r_setF hc27 (t := 164) rfl (r_not rfl rfl rfl (r_not rfl rfl rfl (r_not rfl rfl rfl (r_not rfl rfl rfl (rp rfl rfl (rp rfl rfl (r_not rfl rfl rfl (r_not rfl rfl rfl (r_not rfl rfl rfl (r_not rfl rfl rfl (rp rfl rfl ?_)))))))))))
      exact rp rfl rfl (r_not rfl rfl rfl (r_not rfl rfl rfl (r_not rfl rfl rfl (r_not rfl rfl rfl (rp rfl rfl (rp rfl rfl (r_nil (r_rB tabOk h hF ⟨rfl, trivial⟩))))))))
    replace hc25 := Bool.eq_false_iff.2 hc25
    replace hF := bifF hc25 hF
    refine r_setF hc25 (t := 158) rfl (r_not rfl rfl rfl (r_not rfl rfl rfl (r_not rfl rfl rfl (r_not rfl rfl rfl (rp rfl rfl (rp rfl rfl (r_not rfl rfl rfl (r_not rfl rfl rfl (r_not rfl rfl rfl (r_not rfl rfl rfl (rp rfl rfl ?_)))))))))))
    refine rp rfl rfl (r_not rfl rfl rfl (r_not rfl rfl rfl (r_not rfl rfl rfl (r_not rfl rfl rfl (rp rfl rfl (rp rfl rfl (r_not rfl rfl rfl (r_not rfl rfl rfl (r_not rfl rfl rfl (r_not rfl rfl rfl (rp rfl rfl ?_)))))))))))
    exact rp rfl rfl (r_nil (r_rB tabOk h hF ⟨rfl, trivial⟩))
  exact r_skip (r_blk (r_seq (r_region (rp rfl rfl (r_nil (r_rB tabOk h hF ⟨rfl, trivial⟩))))))

def spec_IsLibrary_L2 (l : TLibrary) (i1 : Int) : Nat → Int → Option (Flow Bool Int)
  | 0, _ => none
  | n + 1, i2 =>
    bif decide (i2 < i1) then
      (idx l.Cells i2).bind fun y2 =>
      (idx l.Cells i1).bind fun y3 =>
      bif (y2.Name.toList == y3.Name.toList) then
        some (.ret false)
      else
        spec_IsLibrary_L2 l i1 n (W64 (i2 + 1))
    else
      some (.nxt i2)

def spec_IsLibrary_L1 (l : TLibrary) : Nat → Int → Option (Flow Bool Int)
  | 0, _ => none
  | n + 1, i1 =>
    bif decide (i1 < (l.Cells.length : Int)) then
      (idx l.Cells i1).bind fun y1 =>
      (spec_IsCell n y1).bind fun r1 =>
      bif (!r1) then
        some (.ret false)
      else
        (spec_IsLibrary_L2 l i1 n 0).bind fun o => match o with
        | .ret r => some (.ret r)
        | .nxt _ =>
          spec_IsLibrary_L1 l n (W64 (i1 + 1))
    else
      some (.nxt i1)

def spec_IsLibrary (n : Nat) (l : TLibrary) : Option Bool :=
  (spec_IsLibrary_L1 l n 0).bind fun o => match o with
  | .ret r => some r
  | .nxt _ =>
    some (decide ((l.Cells.length : Int) ≤ 8))

theorem spec_IsLibrary_ok {n : Nat} {w : World} {l : TLibrary} {cs1 : List Value} (ha1 : GoT.R w (old w) l cs1) {r : Bool} (hF : spec_IsLibrary n l = some r) : RetV Tryz.prog 118 [GoT.v TLibrary cs1] w r := by
  obtain ⟨p1, k1, rfl, s1⟩ := open_TLibrary ha1
  refine retV_of_run Tryz.func118 rfl (m := 41) rfl rfl (fun h => ?_)
  rw [spec_IsLibrary] at hF
  refine r_seq (r_region (r_box h rfl rfl ?_))
  intro w1 bb1 h
  refine rp rfl rfl (r_nil (r_seq (r_seq (r_region (rp rfl rfl (r_nil ?_))))))
  obtain ⟨o1, hF, hK1⟩ := bindS hF
  refine r_block (r_sub [(1, _), (3, _)] ⟨rfl, rfl, trivial⟩ ?_)
  refine r_loop (fun m e w' => ∃ (i1 : Int), spec_IsLibrary_L1 l m i1 = some o1 ∧ e = [(1, .pointer (some ⟨bb1, 0, none⟩)), (3, .int .i64 i1)] ∧ SH w w' [Ch.box bb1 [.slice p1 l.Cells.length k1] 41]) n ⟨_, hF, rfl, h⟩ ?_
  rintro m1 e1 w2 ⟨i1, hF, rfl, h⟩
  rcases m1 with _ | m1
  · rw [spec_IsLibrary_L1] at hF
    cases hF
  rw [spec_IsLibrary_L1] at hF
  refine r_seq (r_seq (r_region (rp rfl rfl (rp rfl rfl (r_v (v_ld tabOk (h.box 0 rfl) (j := 0) rfl rfl rfl) rfl (rp rfl rfl (rp rfl rfl (r_nil ?_))))))))
  refine r_if rfl hF (fun hF => ?_) (fun hF => ?_)
  · refine r_skip (r_seq (r_block (r_seq (r_seq (r_region (rp rfl rfl (r_v (v_ld tabOk (h.box 0 rfl) (j := 0) rfl rfl rfl) rfl (rp rfl rfl ?_))))))))
    obtain ⟨y1, hy1, hF⟩ := bindS hF
    have he1 := idx_some hy1
    obtain ⟨b1, o_1, q1, cs2, hp1, hq1, -, hr1, hc2⟩ := s1.at hy1
    obtain ⟨p2, k2, p3, k3, p4, k4, rfl, s2, s3, s4⟩ := open_TCell hr1
    refine r_v (v_ix tabOk hp1 hq1 ⟨he1.1, he1.2.1⟩ rfl rfl rfl rfl rfl rfl) rfl (r_v (v_ld tabOk (hc2.below h.below) (j := 0) rfl rfl rfl) rfl ?_)
    obtain ⟨r1, hr2, hF⟩ := bindS hF
    refine r_callB r1 h call149 (spec_IsCell_ok (mkR_TCell y1 (h.oldS s2) (h.oldS s3) (h.oldS s4)) hr2) rfl rfl rfl rfl ?_
    intro w3 h
    refine rp rfl rfl (r_nil ?_)
    refine r_if rfl hF (fun hF => ?_) (fun hF => ?_)
    · refine r_seq (r_region (rp rfl rfl (r_nil ?_)))
      obtain rfl := someI hF; replace hF := hK1
      exact r_rB tabOk h hF ⟨rfl, trivial⟩
    refine r_skip (r_seq (r_region (rp rfl rfl (r_nil ?_))))
    obtain ⟨o2, hF, hK2⟩ := bindS hF
    refine r_block (r_sub [(1, _), (3, _), (4, _)] ⟨rfl, rfl, rfl, trivial⟩ ?_)
    refine r_loop (fun m e w' => ∃ (i2 : Int), spec_IsLibrary_L2 l i1 m i2 = some o2 ∧ e = [(1, .pointer (some ⟨bb1, 0, none⟩)), (3, .int .i64 i1), (4, .int .i64 i2)] ∧ SH w w' [Ch.box bb1 [.slice p1 l.Cells.length k1] 41]) m1 ⟨_, hF, rfl, h⟩ ?_
    rintro m2 e2 w4 ⟨i2, hF, rfl, h⟩
    rcases m2 with _ | m2
    · rw [spec_IsLibrary_L2] at hF
      cases hF
    rw [spec_IsLibrary_L2] at hF
    refine r_seq (r_seq (r_region (rp rfl rfl (rp rfl rfl (rp rfl rfl (r_nil ?_))))))
    refine r_if rfl hF (fun hF => ?_) (fun hF => ?_)
    · refine r_skip (r_seq (r_block (r_seq ?_)))
      refine r_draw rfl (by kernel_rfl) ?_
      refine dp rfl rfl ?_
      refine d_v (fun _ hb => v_ld tabOk ((h.box 0 rfl).below hb) (j := 0) rfl rfl rfl) rfl ?_
      refine dp rfl rfl ?_
      obtain ⟨y2, hy2, hF⟩ := bindS hF
      have he2 := idx_some hy2
      obtain ⟨b2, o_2, q2, cs3, hp2, hq2, -, hr3, hc5⟩ := s1.at hy2
      obtain ⟨p5, k5, p6, k6, p7, k7, rfl, s5, s6, s7⟩ := open_TCell hr3
      refine d_v (fun _ hb => v_ix tabOk hp2 hq2 ⟨he2.1, he2.2.1⟩ rfl rfl rfl rfl rfl rfl) rfl ?_
      refine dp rfl rfl ?_
      refine d_v (fun _ hb => v_ld tabOk ((hc5.below h.below).below hb) (j := 0) rfl rfl rfl) rfl ?_
      refine dp rfl rfl ?_
      refine d_v (fun _ hb => v_ld tabOk ((h.box 0 rfl).below hb) (j := 0) rfl rfl rfl) rfl ?_
      refine dp rfl rfl ?_
      obtain ⟨y3, hy3, hF⟩ := bindS hF
      have he3 := idx_some hy3
      obtain ⟨b3, o_3, q3, cs4, hp3, hq3, -, hr4, hc6⟩ := s1.at hy3
      obtain ⟨p8, k8, p9, k9, p10, k10, rfl, s8, s9, s10⟩ := open_TCell hr4
      refine d_v (fun _ hb => v_ix tabOk hp3 hq3 ⟨he3.1, he3.2.1⟩ rfl rfl rfl rfl rfl rfl) rfl ?_
      refine dp rfl rfl ?_
      refine d_v (fun _ hb => v_ld tabOk ((hc6.below h.below).below hb) (j := 0) rfl rfl rfl) rfl ?_
      refine dp rfl rfl ?_
      refine d_nil (fun w5 hb => ?_)
      replace h := h.ext hb
      clear hb
      refine r_if rfl hF (fun hF => ?_) (fun hF => ?_)
      · refine r_seq (r_region (rp rfl rfl (r_nil ?_)))
        obtain rfl := someI hF; replace hF := hK2
        obtain rfl := someI hF; replace hF := hK1
        exact r_rB tabOk h hF ⟨rfl, trivial⟩
      exact r_skip (r_blk (r_region (rp rfl rfl (rp rfl rfl (rp rfl rfl (r_nil (r_back m2 [(1, _), (3, _), (4, _)] (Nat.lt_succ_self m2) ⟨rfl, rfl, rfl, trivial⟩ ⟨_, hF, rfl, h⟩)))))))
    refine r_exit rfl ?_
    obtain rfl := someI hF; replace hF := hK2
    exact r_blk (r_region (rp rfl rfl (rp rfl rfl (rp rfl rfl (r_nil (r_back m1 [(1, _), (3, _)] (Nat.lt_succ_self m1) ⟨rfl, rfl, trivial⟩ ⟨_, hF, rfl, h⟩))))))
  refine r_exit rfl ?_
  obtain rfl := someI hF; replace hF := hK1
  exact r_seq (r_region (rp rfl rfl (r_v (v_ld tabOk (h.box 0 rfl) (j := 0) rfl rfl rfl) rfl (rp rfl rfl (rp rfl rfl (rp rfl rfl (r_nil (r_rB tabOk h hF ⟨rfl, trivial⟩))))))))

def spec_l05Parts_L2 (a_1 : TDesign) (y1 : TInstance) : Nat → Int → Option (Flow Bool Int)
  | 0, _ => none
  | n + 1, i2 =>
    bif decide (i2 < (y1.Nets.length : Int)) then
      (idx y1.Nets i2).bind fun y2 =>
      (spec_l01In n y2 0 (W64 ((a_1.Nets.length : Int) - 1))).bind fun r1 =>
      bif (!r1) then
        some (.ret false)
      else
        spec_l05Parts_L2 a_1 y1 n (W64 (i2 + 1))
    else
      some (.nxt i2)

def spec_l05Parts_L3 (a_1 : TDesign) : Nat → Int → Option (Flow Bool Int)
  | 0, _ => none
  | n + 1, i3 =>
    bif decide (i3 < (a_1.Ports.length : Int)) then
      (idx a_1.Ports i3).bind fun y4 =>
      (spec_l01In n y4.Dir 1 2).bind fun r3 =>
      bif (!r3) then
        some (.ret false)
      else
        (idx a_1.Ports i3).bind fun y5 =>
        (spec_l01In n y5.Net 0 (W64 ((a_1.Nets.length : Int) - 1))).bind fun r4 =>
        bif (!r4) then
          some (.ret false)
        else
          spec_l05Parts_L3 a_1 n (W64 (i3 + 1))
    else
      some (.nxt i3)

def spec_l05Parts_L1 (a_0 : TLibrary) (a_1 : TDesign) : Nat → Int → Option (Flow Bool Int)
  | 0, _ => none
  | n + 1, i1 =>
    bif decide (i1 < (a_1.Instances.length : Int)) then
      (idx a_1.Instances i1).bind fun y1 =>
      (
        (spec_l01In n y1.Cell 0 (W64 ((a_0.Cells.length : Int) - 1))).bind fun r2 =>
        bif (!r2) then
          some true
        else
          (idx a_0.Cells y1.Cell).bind fun y3 =>
          some ((y1.Nets.length : Int) != (y3.Pins.length : Int))).bind fun b2 =>
      bif b2 then
        some (.ret false)
      else
        (spec_l05Parts_L2 a_1 y1 n 0).bind fun o => match o with
        | .ret r => some (.ret r)
        | .nxt _ =>
          spec_l05Parts_L1 a_0 a_1 n (W64 (i1 + 1))
    else
      some (.nxt i1)

def spec_l05Parts (n : Nat) (a_0 : TLibrary) (a_1 : TDesign) : Option Bool :=
  (spec_l05Parts_L1 a_0 a_1 n 0).bind fun o => match o with
  | .ret r => some r
  | .nxt _ =>
    (spec_l05Parts_L3 a_1 n 0).bind fun o => match o with
    | .ret r => some r
    | .nxt _ =>
      some true

theorem spec_l05Parts_ok {n : Nat} {w : World} {a_0 : TLibrary} {a_1 : TDesign} {cs1 : List Value} (ha1 : GoT.R w (old w) a_0 cs1) {cs2 : List Value} (ha2 : GoT.R w (old w) a_1 cs2) {r : Bool} (hF : spec_l05Parts n a_0 a_1 = some r) : RetV Tryz.prog 119 [GoT.v TLibrary cs1, GoT.v TDesign cs2] w r := by
  obtain ⟨p1, k1, rfl, s1⟩ := open_TLibrary ha1
  obtain ⟨p2, k2, p3, k3, p4, k4, rfl, s2, s3, s4⟩ := open_TDesign ha2
  refine retV_of_run Tryz.func119 rfl (m := 90) rfl rfl (fun h => ?_)
  rw [spec_l05Parts] at hF
  refine r_seq (r_region (r_box h rfl rfl ?_))
  intro w1 bb1 h
  refine r_box h rfl rfl ?_
  intro w2 bb2 h
  refine rp rfl rfl (r_nil (r_seq (r_region (rp rfl rfl (r_v (v_ld tabOk (h.box 0 rfl) (j := 1) rfl rfl rfl) rfl (rp rfl rfl (rp rfl rfl (r_nil (r_seq (r_seq (r_region ?_)))))))))))
  refine rp rfl rfl (r_nil ?_)
  obtain ⟨o1, hF, hK1⟩ := bindS hF
  refine r_block (r_sub [(2, _), (3, _), (5, _), (6, _)] ⟨rfl, rfl, rfl, rfl, trivial⟩ ?_)
  refine r_loop (fun m e w' => ∃ (i1 : Int), spec_l05Parts_L1 a_0 a_1 m i1 = some o1 ∧ e = [(2, .pointer (some ⟨bb1, 0, none⟩)), (3, .pointer (some ⟨bb2, 0, none⟩)), (5, .int .i64 (a_1.Nets.length : Int)), (6, .int .i64 i1)] ∧ SH w w' [Ch.box bb2 [.slice p2 a_1.Instances.length k2, .slice p3 a_1.Nets.length k3, .slice p4 a_1.Ports.length k4] 45, Ch.box bb1 [.slice p1 a_0.Cells.length k1] 41]) n ⟨_, hF, rfl, h⟩ ?_
  rintro m1 e1 w3 ⟨i1, hF, rfl, h⟩
  rcases m1 with _ | m1
  · rw [spec_l05Parts_L1] at hF
    cases hF
  rw [spec_l05Parts_L1] at hF
  refine r_seq (r_seq (r_region (rp rfl rfl (rp rfl rfl (r_v (v_ld tabOk (h.box 0 rfl) (j := 0) rfl rfl rfl) rfl (rp rfl rfl (rp rfl rfl (r_nil ?_))))))))
  refine r_if rfl hF (fun hF => ?_) (fun hF => ?_)
  · refine r_skip (r_seq (r_block (r_seq (r_region (rp rfl rfl (r_v (v_ld tabOk (h.box 0 rfl) (j := 0) rfl rfl rfl) rfl (rp rfl rfl ?_)))))))
    obtain ⟨y1, hy1, hF⟩ := bindS hF
    have he1 := idx_some hy1
    obtain ⟨b1, o_1, q1, cs3, hp1, hq1, -, hr1, hc2⟩ := s2.at hy1
    obtain ⟨p5, k5, rfl, s5⟩ := open_TInstance hr1
    refine r_v (v_ix tabOk hp1 hq1 ⟨he1.1, he1.2.1⟩ rfl rfl rfl rfl rfl rfl) rfl (r_v (v_ld tabOk (hc2.below h.below) (j := 0) rfl rfl rfl) rfl (r_alloc tabOk h rfl rfl rfl ?_))
    intro w4 bb3 h
    refine r_stbox tabOk 0 h rfl rfl rfl rfl rfl rfl rfl ?_
    intro w5 h
    refine r_nil (r_seq (r_seq ?_))
    obtain ⟨KF1, hKF1, o3, hF, hK3⟩ := bindE hF
    refine r_cut (fun e w' => ∃ (b2 : Bool), KF1 b2 = some o1 ∧ e = [(2, .pointer (some ⟨bb1, 0, none⟩)), (3, .pointer (some ⟨bb2, 0, none⟩)), (5, .int .i64 (a_1.Nets.length : Int)), (6, .int .i64 i1), (7, .pointer (some ⟨bb3, 0, none⟩)), (46, .bool b2)] ∧ SH w w' [Ch.box bb3 [.string y1.Name, .int .i64 y1.Cell, .slice p5 y1.Nets.length k5] 126, Ch.box bb2 [.slice p2 a_1.Instances.length k2, .slice p3 a_1.Nets.length k3, .slice p4 a_1.Ports.length k4] 45, Ch.box bb1 [.slice p1 a_0.Cells.length k1] 41]) ?_ ?_
    · refine r_draw rfl (by kernel_rfl) ?_
      refine dp rfl rfl ?_
      refine d_v (fun _ hb => v_ld tabOk ((h.box 0 rfl).below hb) (j := 1) rfl rfl rfl) rfl ?_
      refine dp rfl rfl ?_
      refine d_v (fun _ hb => v_ld tabOk ((h.box 2 rfl).below hb) (j := 0) rfl rfl rfl) rfl ?_
      refine dp rfl rfl (dp rfl rfl ?_)
      obtain ⟨r2, hr4, hF⟩ := bindS hF
      refine d_call r2 (vsB _) call35 (fun _ hb => spec_l01In_ok  hr4) rfl rfl rfl rfl ?_
      refine dp rfl rfl (dp rfl rfl ?_)
      by_cases hc7 : (!r2) = true
      · replace hF := bifT hc7 hF
        refine d_setT hc7 (t := 33) rfl (d_not rfl rfl rfl (d_not rfl rfl rfl (d_not rfl rfl rfl (d_not rfl rfl rfl (d_not rfl rfl rfl (d_not rfl rfl rfl (d_not rfl rfl rfl (d_not rfl rfl rfl (d_not rfl rfl rfl (d_not rfl rfl rfl (d_not rfl rfl rfl ?_)))))))))))
        refine d_not rfl rfl rfl (dp rfl rfl ?_)
        refine d_nil (fun w8 hb => ?_)
        replace h := h.ext hb
        clear hb
        obtain rfl := someI hF
        exact r_cutgoal [(2, _), (3, _), (5, _), (6, _), (7, _), (46, _)] ⟨rfl, rfl, rfl, rfl, rfl, rfl, trivial⟩ ⟨_, hK3, rfl, h⟩
      replace hc7 := Bool.eq_false_iff.2 hc7
      replace hF := bifF hc7 hF
      refine d_setF hc7 (t := 33) rfl (d_wanted rfl (dp rfl rfl (d_wanted rfl ?_)))
      refine d_v (fun _ hb => v_ld tabOk ((h.box 0 rfl).below hb) (j := 2) rfl rfl rfl) rfl ?_
      refine d_wanted rfl (dp rfl rfl (d_wanted rfl (dp rfl rfl (d_wanted rfl ?_))))
      refine d_v (fun _ hb => v_ld tabOk ((h.box 2 rfl).below hb) (j := 0) rfl rfl rfl) rfl ?_
      refine d_wanted rfl (dp rfl rfl (d_wanted rfl ?_))
      refine d_v (fun _ hb => v_ld tabOk ((h.box 0 rfl).below hb) (j := 1) rfl rfl rfl) rfl ?_
      refine d_wanted rfl ?_
      obtain ⟨y3, hy3, hF⟩ := bindS hF
      have he3 := idx_some hy3
      obtain ⟨b4, o_3, q3, cs5, hp3, hq3, -, hr5, hc8⟩ := s1.at hy3
      obtain ⟨p6, k6, p7, k7, p8, k8, rfl, s6, s7, s8⟩ := open_TCell hr5
      refine d_v (fun _ hb => v_ix tabOk hp3 hq3 ⟨he3.1, he3.2.1⟩ rfl rfl rfl rfl rfl rfl) rfl ?_
      refine d_wanted rfl (dp rfl rfl (d_wanted rfl ?_))
      refine d_v (fun _ hb => v_ld tabOk ((hc8.below h.below).below hb) (j := 2) rfl rfl rfl) rfl ?_
      refine d_wanted rfl (dp rfl rfl (d_wanted rfl (dp rfl rfl (dp rfl rfl ?_))))
      refine d_nil (fun w9 hb => ?_)
      replace h := h.ext hb
      clear hb
      obtain rfl := someI hF
      exact r_cutgoal [(2, _), (3, _), (5, _), (6, _), (7, _), (46, _)] ⟨rfl, rfl, rfl, rfl, rfl, rfl, trivial⟩ ⟨_, hK3, rfl, h⟩
    rintro e3 w10 ⟨b2, hF, rfl, h⟩
    subst hKF1
    refine r_if rfl hF (fun hF => ?_) (fun hF => ?_)
    · refine r_seq (r_region (rp rfl rfl (r_nil ?_)))
      obtain rfl := someI hF; replace hF := hK1
      exact r_rB tabOk h hF ⟨rfl, trivial⟩
    refine r_skip (r_seq (r_region (rp rfl rfl (r_nil ?_))))
    obtain ⟨o2, hF, hK2⟩ := bindS hF
    refine r_block (r_sub [(2, _), (3, _), (5, _), (6, _), (7, _), (8, _)] ⟨rfl, rfl, rfl, rfl, rfl, rfl, trivial⟩ ?_)
    refine r_loop (fun m e w' => ∃ (i2 : Int), spec_l05Parts_L2 a_1 y1 m i2 = some o2 ∧ e = [(2, .pointer (some ⟨bb1, 0, none⟩)), (3, .pointer (some ⟨bb2, 0, none⟩)), (5, .int .i64 (a_1.Nets.length : Int)), (6, .int .i64 i1), (7, .pointer (some ⟨bb3, 0, none⟩)), (8, .int .i64 i2)] ∧ SH w w' [Ch.box bb3 [.string y1.Name, .int .i64 y1.Cell, .slice p5 y1.Nets.length k5] 126, Ch.box bb2 [.slice p2 a_1.Instances.length k2, .slice p3 a_1.Nets.length k3, .slice p4 a_1.Ports.length k4] 45, Ch.box bb1 [.slice p1 a_0.Cells.length k1] 41]) m1 ⟨_, hF, rfl, h⟩ ?_
    rintro m2 e2 w6 ⟨i2, hF, rfl, h⟩
    rcases m2 with _ | m2
    · rw [spec_l05Parts_L2] at hF
      cases hF
    rw [spec_l05Parts_L2] at hF
    refine r_seq (r_seq (r_region (rp rfl rfl (rp rfl rfl (r_v (v_ld tabOk (h.box 0 rfl) (j := 2) rfl rfl rfl) rfl (rp rfl rfl (rp rfl rfl (r_nil ?_))))))))
    refine r_if rfl hF (fun hF => ?_) (fun hF => ?_)
    · refine r_skip (r_seq (r_block (r_seq (r_region (rp rfl rfl (r_v (v_ld tabOk (h.box 0 rfl) (j := 2) rfl rfl rfl) rfl (rp rfl rfl ?_)))))))
      obtain ⟨y2, hy2, hF⟩ := bindS hF
      have he2 := idx_some hy2
      obtain ⟨b3, o_2, q2, cs4, hp2, hq2, -, hr2, hc5⟩ := s5.at hy2
      obtain rfl := hr2
      refine r_v (v_ix tabOk hp2 hq2 ⟨he2.1, he2.2.1⟩ rfl rfl rfl rfl rfl rfl) rfl (r_v (v_ld tabOk (hc5.below h.below) (j := 0) rfl rfl rfl) rfl (rp rfl rfl (rp rfl rfl ?_)))
      obtain ⟨r1, hr3, hF⟩ := bindS hF
      refine r_callB r1 h call35 (spec_l01In_ok hr3) rfl rfl rfl rfl ?_
      intro w7 h
      refine rp rfl rfl (r_nil ?_)
      refine r_if rfl hF (fun hF => ?_) (fun hF => ?_)
      · refine r_seq (r_region (rp rfl rfl (r_nil ?_)))
        obtain rfl := someI hF; replace hF := hK2
        obtain rfl := someI hF; replace hF := hK1
        exact r_rB tabOk h hF ⟨rfl, trivial⟩
      exact r_skip (r_blk (r_region (rp rfl rfl (rp rfl rfl (rp rfl rfl (r_nil (r_back m2 [(2, _), (3, _), (5, _), (6, _), (7, _), (8, _)] (Nat.lt_succ_self m2) ⟨rfl, rfl, rfl, rfl, rfl, rfl, trivial⟩ ⟨_, hF, rfl, h⟩)))))))
    refine r_exit rfl ?_
    obtain rfl := someI hF; replace hF := hK2
    refine r_blk (r_region (rp rfl rfl (rp rfl rfl (rp rfl rfl (r_nil ?_)))))
    replace h := h.pick [1, 2] rfl
    exact r_back m1 [(2, _), (3, _), (5, _), (6, _)] (Nat.lt_succ_self m1) ⟨rfl, rfl, rfl, rfl, trivial⟩ ⟨_, hF, rfl, h⟩
  refine r_exit rfl ?_
  obtain rfl := someI hF; replace hF := hK1
  refine r_seq (r_seq (r_region (rp rfl rfl (r_nil ?_))))
  obtain ⟨o4, hF, hK4⟩ := bindS hF
  refine r_block ?_
  replace h := h.pick [0] rfl
  refine r_sub [(3, _), (5, _), (9, _)] ⟨rfl, rfl, rfl, trivial⟩ ?_
  refine r_loop (fun m e w' => ∃ (i3 : Int), spec_l05Parts_L3 a_1 m i3 = some o4 ∧ e = [(3, .pointer (some ⟨bb2, 0, none⟩)), (5, .int .i64 (a_1.Nets.length : Int)), (9, .int .i64 i3)] ∧ SH w w' [Ch.box bb2 [.slice p2 a_1.Instances.length k2, .slice p3 a_1.Nets.length k3, .slice p4 a_1.Ports.length k4] 45]) n ⟨_, hF, rfl, h⟩ ?_
  rintro m3 e4 w11 ⟨i3, hF, rfl, h⟩
  rcases m3 with _ | m3
  · rw [spec_l05Parts_L3] at hF
    cases hF
  rw [spec_l05Parts_L3] at hF
  refine r_seq (r_seq (r_region (rp rfl rfl (rp rfl rfl (r_v (v_ld tabOk (h.box 0 rfl) (j := 2) rfl rfl rfl) rfl (rp rfl rfl (rp rfl rfl (r_nil ?_))))))))
  refine r_if rfl hF (fun hF => ?_) (fun hF => ?_)
  · refine r_skip (r_seq (r_block (r_seq (r_region (rp rfl rfl (r_v (v_ld tabOk (h.box 0 rfl) (j := 2) rfl rfl rfl) rfl (rp rfl rfl ?_)))))))
    obtain ⟨y4, hy4, hF⟩ := bindS hF
    have he4 := idx_some hy4
    obtain ⟨b5, o_4, q4, cs6, hp4, hq4, -, hr6, hc10⟩ := s4.at hy4
    obtain rfl := open_TPort hr6
    refine r_v (v_ix tabOk hp4 hq4 ⟨he4.1, he4.2.1⟩ rfl rfl rfl rfl rfl rfl) rfl (rp rfl rfl (r_v (v_ld tabOk (hc10.below h.below) (j := 1) rfl rfl rfl) rfl ?_))
    obtain ⟨r3, hr7, hF⟩ := bindS hF
    refine r_callB r3 h call35 (spec_l01In_ok hr7) rfl rfl rfl rfl ?_
    intro w12 h
    refine rp rfl rfl (rp rfl rfl ?_)
    by_cases hc11 : (!r3) = true
    · replace hF := bifT hc11 hF
      refine r_setT hc11 (t := 78) rfl (r_not rfl rfl rfl (r_not rfl rfl rfl (r_not rfl rfl rfl (r_not rfl rfl rfl (r_not rfl rfl rfl (r_not rfl rfl rfl (r_not rfl rfl rfl (r_not rfl rfl rfl (r_not rfl rfl rfl (r_not rfl rfl rfl (rp rfl rfl ?_)))))))))))
      refine r_nil (r_condT rfl rfl (r_seq (r_region (rp rfl rfl (r_nil ?_)))))
      obtain rfl := someI hF; replace hF := hK4
      exact r_rB tabOk h hF ⟨rfl, trivial⟩
    replace hc11 := Bool.eq_false_iff.2 hc11
    replace hF := bifF hc11 hF
    refine r_setF hc11 (t := 78) rfl (r_wanted rfl (rp rfl rfl (r_wanted rfl (r_v (v_ld tabOk (h.box 0 rfl) (j := 2) rfl rfl rfl) rfl (r_wanted rfl (rp rfl rfl (r_wanted rfl ?_)))))))
    obtain ⟨y5, hy5, hF⟩ := bindS hF
    have he5 := idx_some hy5
    obtain ⟨b6, o_5, q5, cs7, hp5, hq5, -, hr8, hc12⟩ := s4.at hy5
    obtain rfl := open_TPort hr8
    refine r_v (v_ix tabOk hp5 hq5 ⟨he5.1, he5.2.1⟩ rfl rfl rfl rfl rfl rfl) rfl (r_wanted rfl (rp rfl rfl (r_wanted rfl (r_v (v_ld tabOk (hc12.below h.below) (j := 2) rfl rfl rfl) rfl (r_wanted rfl (rp rfl rfl (r_wanted rfl (rp rfl rfl (r_wanted rfl ?_)))))))))
    obtain ⟨r4, hr9, hF⟩ := bindS hF
    refine r_callB r4 h call35 (spec_l01In_ok hr9) rfl rfl rfl rfl ?_
    intro w13 h
    refine r_wanted rfl (rp rfl rfl (rp rfl rfl (r_nil ?_)))
    refine r_if rfl hF (fun hF => ?_) (fun hF => ?_)
    · refine r_seq (r_region (rp rfl rfl (r_nil ?_)))
      obtain rfl := someI hF; replace hF := hK4
      exact r_rB tabOk h hF ⟨rfl, trivial⟩
    exact r_skip (r_blk (r_region (rp rfl rfl (rp rfl rfl (rp rfl rfl (r_nil (r_back m3 [(3, _), (5, _), (9, _)] (Nat.lt_succ_self m3) ⟨rfl, rfl, rfl, trivial⟩ ⟨_, hF, rfl, h⟩)))))))
  refine r_exit rfl ?_
  obtain rfl := someI hF; replace hF := hK4
  exact r_seq (r_region (rp rfl rfl (r_nil (r_rB tabOk h hF ⟨rfl, trivial⟩))))

def spec_l05Names_L2 (list : (List ByteArray)) (i1 : Int) : Nat → Int → Option (Flow Bool Int)
  | 0, _ => none
  | n + 1, i2 =>
    bif decide (i2 < i1) then
      (idx list i2).bind fun y2 =>
      (idx list i1).bind fun y3 =>
      bif (y2.toList == y3.toList) then
        some (.ret false)
      else
        spec_l05Names_L2 list i1 n (W64 (i2 + 1))
    else
      some (.nxt i2)

def spec_l05Names_L1 (list : (List ByteArray)) : Nat → Int → Option (Flow Bool Int)
  | 0, _ => none
  | n + 1, i1 =>
    bif decide (i1 < (list.length : Int)) then
      (idx list i1).bind fun y1 =>
      (spec_l03Name n y1).bind fun r1 =>
      bif (!r1) then
        some (.ret false)
      else
        (spec_l05Names_L2 list i1 n 0).bind fun o => match o with
        | .ret r => some (.ret r)
        | .nxt _ =>
          spec_l05Names_L1 list n (W64 (i1 + 1))
    else
      some (.nxt i1)

def spec_l05Names (n : Nat) (list : (List ByteArray)) : Option Bool :=
  (spec_l05Names_L1 list n 0).bind fun o => match o with
  | .ret r => some r
  | .nxt _ =>
    some true

theorem spec_l05Names_ok {n : Nat} {w : World} {list : (List ByteArray)} {cs1 : List Value} (ha1 : GoT.R w (old w) list cs1) {r : Bool} (hF : spec_l05Names n list = some r) : RetV Tryz.prog 120 [GoT.v (List ByteArray) cs1] w r := by
  obtain ⟨p1, k1, rfl, s1⟩ := ha1
  refine retV_of_run Tryz.func120 rfl (m := 31) rfl rfl (fun h => ?_)
  rw [spec_l05Names] at hF
  refine r_seq (r_region (rp rfl rfl (r_nil (r_seq (r_seq (r_region (rp rfl rfl (r_nil ?_))))))))
  obtain ⟨o1, hF, hK1⟩ := bindS hF
  refine r_block (r_sub [(0, _), (3, _)] ⟨rfl, rfl, trivial⟩ ?_)
  refine r_loop (fun m e w' => ∃ (i1 : Int), spec_l05Names_L1 list m i1 = some o1 ∧ e = [(0, .slice p1 list.length k1), (3, .int .i64 i1)] ∧ SH w w' []) n ⟨_, hF, rfl, h⟩ ?_
  rintro m1 e1 w1 ⟨i1, hF, rfl, h⟩
  rcases m1 with _ | m1
  · rw [spec_l05Names_L1] at hF
    cases hF
  rw [spec_l05Names_L1] at hF
  refine r_seq (r_seq (r_region (rp rfl rfl (rp rfl rfl (rp rfl rfl (rp rfl rfl (r_nil ?_)))))))
  refine r_if rfl hF (fun hF => ?_) (fun hF => ?_)
  · refine r_skip (r_seq (r_block (r_seq (r_seq (r_region (rp rfl rfl (rp rfl rfl ?_)))))))
    obtain ⟨y1, hy1, hF⟩ := bindS hF
    have he1 := idx_some hy1
    obtain ⟨b1, o_1, q1, cs2, hp1, hq1, -, hr1, hc2⟩ := s1.at hy1
    obtain rfl := hr1
    refine r_v (v_ix tabOk hp1 hq1 ⟨he1.1, he1.2.1⟩ rfl rfl rfl rfl rfl rfl) rfl (r_v (v_ld tabOk (hc2.below h.below) (j := 0) rfl rfl rfl) rfl ?_)
    obtain ⟨r1, hr2, hF⟩ := bindS hF
    refine r_callB r1 h call150 (spec_l03Name_ok hr2) rfl rfl rfl rfl ?_
    intro w2 h
    refine rp rfl rfl (r_nil ?_)
    refine r_if rfl hF (fun hF => ?_) (fun hF => ?_)
    · refine r_seq (r_region (rp rfl rfl (r_nil ?_)))
      obtain rfl := someI hF; replace hF := hK1
      exact r_rB tabOk h hF ⟨rfl, trivial⟩
    refine r_skip (r_seq (r_region (rp rfl rfl (r_nil ?_))))
    obtain ⟨o2, hF, hK2⟩ := bindS hF
    refine r_block (r_sub [(0, _), (3, _), (4, _)] ⟨rfl, rfl, rfl, trivial⟩ ?_)
    refine r_loop (fun m e w' => ∃ (i2 : Int), spec_l05Names_L2 list i1 m i2 = some o2 ∧ e = [(0, .slice p1 list.length k1), (3, .int .i64 i1), (4, .int .i64 i2)] ∧ SH w w' []) m1 ⟨_, hF, rfl, h⟩ ?_
    rintro m2 e2 w3 ⟨i2, hF, rfl, h⟩
    rcases m2 with _ | m2
    · rw [spec_l05Names_L2] at hF
      cases hF
    rw [spec_l05Names_L2] at hF
    refine r_seq (r_seq (r_region (rp rfl rfl (rp rfl rfl (rp rfl rfl (r_nil ?_))))))
    refine r_if rfl hF (fun hF => ?_) (fun hF => ?_)
    · refine r_skip (r_seq (r_block (r_seq ?_)))
      refine r_draw rfl (by kernel_rfl) ?_
      refine dp rfl rfl (dp rfl rfl ?_)
      obtain ⟨y2, hy2, hF⟩ := bindS hF
      have he2 := idx_some hy2
      obtain ⟨b2, o_2, q2, cs3, hp2, hq2, -, hr3, hc5⟩ := s1.at hy2
      obtain rfl := hr3
      refine d_v (fun _ hb => v_ix tabOk hp2 hq2 ⟨he2.1, he2.2.1⟩ rfl rfl rfl rfl rfl rfl) rfl ?_
      refine d_v (fun _ hb => v_ld tabOk ((hc5.below h.below).below hb) (j := 0) rfl rfl rfl) rfl ?_
      refine dp rfl rfl (dp rfl rfl ?_)
      obtain ⟨y3, hy3, hF⟩ := bindS hF
      have he3 := idx_some hy3
      obtain ⟨b3, o_3, q3, cs4, hp3, hq3, -, hr4, hc6⟩ := s1.at hy3
      obtain rfl := hr4
      refine d_v (fun _ hb => v_ix tabOk hp3 hq3 ⟨he3.1, he3.2.1⟩ rfl rfl rfl rfl rfl rfl) rfl ?_
      refine d_v (fun _ hb => v_ld tabOk ((hc6.below h.below).below hb) (j := 0) rfl rfl rfl) rfl ?_
      refine dp rfl rfl ?_
      refine d_nil (fun w4 hb => ?_)
      replace h := h.ext hb
      clear hb
      refine r_if rfl hF (fun hF => ?_) (fun hF => ?_)
      · refine r_seq (r_region (rp rfl rfl (r_nil ?_)))
        obtain rfl := someI hF; replace hF := hK2
        obtain rfl := someI hF; replace hF := hK1
        exact r_rB tabOk h hF ⟨rfl, trivial⟩
      exact r_skip (r_blk (r_region (rp rfl rfl (rp rfl rfl (rp rfl rfl (r_nil (r_back m2 [(0, _), (3, _), (4, _)] (Nat.lt_succ_self m2) ⟨rfl, rfl, rfl, trivial⟩ ⟨_, hF, rfl, h⟩)))))))
    refine r_exit rfl ?_
    obtain rfl := someI hF; replace hF := hK2
    exact r_blk (r_region (rp rfl rfl (rp rfl rfl (rp rfl rfl (r_nil (r_back m1 [(0, _), (3, _)] (Nat.lt_succ_self m1) ⟨rfl, rfl, trivial⟩ ⟨_, hF, rfl, h⟩))))))
  refine r_exit rfl ?_
  obtain rfl := someI hF; replace hF := hK1
  exact r_seq (r_region (rp rfl rfl (r_nil (r_rB tabOk h hF ⟨rfl, trivial⟩))))

def spec_IsDesign_L5 (x5 : (List Int)) (x7 : (List Int)) : Nat → Int → Option (Flow Bool Int)
  | 0, _ => none
  | n + 1, i5 =>
    bif decide (i5 < (x5.length : Int)) then
      (idx x7 i5).bind fun y11 =>
      bif (y11 != 1) then
        some (.ret false)
      else
        spec_IsDesign_L5 x5 x7 n (W64 (i5 + 1))
    else
      some (.nxt i5)

def spec_IsDesign_L4 (a_1 : TDesign) : Nat → (List Int) → Int → Option ((List Int) × Int)
  | 0, _, _ => none
  | n + 1, x7, i4 =>
    bif decide (i4 < (a_1.Ports.length : Int)) then
      (idx a_1.Ports i4).bind fun y7 =>
      bif (y7.Dir == 1) then
        (idx a_1.Ports i4).bind fun y8 =>
        (idx x7 y8.Net).bind fun y9 =>
        (idx x7 y8.Net).bind fun _ =>
        spec_IsDesign_L4 a_1 n (setS x7 y8.Net (W64 (y9 + 1))) (W64 (i4 + 1))
      else
        spec_IsDesign_L4 a_1 n x7 (W64 (i4 + 1))
    else
      some (x7, i4)

def spec_IsDesign_L3 (a_1 : TDesign) : Nat → (List Int) → Int → Option ((List Int) × Int)
  | 0, _, _ => none
  | n + 1, x6, i3 =>
    bif decide (i3 < (a_1.Instances.length : Int)) then
      (idx a_1.Instances i3).bind fun y3 =>
      (idx y3.Nets (W64 ((y3.Nets.length : Int) - 1))).bind fun y4 =>
      (idx x6 y4).bind fun y5 =>
      (idx x6 y4).bind fun _ =>
      spec_IsDesign_L3 a_1 n (setS x6 y4 (W64 (y5 + 1))) (W64 (i3 + 1))
    else
      some (x6, i3)

def spec_IsDesign_L2 (a_1 : TDesign) : Nat → (List ByteArray) → Int → Option ((List ByteArray) × Int)
  | 0, _, _ => none
  | n + 1, x3, i2 =>
    bif decide (i2 < (a_1.Ports.length : Int)) then
      (idx a_1.Ports i2).bind fun y2 =>
      (appS x3 ([y2.Name] : List ByteArray)).bind fun x4 =>
      spec_IsDesign_L2 a_1 n x4 (W64 (i2 + 1))
    else
      some (x3, i2)

def spec_IsDesign_L1 (a_1 : TDesign) : Nat → (List ByteArray) → Int → Option ((List ByteArray) × Int)
  | 0, _, _ => none
  | n + 1, x1, i1 =>
    bif decide (i1 < (a_1.Instances.length : Int)) then
      (idx a_1.Instances i1).bind fun y1 =>
      (appS x1 ([y1.Name] : List ByteArray)).bind fun x2 =>
      spec_IsDesign_L1 a_1 n x2 (W64 (i1 + 1))
    else
      some (x1, i1)

def spec_IsDesign (n : Nat) (a_0 : TLibrary) (a_1 : TDesign) : Option Bool :=
  (
    (spec_IsLibrary n a_0).bind fun r4 =>
    bif (!r4) then
      some true
    else
      bif decide ((a_1.Instances.length : Int) > 14) then
        some true
      else
        bif decide ((a_1.Nets.length : Int) > 30) then
          some true
        else
          bif decide ((a_1.Ports.length : Int) > 8) then
            some true
          else
            (spec_l05Parts n a_0 a_1).bind fun r5 =>
            some (!r5)).bind fun b1 =>
  bif b1 then
    some false
  else
    (spec_IsDesign_L1 a_1 n ([] : List ByteArray) 0).bind fun o => match o with
    | (x1, _) =>
      (spec_IsDesign_L2 a_1 n ([] : List ByteArray) 0).bind fun o => match o with
      | (x3, _) =>
        (
          (spec_l05Names n x1).bind fun r1 =>
          bif (!r1) then
            some true
          else
            (spec_l05Names n x3).bind fun r2 =>
            bif (!r2) then
              some true
            else
              (spec_l05Names n a_1.Nets).bind fun r3 =>
              some (!r3)).bind fun b4 =>
        bif b4 then
          some false
        else
          (mkS (a_1.Nets.length : Int) (0 : Int)).bind fun x5 =>
          (spec_IsDesign_L3 a_1 n x5 0).bind fun o => match o with
          | (x6, _) =>
            (spec_IsDesign_L4 a_1 n x6 0).bind fun o => match o with
            | (x7, _) =>
              (spec_IsDesign_L5 x5 x7 n 0).bind fun o => match o with
              | .ret r => some r
              | .nxt _ =>
                some true

theorem spec_IsDesign_ok {n : Nat} {w : World} {a_0 : TLibrary} {a_1 : TDesign} {cs1 : List Value} (ha1 : GoT.R w (old w) a_0 cs1) {cs2 : List Value} (ha2 : GoT.R w (old w) a_1 cs2) {r : Bool} (hF : spec_IsDesign n a_0 a_1 = some r) : RetV Tryz.prog 67 [GoT.v TLibrary cs1, GoT.v TDesign cs2] w r := by
  obtain ⟨p1, k1, rfl, s1⟩ := open_TLibrary ha1
  obtain ⟨p2, k2, p3, k3, p4, k4, rfl, s2, s3, s4⟩ := open_TDesign ha2
  refine retV_of_run Tryz.func67 rfl (m := 153) rfl rfl (fun h => ?_)
  rw [spec_IsDesign] at hF
  refine r_seq (r_region (r_box h rfl rfl ?_))
  intro w1 bb1 h
  refine r_box h rfl rfl ?_
  intro w2 bb2 h
  refine rp rfl rfl (r_nil (r_seq (r_seq ?_)))
  obtain ⟨KF2, hKF2, o7, hF, hK7⟩ := bindE hF
  refine r_cut (fun e w' => ∃ (b1 : Bool), KF2 b1 = some r ∧ e = [(3, .pointer (some ⟨bb2, 0, none⟩)), (40, .bool b1)] ∧ SH w w' [Ch.box bb2 [.slice p2 a_1.Instances.length k2, .slice p3 a_1.Nets.length k3, .slice p4 a_1.Ports.length k4] 45]) ?_ ?_
  · refine r_region (r_v (v_ld tabOk (h.box 1 rfl) (j := 0) rfl rfl rfl) rfl ?_)
    obtain ⟨r4, hr15, hF⟩ := bindS hF
    refine r_callB r4 h call118 (spec_IsLibrary_ok (h.old ha1) hr15) rfl rfl rfl rfl ?_
    intro w21 h
    refine rp rfl rfl (rp rfl rfl ?_)
    by_cases hc23 : (!r4) = true
    · replace hF := bifT hc23 hF
      refine r_setT hc23 (t := 17) rfl (r_not rfl rfl rfl (r_not rfl rfl rfl (r_not rfl rfl rfl (r_not rfl rfl rfl (rp rfl rfl (rp rfl rfl (r_not rfl rfl rfl (r_not rfl rfl rfl (r_not rfl rfl rfl (r_not rfl rfl rfl (rp rfl rfl ?_)))))))))))
      refine rp rfl rfl (r_not rfl rfl rfl (r_not rfl rfl rfl (r_not rfl rfl rfl (r_not rfl rfl rfl (rp rfl rfl (rp rfl rfl (r_not rfl rfl rfl (r_not rfl rfl rfl (r_not rfl rfl rfl (r_not rfl rfl rfl (rp rfl rfl ?_)))))))))))
      refine r_nil ?_
      replace h := h.pick [0] rfl
      obtain rfl := someI hF
      exact r_cutgoal [(3, _), (40, _)] ⟨rfl, rfl, trivial⟩ ⟨_, hK7, rfl, h⟩
    replace hc23 := Bool.eq_false_iff.2 hc23
    replace hF := bifF hc23 hF
    refine r_setF hc23 (t := 17) rfl (r_wanted rfl (rp rfl rfl (r_wanted rfl (r_v (v_ld tabOk (h.box 0 rfl) (j := 0) rfl rfl rfl) rfl (r_wanted rfl (rp rfl rfl (r_wanted rfl (rp rfl rfl (rp rfl rfl (rp rfl rfl ?_))))))))))
    by_cases hc24 : (decide ((a_1.Instances.length : Int) > 14)) = true
    · replace hF := bifT hc24 hF
      refine r_setT hc24 (t := 23) rfl (r_not rfl rfl rfl (r_not rfl rfl rfl (r_not rfl rfl rfl (r_not rfl rfl rfl (rp rfl rfl (rp rfl rfl (r_not rfl rfl rfl (r_not rfl rfl rfl (r_not rfl rfl rfl (r_not rfl rfl rfl (rp rfl rfl ?_)))))))))))
      refine rp rfl rfl (r_not rfl rfl rfl (r_not rfl rfl rfl (r_not rfl rfl rfl (r_not rfl rfl rfl (rp rfl rfl (r_nil ?_))))))
      replace h := h.pick [0] rfl
      obtain rfl := someI hF
      exact r_cutgoal [(3, _), (40, _)] ⟨rfl, rfl, trivial⟩ ⟨_, hK7, rfl, h⟩
    replace hc24 := Bool.eq_false_iff.2 hc24
    replace hF := bifF hc24 hF
    refine r_setF hc24 (t := 23) rfl (r_wanted rfl (rp rfl rfl (r_wanted rfl (r_v (v_ld tabOk (h.box 0 rfl) (j := 1) rfl rfl rfl) rfl (r_wanted rfl (rp rfl rfl (r_wanted rfl (rp rfl rfl (rp rfl rfl (rp rfl rfl ?_))))))))))
    by_cases hc25 : (decide ((a_1.Nets.length : Int) > 30)) = true
    · replace hF := bifT hc25 hF
      refine r_setT hc25 (t := 29) rfl (r_not rfl rfl rfl (r_not rfl rfl rfl (r_not rfl rfl rfl (r_not rfl rfl rfl (rp rfl rfl (rp rfl rfl (r_not rfl rfl rfl (r_not rfl rfl rfl (r_not rfl rfl rfl (r_not rfl rfl rfl (rp rfl rfl ?_)))))))))))
      refine r_nil ?_
      replace h := h.pick [0] rfl
      obtain rfl := someI hF
      exact r_cutgoal [(3, _), (40, _)] ⟨rfl, rfl, trivial⟩ ⟨_, hK7, rfl, h⟩
    replace hc25 := Bool.eq_false_iff.2 hc25
    replace hF := bifF hc25 hF
    refine r_setF hc25 (t := 29) rfl (r_wanted rfl (rp rfl rfl (r_wanted rfl (r_v (v_ld tabOk (h.box 0 rfl) (j := 2) rfl rfl rfl) rfl (r_wanted rfl (rp rfl rfl (r_wanted rfl (rp rfl rfl (rp rfl rfl (rp rfl rfl ?_))))))))))
    by_cases hc26 : (decide ((a_1.Ports.length : Int) > 8)) = true
    · replace hF := bifT hc26 hF
      refine r_setT hc26 (t := 35) rfl (r_not rfl rfl rfl (r_not rfl rfl rfl (r_not rfl rfl rfl (r_not rfl rfl rfl (rp rfl rfl (r_nil ?_))))))
      replace h := h.pick [0] rfl
      obtain rfl := someI hF
      exact r_cutgoal [(3, _), (40, _)] ⟨rfl, rfl, trivial⟩ ⟨_, hK7, rfl, h⟩
    replace hc26 := Bool.eq_false_iff.2 hc26
    replace hF := bifF hc26 hF
    refine r_setF hc26 (t := 35) rfl (r_wanted rfl (r_v (v_ld tabOk (h.box 1 rfl) (j := 0) rfl rfl rfl) rfl (r_wanted rfl (r_v (v_ld tabOk (h.box 0 rfl) (j := 0) rfl rfl rfl) rfl (r_wanted rfl ?_)))))
    obtain ⟨r5, hr16, hF⟩ := bindS hF
    refine r_callB r5 h call119 (spec_l05Parts_ok (h.old ha1) (h.old ha2) hr16) rfl rfl rfl rfl ?_
    intro w22 h
    refine r_wanted rfl (rp rfl rfl (rp rfl rfl (r_nil ?_)))
    replace h := h.pick [0] rfl
    obtain rfl := someI hF
    exact r_cutgoal [(3, _), (40, _)] ⟨rfl, rfl, trivial⟩ ⟨_, hK7, rfl, h⟩
  rintro e7 w23 ⟨b1, hF, rfl, h⟩
  subst hKF2
  refine r_if rfl hF (fun hF => ?_) (fun hF => ?_)
  · exact r_seq (r_region (rp rfl rfl (r_nil (r_rB tabOk h hF ⟨rfl, trivial⟩))))
  refine r_skip (r_seq (r_region (r_bslice tabOk [] _ ([] : List ByteArray) h rfl rfl rfl rfl rfl rfl rfl rfl rfl trivial rfl ?_)))
  intro w3 p5 S1 h
  refine rp rfl rfl (r_nil (r_seq (r_seq (r_region (rp rfl rfl (r_nil ?_))))))
  obtain ⟨o1, hF, hK1⟩ := bindS hF
  refine r_block (r_sub [(3, _), (5, _), (6, _)] ⟨rfl, rfl, rfl, trivial⟩ ?_)
  refine r_loop (fun m e w' => ∃ (S2 : Nat → Prop) (p6 : Option Addr) (ln1 : Nat) (k5 : Nat) (x1 : (List ByteArray)) (i1 : Int), spec_IsDesign_L1 a_1 m x1 i1 = some o1 ∧ e = [(3, .pointer (some ⟨bb2, 0, none⟩)), (5, .slice p6 ln1 k5), (6, .int .i64 i1)] ∧ SH w w' [Ch.own S2 (x1 : List ByteArray) [.slice p6 ln1 k5], Ch.box bb2 [.slice p2 a_1.Instances.length k2, .slice p3 a_1.Nets.length k3, .slice p4 a_1.Ports.length k4] 45]) n ⟨_, _, _, _, _, _, hF, rfl, h⟩ ?_
  rintro m1 e1 w4 ⟨S2, p6, ln1, k5, x1, i1, hF, rfl, h⟩
  obtain rfl := (h.sl 0 rfl).2
  rcases m1 with _ | m1
  · rw [spec_IsDesign_L1] at hF
    cases hF
  rw [spec_IsDesign_L1] at hF
  refine r_seq (r_seq (r_region (rp rfl rfl (rp rfl rfl (r_v (v_ld tabOk (h.box 1 rfl) (j := 0) rfl rfl rfl) rfl (rp rfl rfl (rp rfl rfl (r_nil ?_))))))))
  refine r_if rfl hF (fun hF => ?_) (fun hF => ?_)
  · refine r_skip (r_seq (r_block (r_region (rp rfl rfl (rp rfl rfl (r_v (v_ld tabOk (h.box 1 rfl) (j := 0) rfl rfl rfl) rfl (rp rfl rfl ?_)))))))
    obtain ⟨y1, hy1, hF⟩ := bindS hF
    have he1 := idx_some hy1
    obtain ⟨b2, o_1, q1, cs3, hp1, hq1, -, hr1, hc3⟩ := s2.at hy1
    obtain ⟨p7, k6, rfl, s5⟩ := open_TInstance hr1
    refine r_v (v_ix tabOk hp1 hq1 ⟨he1.1, he1.2.1⟩ rfl rfl rfl rfl rfl rfl) rfl (rp rfl rfl (r_v (v_ld tabOk (hc3.below h.below) (j := 0) rfl rfl rfl) rfl (r_bslice tabOk [.tmp 55] _ ([y1.Name] : List ByteArray) h rfl rfl rfl rfl rfl rfl rfl rfl rfl ⟨rfl, trivial⟩ rfl ?_)))
    intro w5 p8 S3 h
    obtain ⟨x2, hx1, hF⟩ := bindS hF
    obtain ⟨g1, hx1⟩ := appS_some hx1
    refine r_appE tabOk 1 h rfl (h.sl 0 rfl).1 (h.sl 0 rfl).2 rfl rfl rfl rfl rfl rfl rfl rfl rfl g1 hx1 rfl ?_
    intro w6 p9 k7 S4 h
    refine rp rfl rfl (r_nil (r_blk (r_region (rp rfl rfl (rp rfl rfl (rp rfl rfl (r_nil ?_)))))))
    replace h := h.pick [1, 2] rfl
    exact r_back m1 [(3, _), (5, _), (6, _)] (Nat.lt_succ_self m1) ⟨rfl, rfl, rfl, trivial⟩ ⟨_, _, _, _, _, _, hF, rfl, h⟩
  refine r_exit rfl ?_
  obtain rfl := someI hF; replace hF := hK1
  refine r_seq (r_region (r_bslice tabOk [] _ ([] : List ByteArray) h rfl rfl rfl rfl rfl rfl rfl rfl rfl trivial rfl ?_))
  intro w7 p10 S5 h
  refine rp rfl rfl (r_nil (r_seq (r_seq (r_region (rp rfl rfl (r_nil ?_))))))
  obtain ⟨o2, hF, hK2⟩ := bindS hF
  refine r_block (r_sub [(3, _), (5, _), (7, _), (8, _)] ⟨rfl, rfl, rfl, rfl, trivial⟩ ?_)
  refine r_loop (fun m e w' => ∃ (S6 : Nat → Prop) (p11 : Option Addr) (ln2 : Nat) (k8 : Nat) (x3 : (List ByteArray)) (i2 : Int), spec_IsDesign_L2 a_1 m x3 i2 = some o2 ∧ e = [(3, .pointer (some ⟨bb2, 0, none⟩)), (5, .slice p6 x1.length k5), (7, .slice p11 ln2 k8), (8, .int .i64 i2)] ∧ SH w w' [Ch.own S6 (x3 : List ByteArray) [.slice p11 ln2 k8], Ch.own S2 (x1 : List ByteArray) [.slice p6 x1.length k5], Ch.box bb2 [.slice p2 a_1.Instances.length k2, .slice p3 a_1.Nets.length k3, .slice p4 a_1.Ports.length k4] 45]) n ⟨_, _, _, _, _, _, hF, rfl, h⟩ ?_
  rintro m2 e2 w8 ⟨S6, p11, ln2, k8, x3, i2, hF, rfl, h⟩
  obtain rfl := (h.sl 0 rfl).2
  rcases m2 with _ | m2
  · rw [spec_IsDesign_L2] at hF
    cases hF
  rw [spec_IsDesign_L2] at hF
  refine r_seq (r_seq (r_region (rp rfl rfl (rp rfl rfl (r_v (v_ld tabOk (h.box 2 rfl) (j := 2) rfl rfl rfl) rfl (rp rfl rfl (rp rfl rfl (r_nil ?_))))))))
  refine r_if rfl hF (fun hF => ?_) (fun hF => ?_)
  · refine r_skip (r_seq (r_block (r_region (rp rfl rfl (rp rfl rfl (r_v (v_ld tabOk (h.box 2 rfl) (j := 2) rfl rfl rfl) rfl (rp rfl rfl ?_)))))))
    obtain ⟨y2, hy2, hF⟩ := bindS hF
    have he2 := idx_some hy2
    obtain ⟨b3, o_2, q2, cs4, hp2, hq2, -, hr2, hc5⟩ := s4.at hy2
    obtain rfl := open_TPort hr2
    refine r_v (v_ix tabOk hp2 hq2 ⟨he2.1, he2.2.1⟩ rfl rfl rfl rfl rfl rfl) rfl (rp rfl rfl (r_v (v_ld tabOk (hc5.below h.below) (j := 0) rfl rfl rfl) rfl (r_bslice tabOk [.tmp 72] _ ([y2.Name] : List ByteArray) h rfl rfl rfl rfl rfl rfl rfl rfl rfl ⟨rfl, trivial⟩ rfl ?_)))
    intro w9 p12 S7 h
    obtain ⟨x4, hx2, hF⟩ := bindS hF
    obtain ⟨g2, hx2⟩ := appS_some hx2
    refine r_appE tabOk 1 h rfl (h.sl 0 rfl).1 (h.sl 0 rfl).2 rfl rfl rfl rfl rfl rfl rfl rfl rfl g2 hx2 rfl ?_
    intro w10 p13 k9 S8 h
    refine rp rfl rfl (r_nil (r_blk (r_region (rp rfl rfl (rp rfl rfl (rp rfl rfl (r_nil ?_)))))))
    replace h := h.pick [1, 2, 3] rfl
    exact r_back m2 [(3, _), (5, _), (7, _), (8, _)] (Nat.lt_succ_self m2) ⟨rfl, rfl, rfl, rfl, trivial⟩ ⟨_, _, _, _, _, _, hF, rfl, h⟩
  refine r_exit rfl ?_
  obtain rfl := someI hF; replace hF := hK2
  refine r_seq (r_seq ?_)
  obtain ⟨KF1, hKF1, o6, hF, hK6⟩ := bindE hF
  refine r_cut (fun e w' => ∃ (b4 : Bool), KF1 b4 = some r ∧ e = [(3, .pointer (some ⟨bb2, 0, none⟩)), (88, .bool b4)] ∧ SH w w' [Ch.box bb2 [.slice p2 a_1.Instances.length k2, .slice p3 a_1.Nets.length k3, .slice p4 a_1.Ports.length k4] 45]) ?_ ?_
  · refine r_region (rp rfl rfl ?_)
    obtain ⟨r1, hr12, hF⟩ := bindS hF
    refine r_callB r1 h call120 (spec_l05Names_ok (h.own 1 rfl) hr12) rfl rfl rfl rfl ?_
    intro w17 h
    refine rp rfl rfl (rp rfl rfl ?_)
    by_cases hc21 : (!r1) = true
    · replace hF := bifT hc21 hF
      refine r_setT hc21 (t := 78) rfl (r_not rfl rfl rfl (r_not rfl rfl rfl (r_not rfl rfl rfl (rp rfl rfl (rp rfl rfl (r_not rfl rfl rfl (r_not rfl rfl rfl (r_not rfl rfl rfl (r_not rfl rfl rfl (rp rfl rfl (r_nil ?_)))))))))))
      replace h := h.pick [2] rfl
      obtain rfl := someI hF
      exact r_cutgoal [(3, _), (88, _)] ⟨rfl, rfl, trivial⟩ ⟨_, hK6, rfl, h⟩
    replace hc21 := Bool.eq_false_iff.2 hc21
    replace hF := bifF hc21 hF
    refine r_setF hc21 (t := 78) rfl (r_wanted rfl (rp rfl rfl (r_wanted rfl ?_)))
    obtain ⟨r2, hr13, hF⟩ := bindS hF
    refine r_callB r2 h call120 (spec_l05Names_ok (h.own 0 rfl) hr13) rfl rfl rfl rfl ?_
    intro w18 h
    refine r_wanted rfl (rp rfl rfl (rp rfl rfl (rp rfl rfl ?_)))
    by_cases hc22 : (!r2) = true
    · replace hF := bifT hc22 hF
      refine r_setT hc22 (t := 83) rfl (r_not rfl rfl rfl (r_not rfl rfl rfl (r_not rfl rfl rfl (r_not rfl rfl rfl (rp rfl rfl (r_nil ?_))))))
      replace h := h.pick [2] rfl
      obtain rfl := someI hF
      exact r_cutgoal [(3, _), (88, _)] ⟨rfl, rfl, trivial⟩ ⟨_, hK6, rfl, h⟩
    replace hc22 := Bool.eq_false_iff.2 hc22
    replace hF := bifF hc22 hF
    refine r_setF hc22 (t := 83) rfl (r_wanted rfl (rp rfl rfl (r_wanted rfl (r_v (v_ld tabOk (h.box 2 rfl) (j := 1) rfl rfl rfl) rfl (r_wanted rfl ?_)))))
    obtain ⟨r3, hr14, hF⟩ := bindS hF
    refine r_callB r3 h call120 (spec_l05Names_ok ⟨_, _, rfl, (h.oldS s3)⟩ hr14) rfl rfl rfl rfl ?_
    intro w19 h
    refine r_wanted rfl (rp rfl rfl (rp rfl rfl (r_nil ?_)))
    replace h := h.pick [2] rfl
    obtain rfl := someI hF
    exact r_cutgoal [(3, _), (88, _)] ⟨rfl, rfl, trivial⟩ ⟨_, hK6, rfl, h⟩
  rintro e6 w20 ⟨b4, hF, rfl, h⟩
  subst hKF1
  refine r_if rfl hF (fun hF => ?_) (fun hF => ?_)
  · exact r_seq (r_region (rp rfl rfl (r_nil (r_rB tabOk h hF ⟨rfl, trivial⟩))))
  refine r_skip (r_seq (r_region (rp rfl rfl (r_v (v_ld tabOk (h.box 0 rfl) (j := 1) rfl rfl rfl) rfl (rp rfl rfl ?_)))))
  obtain ⟨x5, hx3, hF⟩ := bindS hF
  obtain ⟨g3, g4, hx3⟩ := mkS_some hx3
  refine r_makeE tabOk Int h rfl rfl rfl rfl rfl rfl rfl rfl rfl g3 g4 hx3 rfl ?_
  intro w11 S9 p14 h
  refine rp rfl rfl (r_nil (r_seq (r_seq (r_region (rp rfl rfl (r_nil ?_))))))
  obtain ⟨o3, hF, hK3⟩ := bindS hF
  refine r_block (r_sub [(3, _), (9, _), (10, _)] ⟨rfl, rfl, rfl, trivial⟩ ?_)
  refine r_loop (fun m e w' => ∃ (x6 : (List Int)) (i3 : Int), spec_IsDesign_L3 a_1 m x6 i3 = some o3 ∧ e = [(3, .pointer (some ⟨bb2, 0, none⟩)), (9, .slice p14 x5.length x5.length), (10, .int .i64 i3)] ∧ SH w w' [Ch.own S9 (x6 : List Int) [.slice p14 x5.length x5.length], Ch.box bb2 [.slice p2 a_1.Instances.length k2, .slice p3 a_1.Nets.length k3, .slice p4 a_1.Ports.length k4] 45]) n ⟨_, _, hF, rfl, h⟩ ?_
  rintro m3 e3 w12 ⟨x6, i3, hF, rfl, h⟩
  rcases m3 with _ | m3
  · rw [spec_IsDesign_L3] at hF
    cases hF
  rw [spec_IsDesign_L3] at hF
  refine r_seq (r_seq (r_region (rp rfl rfl (rp rfl rfl (r_v (v_ld tabOk (h.box 1 rfl) (j := 0) rfl rfl rfl) rfl (rp rfl rfl (rp rfl rfl (r_nil ?_))))))))
  refine r_if rfl hF (fun hF => ?_) (fun hF => ?_)
  · refine r_skip (r_seq (r_block (r_seq (r_region (rp rfl rfl (r_v (v_ld tabOk (h.box 1 rfl) (j := 0) rfl rfl rfl) rfl (rp rfl rfl ?_)))))))
    obtain ⟨y3, hy3, hF⟩ := bindS hF
    have he3 := idx_some hy3
    obtain ⟨b5, o_3, q3, cs5, hp3, hq3, -, hr3, hc8⟩ := s2.at hy3
    obtain ⟨p15, k10, rfl, s6⟩ := open_TInstance hr3
    refine r_v (v_ix tabOk hp3 hq3 ⟨he3.1, he3.2.1⟩ rfl rfl rfl rfl rfl rfl) rfl (rp rfl rfl (r_v (v_ld tabOk (hc8.below h.below) (j := 2) rfl rfl rfl) rfl (rp rfl rfl (r_nil (r_region (rp rfl rfl (rp rfl rfl (rp rfl rfl (rp rfl rfl (rp rfl rfl ?_))))))))))
    obtain ⟨y4, hy4, hF⟩ := bindS hF
    have he4 := idx_some hy4
    obtain ⟨b6, o_4, q4, cs6, hp4, hq4, -, hr4, hc9⟩ := s6.at hy4
    obtain rfl := hr4
    refine r_v (v_ix tabOk hp4 hq4 ⟨he4.1, he4.2.1⟩ rfl rfl rfl rfl rfl rfl) rfl (r_v (v_ld tabOk (hc9.below h.below) (j := 0) rfl rfl rfl) rfl ?_)
    obtain ⟨y5, hy5, hF⟩ := bindS hF
    have he5 := idx_some hy5
    obtain ⟨b7, o_5, q5, cs7, hp5, hq5, -, hr5, hc10⟩ := (h.sl 0 rfl).1.at hy5
    obtain rfl := hr5
    refine r_v (v_ix tabOk hp5 hq5 ⟨he5.1, lt_ln he5.2.1 (h.sl 0 rfl).2⟩ rfl rfl rfl rfl rfl rfl) rfl (r_v (v_ld tabOk hc10 (j := 0) rfl rfl rfl) rfl (rp rfl rfl ?_))
    obtain ⟨y6, hy6, hF⟩ := bindS hF
    have he6 := idx_some hy6
    obtain ⟨b8, o_6, q6, cs8, hp6, hq6, -, hr6, hc11⟩ := (h.sl 0 rfl).1.at hy6
    obtain rfl := hr6
    refine r_v (v_ix tabOk hp6 hq6 ⟨he6.1, lt_ln he6.2.1 (h.sl 0 rfl).2⟩ rfl rfl rfl rfl rfl rfl) rfl (r_stown tabOk 0 0 (W64 (y5 + 1)) h rfl hy6 hp6 hq6 rfl hc11 rfl rfl rfl rfl rfl rfl rfl ?_)
    intro w13 h
    exact r_nil (r_blk (r_region (rp rfl rfl (rp rfl rfl (rp rfl rfl (r_nil (r_back m3 [(3, _), (9, _), (10, _)] (Nat.lt_succ_self m3) ⟨rfl, rfl, rfl, trivial⟩ ⟨_, _, hF, rfl, h⟩)))))))
  refine r_exit rfl ?_
  obtain rfl := someI hF; replace hF := hK3
  refine r_seq (r_seq (r_region (rp rfl rfl (r_nil ?_))))
  obtain ⟨o4, hF, hK4⟩ := bindS hF
  refine r_block (r_sub [(3, _), (9, _), (12, _)] ⟨rfl, rfl, rfl, trivial⟩ ?_)
  refine r_loop (fun m e w' => ∃ (x7 : (List Int)) (i4 : Int), spec_IsDesign_L4 a_1 m x7 i4 = some o4 ∧ e = [(3, .pointer (some ⟨bb2, 0, none⟩)), (9, .slice p14 x5.length x5.length), (12, .int .i64 i4)] ∧ SH w w' [Ch.own S9 (x7 : List Int) [.slice p14 x5.length x5.length], Ch.box bb2 [.slice p2 a_1.Instances.length k2, .slice p3 a_1.Nets.length k3, .slice p4 a_1.Ports.length k4] 45]) n ⟨_, _, hF, rfl, h⟩ ?_
  rintro m4 e4 w14 ⟨x7, i4, hF, rfl, h⟩
  rcases m4 with _ | m4
  · rw [spec_IsDesign_L4] at hF
    cases hF
  rw [spec_IsDesign_L4] at hF
  refine r_seq (r_seq (r_region (rp rfl rfl (rp rfl rfl (r_v (v_ld tabOk (h.box 1 rfl) (j := 2) rfl rfl rfl) rfl (rp rfl rfl (rp rfl rfl (r_nil ?_))))))))
  refine r_if rfl hF (fun hF => ?_) (fun hF => ?_)
  · refine r_skip (r_seq (r_block (r_seq (r_region (rp rfl rfl (r_v (v_ld tabOk (h.box 1 rfl) (j := 2) rfl rfl rfl) rfl (rp rfl rfl ?_)))))))
    obtain ⟨y7, hy7, hF⟩ := bindS hF
    have he7 := idx_some hy7
    obtain ⟨b9, o_7, q7, cs9, hp7, hq7, -, hr7, hc13⟩ := s4.at hy7
    obtain rfl := open_TPort hr7
    refine r_v (v_ix tabOk hp7 hq7 ⟨he7.1, he7.2.1⟩ rfl rfl rfl rfl rfl rfl) rfl (rp rfl rfl (r_v (v_ld tabOk (hc13.below h.below) (j := 1) rfl rfl rfl) rfl (rp rfl rfl (r_nil ?_))))
    refine r_if rfl hF (fun hF => ?_) (fun hF => ?_)
    · refine r_region (rp rfl rfl (rp rfl rfl (r_v (v_ld tabOk (h.box 1 rfl) (j := 2) rfl rfl rfl) rfl (rp rfl rfl ?_))))
      obtain ⟨y8, hy8, hF⟩ := bindS hF
      have he8 := idx_some hy8
      obtain ⟨b10, o_8, q8, cs10, hp8, hq8, -, hr8, hc15⟩ := s4.at hy8
      obtain rfl := open_TPort hr8
      refine r_v (v_ix tabOk hp8 hq8 ⟨he8.1, he8.2.1⟩ rfl rfl rfl rfl rfl rfl) rfl (rp rfl rfl (r_v (v_ld tabOk (hc15.below h.below) (j := 2) rfl rfl rfl) rfl ?_))
      obtain ⟨y9, hy9, hF⟩ := bindS hF
      have he9 := idx_some hy9
      obtain ⟨b11, o_9, q9, cs11, hp9, hq9, -, hr9, hc16⟩ := (h.sl 0 rfl).1.at hy9
      obtain rfl := hr9
      refine r_v (v_ix tabOk hp9 hq9 ⟨he9.1, lt_ln he9.2.1 (h.sl 0 rfl).2⟩ rfl rfl rfl rfl rfl rfl) rfl (r_v (v_ld tabOk hc16 (j := 0) rfl rfl rfl) rfl (rp rfl rfl ?_))
      obtain ⟨y10, hy10, hF⟩ := bindS hF
      have he10 := idx_some hy10
      obtain ⟨b12, o_10, q10, cs12, hp10, hq10, -, hr10, hc17⟩ := (h.sl 0 rfl).1.at hy10
      obtain rfl := hr10
      refine r_v (v_ix tabOk hp10 hq10 ⟨he10.1, lt_ln he10.2.1 (h.sl 0 rfl).2⟩ rfl rfl rfl rfl rfl rfl) rfl (r_stown tabOk 0 0 (W64 (y9 + 1)) h rfl hy10 hp10 hq10 rfl hc17 rfl rfl rfl rfl rfl rfl rfl ?_)
      intro w15 h
      exact r_nil (r_blk (r_region (rp rfl rfl (rp rfl rfl (rp rfl rfl (r_nil (r_back m4 [(3, _), (9, _), (12, _)] (Nat.lt_succ_self m4) ⟨rfl, rfl, rfl, trivial⟩ ⟨_, _, hF, rfl, h⟩)))))))
    exact r_skip (r_blk (r_region (rp rfl rfl (rp rfl rfl (rp rfl rfl (r_nil (r_back m4 [(3, _), (9, _), (12, _)] (Nat.lt_succ_self m4) ⟨rfl, rfl, rfl, trivial⟩ ⟨_, _, hF, rfl, h⟩)))))))
  refine r_exit rfl ?_
  obtain rfl := someI hF; replace hF := hK4
  refine r_seq (r_seq (r_region (rp rfl rfl (r_nil ?_))))
  obtain ⟨o5, hF, hK5⟩ := bindS hF
  refine r_block ?_
  replace h := h.pick [0] rfl
  refine r_sub [(9, _), (13, _)] ⟨rfl, rfl, trivial⟩ ?_
  refine r_loop (fun m e w' => ∃ (i5 : Int), spec_IsDesign_L5 x5 x7 m i5 = some o5 ∧ e = [(9, .slice p14 x5.length x5.length), (13, .int .i64 i5)] ∧ SH w w' [Ch.own S9 (x7 : List Int) [.slice p14 x5.length x5.length]]) n ⟨_, hF, rfl, h⟩ ?_
  rintro m5 e5 w16 ⟨i5, hF, rfl, h⟩
  rcases m5 with _ | m5
  · rw [spec_IsDesign_L5] at hF
    cases hF
  rw [spec_IsDesign_L5] at hF
  refine r_seq (r_seq (r_region (rp rfl rfl (rp rfl rfl (rp rfl rfl (rp rfl rfl (r_nil ?_)))))))
  refine r_if rfl hF (fun hF => ?_) (fun hF => ?_)
  · refine r_skip (r_seq (r_block (r_seq (r_region (rp rfl rfl (rp rfl rfl ?_))))))
    obtain ⟨y11, hy11, hF⟩ := bindS hF
    have he11 := idx_some hy11
    obtain ⟨b13, o_11, q11, cs13, hp11, hq11, -, hr11, hc19⟩ := (h.sl 0 rfl).1.at hy11
    obtain rfl := hr11
    refine r_v (v_ix tabOk hp11 hq11 ⟨he11.1, lt_ln he11.2.1 (h.sl 0 rfl).2⟩ rfl rfl rfl rfl rfl rfl) rfl (r_v (v_ld tabOk hc19 (j := 0) rfl rfl rfl) rfl (rp rfl rfl (r_nil ?_)))
    refine r_if rfl hF (fun hF => ?_) (fun hF => ?_)
    · refine r_seq (r_region (rp rfl rfl (r_nil ?_)))
      obtain rfl := someI hF; replace hF := hK5
      exact r_rB tabOk h hF ⟨rfl, trivial⟩
    exact r_skip (r_blk (r_region (rp rfl rfl (rp rfl rfl (rp rfl rfl (r_nil (r_back m5 [(9, _), (13, _)] (Nat.lt_succ_self m5) ⟨rfl, rfl, trivial⟩ ⟨_, hF, rfl, h⟩)))))))
  refine r_exit rfl ?_
  obtain rfl := someI hF; replace hF := hK5
  exact r_seq (r_region (rp rfl rfl (r_nil (r_rB tabOk h hF ⟨rfl, trivial⟩))))

def spec_IsWire_L2 (a_0 : TWire) : Nat → Int → Option (Flow Bool Int)
  | 0, _ => none
  | n + 1, i2 =>
    bif decide (i2 < (a_0.Sink.length : Int)) then
      (idx a_0.Sink i2).bind fun y7 =>
      (spec_l01In n y7 0 (W64 ((a_0.Parent.length : Int) - 1))).bind fun r5 =>
      bif (!r5) then
        some (.ret false)
      else
        spec_IsWire_L2 a_0 n (W64 (i2 + 1))
    else
      some (.nxt i2)

def spec_IsWire_L1 (a_0 : TWire) : Nat → Int → Option (Flow Bool Int)
  | 0, _ => none
  | n + 1, i1 =>
    bif decide (i1 < (a_0.Parent.length : Int)) then
      (
        (idx a_0.Cap i1).bind fun y5 =>
        (spec_l01In n y5 0 500).bind fun r3 =>
        bif (!r3) then
          some true
        else
          (idx a_0.Res i1).bind fun y6 =>
          (spec_l01In n y6 0 1000).bind fun r4 =>
          some (!r4)).bind fun b2 =>
      bif b2 then
        some (.ret false)
      else
        bif (i1 == 0) then
          (idx a_0.Parent i1).bind fun y1 =>
          bif (y1 != (-1)) then
            some (.ret false)
          else
            (idx a_0.Res i1).bind fun y2 =>
            bif (y2 != 0) then
              some (.ret false)
            else
              bif decide (i1 > 0) then
                (idx a_0.Parent i1).bind fun y3 =>
                (spec_l01In n y3 0 (W64 (i1 - 1))).bind fun r1 =>
                bif (!r1) then
                  some (.ret false)
                else
                  spec_IsWire_L1 a_0 n (W64 (i1 + 1))
              else
                spec_IsWire_L1 a_0 n (W64 (i1 + 1))
        else
          bif decide (i1 > 0) then
            (idx a_0.Parent i1).bind fun y4 =>
            (spec_l01In n y4 0 (W64 (i1 - 1))).bind fun r2 =>
            bif (!r2) then
              some (.ret false)
            else
              spec_IsWire_L1 a_0 n (W64 (i1 + 1))
          else
            spec_IsWire_L1 a_0 n (W64 (i1 + 1))
    else
      some (.nxt i1)

def spec_IsWire (n : Nat) (a_0 : TWire) (a_1 : Int) : Option Bool :=
  (
    bif decide ((a_0.Parent.length : Int) < 1) then
      some true
    else
      bif decide ((a_0.Parent.length : Int) > 8) then
        some true
      else
        bif ((a_0.Res.length : Int) != (a_0.Parent.length : Int)) then
          some true
        else
          bif ((a_0.Cap.length : Int) != (a_0.Parent.length : Int)) then
            some true
          else
            some ((a_0.Sink.length : Int) != a_1)).bind fun b1 =>
  bif b1 then
    some false
  else
    (spec_IsWire_L1 a_0 n 0).bind fun o => match o with
    | .ret r => some r
    | .nxt _ =>
      (spec_IsWire_L2 a_0 n 0).bind fun o => match o with
      | .ret r => some r
      | .nxt _ =>
        some true

theorem spec_IsWire_ok {n : Nat} {w : World} {a_0 : TWire} {a_1 : Int} {cs1 : List Value} (ha1 : GoT.R w (old w) a_0 cs1) {r : Bool} (hF : spec_IsWire n a_0 a_1 = some r) : RetV Tryz.prog 68 [GoT.v TWire cs1, .int .i64 a_1] w r := by
  obtain ⟨p1, k1, p2, k2, p3, k3, p4, k4, rfl, s1, s2, s3, s4⟩ := open_TWire ha1
  refine retV_of_run Tryz.func68 rfl (m := 108) rfl rfl (fun h => ?_)
  rw [spec_IsWire] at hF
  refine r_seq (r_region (r_box h rfl rfl ?_))
  intro w1 bb1 h
  refine rp rfl rfl (r_nil (r_seq (r_region (rp rfl rfl (r_v (v_ld tabOk (h.box 0 rfl) (j := 0) rfl rfl rfl) rfl (rp rfl rfl (rp rfl rfl (r_nil (r_seq (r_seq ?_))))))))))
  obtain ⟨KF2, hKF2, o4, hF, hK4⟩ := bindE hF
  refine r_cut (fun e w' => ∃ (b1 : Bool), KF2 b1 = some r ∧ e = [(2, .pointer (some ⟨bb1, 0, none⟩)), (5, .int .i64 (a_0.Parent.length : Int)), (37, .bool b1)] ∧ SH w w' [Ch.box bb1 [.slice p1 a_0.Parent.length k1, .slice p2 a_0.Res.length k2, .slice p3 a_0.Cap.length k3, .slice p4 a_0.Sink.length k4] 117]) ?_ ?_
  · refine r_region (rp rfl rfl (rp rfl rfl (rp rfl rfl ?_)))
    by_cases hc21 : (decide ((a_0.Parent.length : Int) < 1)) = true
    · replace hF := bifT hc21 hF
      refine r_setT hc21 (t := 13) rfl (r_not rfl rfl rfl (r_not rfl rfl rfl (rp rfl rfl (rp rfl rfl (r_not rfl rfl rfl (r_not rfl rfl rfl (r_not rfl rfl rfl (r_not rfl rfl rfl (r_not rfl rfl rfl (rp rfl rfl (rp rfl rfl ?_)))))))))))
      refine r_not rfl rfl rfl (r_not rfl rfl rfl (r_not rfl rfl rfl (r_not rfl rfl rfl (r_not rfl rfl rfl (rp rfl rfl (rp rfl rfl (r_not rfl rfl rfl (r_not rfl rfl rfl (r_not rfl rfl rfl (r_not rfl rfl rfl (r_not rfl rfl rfl ?_)))))))))))
      refine rp rfl rfl (r_nil ?_)
      obtain rfl := someI hF
      exact r_cutgoal [(2, _), (5, _), (37, _)] ⟨rfl, rfl, rfl, trivial⟩ ⟨_, hK4, rfl, h⟩
    replace hc21 := Bool.eq_false_iff.2 hc21
    replace hF := bifF hc21 hF
    refine r_setF hc21 (t := 13) rfl (r_wanted rfl (rp rfl rfl (r_wanted rfl (rp rfl rfl (rp rfl rfl (rp rfl rfl ?_))))))
    by_cases hc22 : (decide ((a_0.Parent.length : Int) > 8)) = true
    · replace hF := bifT hc22 hF
      refine r_setT hc22 (t := 17) rfl (r_not rfl rfl rfl (r_not rfl rfl rfl (r_not rfl rfl rfl (r_not rfl rfl rfl (r_not rfl rfl rfl (rp rfl rfl (rp rfl rfl (r_not rfl rfl rfl (r_not rfl rfl rfl (r_not rfl rfl rfl (r_not rfl rfl rfl ?_)))))))))))
      refine r_not rfl rfl rfl (rp rfl rfl (rp rfl rfl (r_not rfl rfl rfl (r_not rfl rfl rfl (r_not rfl rfl rfl (r_not rfl rfl rfl (r_not rfl rfl rfl (rp rfl rfl (r_nil ?_)))))))))
      obtain rfl := someI hF
      exact r_cutgoal [(2, _), (5, _), (37, _)] ⟨rfl, rfl, rfl, trivial⟩ ⟨_, hK4, rfl, h⟩
    replace hc22 := Bool.eq_false_iff.2 hc22
    replace hF := bifF hc22 hF
    refine r_setF hc22 (t := 17) rfl (r_wanted rfl (rp rfl rfl (r_wanted rfl (r_v (v_ld tabOk (h.box 0 rfl) (j := 1) rfl rfl rfl) rfl (r_wanted rfl (rp rfl rfl (r_wanted rfl (rp rfl rfl (r_wanted rfl (rp rfl rfl (rp rfl rfl ?_)))))))))))
    refine rp rfl rfl ?_
    by_cases hc23 : ((a_0.Res.length : Int) != (a_0.Parent.length : Int)) = true
    · replace hF := bifT hc23 hF
      refine r_setT hc23 (t := 24) rfl (r_not rfl rfl rfl (r_not rfl rfl rfl (r_not rfl rfl rfl (r_not rfl rfl rfl (r_not rfl rfl rfl (rp rfl rfl (rp rfl rfl (r_not rfl rfl rfl (r_not rfl rfl rfl (r_not rfl rfl rfl (r_not rfl rfl rfl ?_)))))))))))
      refine r_not rfl rfl rfl (rp rfl rfl (r_nil ?_))
      obtain rfl := someI hF
      exact r_cutgoal [(2, _), (5, _), (37, _)] ⟨rfl, rfl, rfl, trivial⟩ ⟨_, hK4, rfl, h⟩
    replace hc23 := Bool.eq_false_iff.2 hc23
    replace hF := bifF hc23 hF
    refine r_setF hc23 (t := 24) rfl (r_wanted rfl (rp rfl rfl (r_wanted rfl (r_v (v_ld tabOk (h.box 0 rfl) (j := 2) rfl rfl rfl) rfl (r_wanted rfl (rp rfl rfl (r_wanted rfl (rp rfl rfl (r_wanted rfl (rp rfl rfl (rp rfl rfl ?_)))))))))))
    refine rp rfl rfl ?_
    by_cases hc24 : ((a_0.Cap.length : Int) != (a_0.Parent.length : Int)) = true
    · replace hF := bifT hc24 hF
      refine r_setT hc24 (t := 31) rfl (r_not rfl rfl rfl (r_not rfl rfl rfl (r_not rfl rfl rfl (r_not rfl rfl rfl (r_not rfl rfl rfl (rp rfl rfl (r_nil ?_)))))))
      obtain rfl := someI hF
      exact r_cutgoal [(2, _), (5, _), (37, _)] ⟨rfl, rfl, rfl, trivial⟩ ⟨_, hK4, rfl, h⟩
    replace hc24 := Bool.eq_false_iff.2 hc24
    replace hF := bifF hc24 hF
    refine r_setF hc24 (t := 31) rfl (r_wanted rfl (rp rfl rfl (r_wanted rfl (r_v (v_ld tabOk (h.box 0 rfl) (j := 3) rfl rfl rfl) rfl (r_wanted rfl (rp rfl rfl (r_wanted rfl (rp rfl rfl (r_wanted rfl (rp rfl rfl (rp rfl rfl ?_)))))))))))
    refine r_nil ?_
    obtain rfl := someI hF
    exact r_cutgoal [(2, _), (5, _), (37, _)] ⟨rfl, rfl, rfl, trivial⟩ ⟨_, hK4, rfl, h⟩
  rintro e4 w10 ⟨b1, hF, rfl, h⟩
  subst hKF2
  refine r_if rfl hF (fun hF => ?_) (fun hF => ?_)
  · exact r_seq (r_region (rp rfl rfl (r_nil (r_rB tabOk h hF ⟨rfl, trivial⟩))))
  refine r_skip (r_seq (r_seq (r_region (rp rfl rfl (r_nil ?_)))))
  obtain ⟨o1, hF, hK1⟩ := bindS hF
  refine r_block (r_sub [(2, _), (5, _), (6, _)] ⟨rfl, rfl, rfl, trivial⟩ ?_)
  refine r_loop (fun m e w' => ∃ (i1 : Int), spec_IsWire_L1 a_0 m i1 = some o1 ∧ e = [(2, .pointer (some ⟨bb1, 0, none⟩)), (5, .int .i64 (a_0.Parent.length : Int)), (6, .int .i64 i1)] ∧ SH w w' [Ch.box bb1 [.slice p1 a_0.Parent.length k1, .slice p2 a_0.Res.length k2, .slice p3 a_0.Cap.length k3, .slice p4 a_0.Sink.length k4] 117]) n ⟨_, hF, rfl, h⟩ ?_
  rintro m1 e1 w2 ⟨i1, hF, rfl, h⟩
  rcases m1 with _ | m1
  · rw [spec_IsWire_L1] at hF
    cases hF
  rw [spec_IsWire_L1] at hF
  refine r_seq (r_seq (r_region (rp rfl rfl (rp rfl rfl (rp rfl rfl (r_nil ?_))))))
  refine r_if rfl hF (fun hF => ?_) (fun hF => ?_)
  · refine r_skip (r_seq (r_block (r_seq (r_seq ?_))))
    obtain ⟨KF1, hKF1, o2, hF, hK2⟩ := bindE hF
    refine r_cut (fun e w' => ∃ (b2 : Bool), KF1 b2 = some o1 ∧ e = [(2, .pointer (some ⟨bb1, 0, none⟩)), (5, .int .i64 (a_0.Parent.length : Int)), (6, .int .i64 i1), (58, .bool b2)] ∧ SH w w' [Ch.box bb1 [.slice p1 a_0.Parent.length k1, .slice p2 a_0.Res.length k2, .slice p3 a_0.Cap.length k3, .slice p4 a_0.Sink.length k4] 117]) ?_ ?_
    · refine r_region (rp rfl rfl (r_v (v_ld tabOk (h.box 0 rfl) (j := 2) rfl rfl rfl) rfl (rp rfl rfl ?_)))
      obtain ⟨y5, hy5, hF⟩ := bindS hF
      have he5 := idx_some hy5
      obtain ⟨b7, o_5, q5, cs6, hp5, hq5, -, hr7, hc15⟩ := s3.at hy5
      obtain rfl := hr7
      refine r_v (v_ix tabOk hp5 hq5 ⟨he5.1, he5.2.1⟩ rfl rfl rfl rfl rfl rfl) rfl (r_v (v_ld tabOk (hc15.below h.below) (j := 0) rfl rfl rfl) rfl ?_)
      obtain ⟨r3, hr8, hF⟩ := bindS hF
      refine r_callB r3 h call35 (spec_l01In_ok hr8) rfl rfl rfl rfl ?_
      intro w5 h
      refine rp rfl rfl (rp rfl rfl ?_)
      by_cases hc16 : (!r3) = true
      · replace hF := bifT hc16 hF
        refine r_setT hc16 (t := 50) rfl (r_not rfl rfl rfl (r_not rfl rfl rfl (r_not rfl rfl rfl (r_not rfl rfl rfl (r_not rfl rfl rfl (r_not rfl rfl rfl (r_not rfl rfl rfl (rp rfl rfl (r_nil ?_)))))))))
        obtain rfl := someI hF
        exact r_cutgoal [(2, _), (5, _), (6, _), (58, _)] ⟨rfl, rfl, rfl, rfl, trivial⟩ ⟨_, hK2, rfl, h⟩
      replace hc16 := Bool.eq_false_iff.2 hc16
      replace hF := bifF hc16 hF
      refine r_setF hc16 (t := 50) rfl (r_wanted rfl (rp rfl rfl (r_wanted rfl (r_v (v_ld tabOk (h.box 0 rfl) (j := 1) rfl rfl rfl) rfl (r_wanted rfl (rp rfl rfl (r_wanted rfl ?_)))))))
      obtain ⟨y6, hy6, hF⟩ := bindS hF
      have he6 := idx_some hy6
      obtain ⟨b8, o_6, q6, cs7, hp6, hq6, -, hr9, hc17⟩ := s2.at hy6
      obtain rfl := hr9
      refine r_v (v_ix tabOk hp6 hq6 ⟨he6.1, he6.2.1⟩ rfl rfl rfl rfl rfl rfl) rfl (r_wanted rfl (r_v (v_ld tabOk (hc17.below h.below) (j := 0) rfl rfl rfl) rfl (r_wanted rfl ?_)))
      obtain ⟨r4, hr10, hF⟩ := bindS hF
      refine r_callB r4 h call35 (spec_l01In_ok hr10) rfl rfl rfl rfl ?_
      intro w6 h
      refine r_wanted rfl (rp rfl rfl (rp rfl rfl (r_nil ?_)))
      obtain rfl := someI hF
      exact r_cutgoal [(2, _), (5, _), (6, _), (58, _)] ⟨rfl, rfl, rfl, rfl, trivial⟩ ⟨_, hK2, rfl, h⟩
    rintro e2 w7 ⟨b2, hF, rfl, h⟩
    subst hKF1
    refine r_if rfl hF (fun hF => ?_) (fun hF => ?_)
    · refine r_seq (r_region (rp rfl rfl (r_nil ?_)))
      obtain rfl := someI hF; replace hF := hK1
      exact r_rB tabOk h hF ⟨rfl, trivial⟩
    refine r_skip (r_seq (r_region (rp rfl rfl (rp rfl rfl (rp rfl rfl ?_)))))
    by_cases hc4 : (i1 == 0) = true
    · replace hF := bifT hc4 hF
      refine r_setT hc4 (t := 61) rfl (r_wanted rfl (rp rfl rfl (r_wanted rfl (r_v (v_ld tabOk (h.box 0 rfl) (j := 0) rfl rfl rfl) rfl (r_wanted rfl (rp rfl rfl (r_wanted rfl ?_)))))))
      obtain ⟨y1, hy1, hF⟩ := bindS hF
      have he1 := idx_some hy1
      obtain ⟨b3, o_1, q1, cs2, hp1, hq1, -, hr1, hc5⟩ := s1.at hy1
      obtain rfl := hr1
      refine r_v (v_ix tabOk hp1 hq1 ⟨he1.1, he1.2.1⟩ rfl rfl rfl rfl rfl rfl) rfl (r_wanted rfl (r_v (v_ld tabOk (hc5.below h.below) (j := 0) rfl rfl rfl) rfl (r_wanted rfl (rp rfl rfl (r_wanted rfl (rp rfl rfl ?_))))))
      by_cases hc6 : (y1 != (-1)) = true
      · replace hF := bifT hc6 hF
        refine r_setT hc6 (t := 68) rfl (r_not rfl rfl rfl (r_not rfl rfl rfl (r_not rfl rfl rfl (r_not rfl rfl rfl (r_not rfl rfl rfl (r_not rfl rfl rfl (r_wanted rfl (rp rfl rfl (rp rfl rfl (rp rfl rfl (r_not rfl rfl rfl ?_)))))))))))
        refine r_not rfl rfl rfl (r_not rfl rfl rfl (r_not rfl rfl rfl (r_not rfl rfl rfl (r_not rfl rfl rfl (r_not rfl rfl rfl (r_not rfl rfl rfl (r_not rfl rfl rfl (r_not rfl rfl rfl (r_not rfl rfl rfl (r_not rfl rfl rfl (r_not rfl rfl rfl ?_)))))))))))
        refine rp rfl rfl (r_nil (r_condT rfl rfl (r_seq (r_region (rp rfl rfl (r_nil ?_))))))
        obtain rfl := someI hF; replace hF := hK1
        exact r_rB tabOk h hF ⟨rfl, trivial⟩
      replace hc6 := Bool.eq_false_iff.2 hc6
      replace hF := bifF hc6 hF
      refine r_setF hc6 (t := 68) rfl (r_wanted rfl (rp rfl rfl (r_wanted rfl (r_v (v_ld tabOk (h.box 0 rfl) (j := 1) rfl rfl rfl) rfl (r_wanted rfl (rp rfl rfl (r_wanted rfl ?_)))))))
      obtain ⟨y2, hy2, hF⟩ := bindS hF
      have he2 := idx_some hy2
      obtain ⟨b4, o_2, q2, cs3, hp2, hq2, -, hr2, hc7⟩ := s2.at hy2
      obtain rfl := hr2
      refine r_v (v_ix tabOk hp2 hq2 ⟨he2.1, he2.2.1⟩ rfl rfl rfl rfl rfl rfl) rfl (r_wanted rfl (r_v (v_ld tabOk (hc7.below h.below) (j := 0) rfl rfl rfl) rfl (r_wanted rfl (rp rfl rfl (r_wanted rfl (rp rfl rfl (rp rfl rfl (rp rfl rfl ?_))))))))
      by_cases hc8 : (y2 != 0) = true
      · replace hF := bifT hc8 hF
        refine r_setT hc8 (t := 77) rfl (r_not rfl rfl rfl (r_not rfl rfl rfl (r_not rfl rfl rfl (r_not rfl rfl rfl (r_not rfl rfl rfl (r_not rfl rfl rfl (r_not rfl rfl rfl (r_not rfl rfl rfl (r_not rfl rfl rfl (r_not rfl rfl rfl (r_not rfl rfl rfl ?_)))))))))))
        refine r_not rfl rfl rfl (r_not rfl rfl rfl (rp rfl rfl (r_nil (r_condT rfl rfl (r_seq (r_region (rp rfl rfl (r_nil ?_))))))))
        obtain rfl := someI hF; replace hF := hK1
        exact r_rB tabOk h hF ⟨rfl, trivial⟩
      replace hc8 := Bool.eq_false_iff.2 hc8
      replace hF := bifF hc8 hF
      refine r_setF hc8 (t := 77) rfl (r_wanted rfl (rp rfl rfl (r_wanted rfl (rp rfl rfl (r_wanted rfl (rp rfl rfl ?_))))))
      by_cases hc9 : (decide (i1 > 0)) = true
      · replace hF := bifT hc9 hF
        refine r_setT hc9 (t := 80) rfl (r_wanted rfl (rp rfl rfl (r_wanted rfl (r_v (v_ld tabOk (h.box 0 rfl) (j := 0) rfl rfl rfl) rfl (r_wanted rfl (rp rfl rfl (r_wanted rfl ?_)))))))
        obtain ⟨y3, hy3, hF⟩ := bindS hF
        have he3 := idx_some hy3
        obtain ⟨b5, o_3, q3, cs4, hp3, hq3, -, hr3, hc10⟩ := s1.at hy3
        obtain rfl := hr3
        refine r_v (v_ix tabOk hp3 hq3 ⟨he3.1, he3.2.1⟩ rfl rfl rfl rfl rfl rfl) rfl (r_wanted rfl (r_v (v_ld tabOk (hc10.below h.below) (j := 0) rfl rfl rfl) rfl (r_wanted rfl (rp rfl rfl (r_wanted rfl (rp rfl rfl (r_wanted rfl ?_)))))))
        obtain ⟨r1, hr4, hF⟩ := bindS hF
        refine r_callB r1 h call35 (spec_l01In_ok hr4) rfl rfl rfl rfl ?_
        intro w3 h
        refine r_wanted rfl (rp rfl rfl (r_wanted rfl (rp rfl rfl (rp rfl rfl (r_nil ?_)))))
        refine r_if rfl hF (fun hF => ?_) (fun hF => ?_)
        · refine r_seq (r_region (rp rfl rfl (r_nil ?_)))
          obtain rfl := someI hF; replace hF := hK1
          exact r_rB tabOk h hF ⟨rfl, trivial⟩
        exact r_skip (r_blk (r_region (rp rfl rfl (rp rfl rfl (rp rfl rfl (r_nil (r_back m1 [(2, _), (5, _), (6, _)] (Nat.lt_succ_self m1) ⟨rfl, rfl, rfl, trivial⟩ ⟨_, hF, rfl, h⟩)))))))
      replace hc9 := Bool.eq_false_iff.2 hc9
      replace hF := bifF hc9 hF
      refine r_setF hc9 (t := 80) rfl (r_not rfl rfl rfl (r_not rfl rfl rfl (r_not rfl rfl rfl (r_not rfl rfl rfl (r_not rfl rfl rfl (r_not rfl rfl rfl (r_not rfl rfl rfl (r_not rfl rfl rfl (r_not rfl rfl rfl (r_wanted rfl (rp rfl rfl ?_)))))))))))
      exact rp rfl rfl (r_nil (r_condF rfl rfl (r_skip (r_blk (r_region (rp rfl rfl (rp rfl rfl (rp rfl rfl (r_nil (r_back m1 [(2, _), (5, _), (6, _)] (Nat.lt_succ_self m1) ⟨rfl, rfl, rfl, trivial⟩ ⟨_, hF, rfl, h⟩))))))))))
    replace hc4 := Bool.eq_false_iff.2 hc4
    replace hF := bifF hc4 hF
    refine r_setF hc4 (t := 61) rfl (r_not rfl rfl rfl (r_not rfl rfl rfl (r_not rfl rfl rfl (r_not rfl rfl rfl (r_not rfl rfl rfl (r_not rfl rfl rfl (r_not rfl rfl rfl (r_not rfl rfl rfl (r_not rfl rfl rfl (r_not rfl rfl rfl (r_not rfl rfl rfl ?_)))))))))))
    refine r_not rfl rfl rfl (r_not rfl rfl rfl (r_not rfl rfl rfl (rp rfl rfl (rp rfl rfl (r_wanted rfl (rp rfl rfl (r_wanted rfl (rp rfl rfl (r_wanted rfl (rp rfl rfl ?_))))))))))
    by_cases hc12 : (decide (i1 > 0)) = true
    · replace hF := bifT hc12 hF
      refine r_setT hc12 (t := 80) rfl (r_wanted rfl (rp rfl rfl (r_wanted rfl (r_v (v_ld tabOk (h.box 0 rfl) (j := 0) rfl rfl rfl) rfl (r_wanted rfl (rp rfl rfl (r_wanted rfl ?_)))))))
      obtain ⟨y4, hy4, hF⟩ := bindS hF
      have he4 := idx_some hy4
      obtain ⟨b6, o_4, q4, cs5, hp4, hq4, -, hr5, hc13⟩ := s1.at hy4
      obtain rfl := hr5
      refine r_v (v_ix tabOk hp4 hq4 ⟨he4.1, he4.2.1⟩ rfl rfl rfl rfl rfl rfl) rfl (r_wanted rfl (r_v (v_ld tabOk (hc13.below h.below) (j := 0) rfl rfl rfl) rfl (r_wanted rfl (rp rfl rfl (r_wanted rfl (rp rfl rfl (r_wanted rfl ?_)))))))
      obtain ⟨r2, hr6, hF⟩ := bindS hF
      refine r_callB r2 h call35 (spec_l01In_ok hr6) rfl rfl rfl rfl ?_
      intro w4 h
      refine r_wanted rfl (rp rfl rfl (r_wanted rfl (rp rfl rfl (rp rfl rfl (r_nil ?_)))))
      refine r_if rfl hF (fun hF => ?_) (fun hF => ?_)
      · refine r_seq (r_region (rp rfl rfl (r_nil ?_)))
        obtain rfl := someI hF; replace hF := hK1
        exact r_rB tabOk h hF ⟨rfl, trivial⟩
      exact r_skip (r_blk (r_region (rp rfl rfl (rp rfl rfl (rp rfl rfl (r_nil (r_back m1 [(2, _), (5, _), (6, _)] (Nat.lt_succ_self m1) ⟨rfl, rfl, rfl, trivial⟩ ⟨_, hF, rfl, h⟩)))))))
    replace hc12 := Bool.eq_false_iff.2 hc12
    replace hF := bifF hc12 hF
    refine r_setF hc12 (t := 80) rfl (r_not rfl rfl rfl (r_not rfl rfl rfl (r_not rfl rfl rfl (r_not rfl rfl rfl (r_not rfl rfl rfl (r_not rfl rfl rfl (r_not rfl rfl rfl (r_not rfl rfl rfl (r_not rfl rfl rfl (r_wanted rfl (rp rfl rfl ?_)))))))))))
    exact rp rfl rfl (r_nil (r_condF rfl rfl (r_skip (r_blk (r_region (rp rfl rfl (rp rfl rfl (rp rfl rfl (r_nil (r_back m1 [(2, _), (5, _), (6, _)] (Nat.lt_succ_self m1) ⟨rfl, rfl, rfl, trivial⟩ ⟨_, hF, rfl, h⟩))))))))))
  refine r_exit rfl ?_
  obtain rfl := someI hF; replace hF := hK1
  refine r_seq (r_seq (r_region (rp rfl rfl (r_nil ?_))))
  obtain ⟨o3, hF, hK3⟩ := bindS hF
  refine r_block (r_sub [(2, _), (5, _), (7, _)] ⟨rfl, rfl, rfl, trivial⟩ ?_)
  refine r_loop (fun m e w' => ∃ (i2 : Int), spec_IsWire_L2 a_0 m i2 = some o3 ∧ e = [(2, .pointer (some ⟨bb1, 0, none⟩)), (5, .int .i64 (a_0.Parent.length : Int)), (7, .int .i64 i2)] ∧ SH w w' [Ch.box bb1 [.slice p1 a_0.Parent.length k1, .slice p2 a_0.Res.length k2, .slice p3 a_0.Cap.length k3, .slice p4 a_0.Sink.length k4] 117]) n ⟨_, hF, rfl, h⟩ ?_
  rintro m2 e3 w8 ⟨i2, hF, rfl, h⟩
  rcases m2 with _ | m2
  · rw [spec_IsWire_L2] at hF
    cases hF
  rw [spec_IsWire_L2] at hF
  refine r_seq (r_seq (r_region (rp rfl rfl (rp rfl rfl (r_v (v_ld tabOk (h.box 0 rfl) (j := 3) rfl rfl rfl) rfl (rp rfl rfl (rp rfl rfl (r_nil ?_))))))))
  refine r_if rfl hF (fun hF => ?_) (fun hF => ?_)
  · refine r_skip (r_seq (r_block (r_seq (r_region (rp rfl rfl (r_v (v_ld tabOk (h.box 0 rfl) (j := 3) rfl rfl rfl) rfl (rp rfl rfl ?_)))))))
    obtain ⟨y7, hy7, hF⟩ := bindS hF
    have he7 := idx_some hy7
    obtain ⟨b9, o_7, q7, cs8, hp7, hq7, -, hr11, hc19⟩ := s4.at hy7
    obtain rfl := hr11
    refine r_v (v_ix tabOk hp7 hq7 ⟨he7.1, he7.2.1⟩ rfl rfl rfl rfl rfl rfl) rfl (r_v (v_ld tabOk (hc19.below h.below) (j := 0) rfl rfl rfl) rfl (rp rfl rfl (rp rfl rfl ?_)))
    obtain ⟨r5, hr12, hF⟩ := bindS hF
    refine r_callB r5 h call35 (spec_l01In_ok hr12) rfl rfl rfl rfl ?_
    intro w9 h
    refine rp rfl rfl (r_nil ?_)
    refine r_if rfl hF (fun hF => ?_) (fun hF => ?_)
    · refine r_seq (r_region (rp rfl rfl (r_nil ?_)))
      obtain rfl := someI hF; replace hF := hK3
      exact r_rB tabOk h hF ⟨rfl, trivial⟩
    exact r_skip (r_blk (r_region (rp rfl rfl (rp rfl rfl (rp rfl rfl (r_nil (r_back m2 [(2, _), (5, _), (7, _)] (Nat.lt_succ_self m2) ⟨rfl, rfl, rfl, trivial⟩ ⟨_, hF, rfl, h⟩)))))))
  refine r_exit rfl ?_
  obtain rfl := someI hF; replace hF := hK3
  exact r_seq (r_region (rp rfl rfl (r_nil (r_rB tabOk h hF ⟨rfl, trivial⟩))))

def spec_l05Places_L2 (i1 : Int) (y1 : TInstance) : Nat → (List Tl05Place) → Int → Option ((List Tl05Place) × Int)
  | 0, _, _ => none
  | n + 1, x2, i2 =>
    bif decide (i2 < (y1.Nets.length : Int)) then
      (idx y1.Nets i2).bind fun y2 =>
      (appS x2 ([(⟨i1, i2, y2, (i2 == (W64 ((y1.Nets.length : Int) - 1)))⟩ : Tl05Place)] : List Tl05Place)).bind fun x3 =>
      spec_l05Places_L2 i1 y1 n x3 (W64 (i2 + 1))
    else
      some (x2, i2)

def spec_l05Places_L3 (a_0 : TDesign) : Nat → (List Tl05Place) → Int → Option ((List Tl05Place) × Int)
  | 0, _, _ => none
  | n + 1, x4, i3 =>
    bif decide (i3 < (a_0.Ports.length : Int)) then
      (idx a_0.Ports i3).bind fun y3 =>
      (idx a_0.Ports i3).bind fun y4 =>
      (appS x4 ([(⟨(-1), i3, y3.Net, (y4.Dir == 1)⟩ : Tl05Place)] : List Tl05Place)).bind fun x5 =>
      spec_l05Places_L3 a_0 n x5 (W64 (i3 + 1))
    else
      some (x4, i3)

def spec_l05Places_L1 (a_0 : TDesign) : Nat → (List Tl05Place) → Int → Option ((List Tl05Place) × Int)
  | 0, _, _ => none
  | n + 1, x1, i1 =>
    bif decide (i1 < (a_0.Instances.length : Int)) then
      (idx a_0.Instances i1).bind fun y1 =>
      (spec_l05Places_L2 i1 y1 n x1 0).bind fun o => match o with
      | (x2, _) =>
        spec_l05Places_L1 a_0 n x2 (W64 (i1 + 1))
    else
      some (x1, i1)

def spec_l05Places (n : Nat) (a_0 : TDesign) : Option (List Tl05Place) :=
  (spec_l05Places_L1 a_0 n ([] : List Tl05Place) 0).bind fun o => match o with
  | (x1, _) =>
    (spec_l05Places_L3 a_0 n x1 0).bind fun o => match o with
    | (x4, _) =>
      some x4

theorem spec_l05Places_ok {n : Nat} {w : World} {a_0 : TDesign} {cs1 : List Value} (ha1 : GoT.R w (old w) a_0 cs1) {r : (List Tl05Place)} (hF : spec_l05Places n a_0 = some r) : RetV Tryz.prog 93 [GoT.v TDesign cs1] w r := by
  obtain ⟨p1, k1, p2, k2, p3, k3, rfl, s1, s2, s3⟩ := open_TDesign ha1
  refine retV_of_run Tryz.func93 rfl (m := 69) rfl rfl (fun h => ?_)
  rw [spec_l05Places] at hF
  refine r_seq (r_region (r_box h rfl rfl ?_))
  intro w1 bb1 h
  refine rp rfl rfl (r_nil (r_seq (r_region (r_bslice tabOk [] _ ([] : List Tl05Place) h rfl rfl rfl rfl rfl rfl rfl rfl rfl trivial rfl ?_))))
  intro w2 p4 S1 h
  refine rp rfl rfl (r_nil (r_seq (r_seq (r_region (rp rfl rfl (r_nil ?_))))))
  obtain ⟨o1, hF, hK1⟩ := bindS hF
  refine r_block (r_sub [(1, _), (3, _), (4, _)] ⟨rfl, rfl, rfl, trivial⟩ ?_)
  refine r_loop (fun m e w' => ∃ (S2 : Nat → Prop) (p5 : Option Addr) (ln1 : Nat) (k4 : Nat) (x1 : (List Tl05Place)) (i1 : Int), spec_l05Places_L1 a_0 m x1 i1 = some o1 ∧ e = [(1, .pointer (some ⟨bb1, 0, none⟩)), (3, .slice p5 ln1 k4), (4, .int .i64 i1)] ∧ SH w w' [Ch.own S2 (x1 : List Tl05Place) [.slice p5 ln1 k4], Ch.box bb1 [.slice p1 a_0.Instances.length k1, .slice p2 a_0.Nets.length k2, .slice p3 a_0.Ports.length k3] 45]) n ⟨_, _, _, _, _, _, hF, rfl, h⟩ ?_
  rintro m1 e1 w3 ⟨S2, p5, ln1, k4, x1, i1, hF, rfl, h⟩
  obtain rfl := (h.sl 0 rfl).2
  rcases m1 with _ | m1
  · rw [spec_l05Places_L1] at hF
    cases hF
  rw [spec_l05Places_L1] at hF
  refine r_seq (r_seq (r_region (rp rfl rfl (rp rfl rfl (r_v (v_ld tabOk (h.box 1 rfl) (j := 0) rfl rfl rfl) rfl (rp rfl rfl (rp rfl rfl (r_nil ?_))))))))
  refine r_if rfl hF (fun hF => ?_) (fun hF => ?_)
  · refine r_skip (r_seq (r_block (r_seq (r_region (rp rfl rfl (r_v (v_ld tabOk (h.box 1 rfl) (j := 0) rfl rfl rfl) rfl (rp rfl rfl ?_)))))))
    obtain ⟨y1, hy1, hF⟩ := bindS hF
    have he1 := idx_some hy1
    obtain ⟨b1, o_1, q1, cs2, hp1, hq1, -, hr1, hc2⟩ := s1.at hy1
    obtain ⟨p6, k5, rfl, s4⟩ := open_TInstance hr1
    refine r_v (v_ix tabOk hp1 hq1 ⟨he1.1, he1.2.1⟩ rfl rfl rfl rfl rfl rfl) rfl (rp rfl rfl (r_v (v_ld tabOk (hc2.below h.below) (j := 2) rfl rfl rfl) rfl (rp rfl rfl (r_nil (r_seq (r_region (rp rfl rfl (r_nil ?_))))))))
    obtain ⟨o2, hF, hK2⟩ := bindS hF
    refine r_block (r_sub [(1, _), (3, _), (4, _), (5, _), (6, _)] ⟨rfl, rfl, rfl, rfl, rfl, trivial⟩ ?_)
    refine r_loop (fun m e w' => ∃ (S3 : Nat → Prop) (p7 : Option Addr) (ln2 : Nat) (k6 : Nat) (x2 : (List Tl05Place)) (i2 : Int), spec_l05Places_L2 i1 y1 m x2 i2 = some o2 ∧ e = [(1, .pointer (some ⟨bb1, 0, none⟩)), (3, .slice p7 ln2 k6), (4, .int .i64 i1), (5, .slice p6 y1.Nets.length k5), (6, .int .i64 i2)] ∧ SH w w' [Ch.own S3 (x2 : List Tl05Place) [.slice p7 ln2 k6], Ch.box bb1 [.slice p1 a_0.Instances.length k1, .slice p2 a_0.Nets.length k2, .slice p3 a_0.Ports.length k3] 45]) m1 ⟨_, _, _, _, _, _, hF, rfl, h⟩ ?_
    rintro m2 e2 w4 ⟨S3, p7, ln2, k6, x2, i2, hF, rfl, h⟩
    obtain rfl := (h.sl 0 rfl).2
    rcases m2 with _ | m2
    · rw [spec_l05Places_L2] at hF
      cases hF
    rw [spec_l05Places_L2] at hF
    refine r_seq (r_seq (r_region (rp rfl rfl (rp rfl rfl (rp rfl rfl (rp rfl rfl (r_nil ?_)))))))
    refine r_if rfl hF (fun hF => ?_) (fun hF => ?_)
    · refine r_skip (r_seq (r_block (r_region (rp rfl rfl (rp rfl rfl (rp rfl rfl (rp rfl rfl (rp rfl rfl ?_))))))))
      obtain ⟨y2, hy2, hF⟩ := bindS hF
      have he2 := idx_some hy2
      obtain ⟨b2, o_2, q2, cs3, hp2, hq2, -, hr2, hc4⟩ := s4.at hy2
      obtain rfl := hr2
      refine r_v (v_ix tabOk hp2 hq2 ⟨he2.1, he2.2.1⟩ rfl rfl rfl rfl rfl rfl) rfl (r_v (v_ld tabOk (hc4.below h.below) (j := 0) rfl rfl rfl) rfl (rp rfl rfl (rp rfl rfl (rp rfl rfl (rp rfl rfl (rp rfl rfl (r_v (v_build tabOk [0, 1, 2, 3] [.tmp 29, .tmp 30, .tmp 34, .tmp 39] rfl rfl rfl rfl rfl rfl rfl rfl) rfl (r_bslice tabOk [.tmp 40] _ ([(⟨i1, i2, y2, (i2 == (W64 ((y1.Nets.length : Int) - 1)))⟩ : Tl05Place)] : List Tl05Place) h rfl rfl rfl rfl rfl rfl rfl rfl rfl ⟨(mkR_Tl05Place (⟨i1, i2, y2, (i2 == (W64 ((y1.Nets.length : Int) - 1)))⟩ : Tl05Place)), trivial⟩ rfl ?_))))))))
      intro w5 p8 S4 h
      obtain ⟨x3, hx1, hF⟩ := bindS hF
      obtain ⟨g1, hx1⟩ := appS_some hx1
      refine r_appE tabOk 1 h rfl (h.sl 0 rfl).1 (h.sl 0 rfl).2 rfl rfl rfl rfl rfl rfl rfl rfl rfl g1 hx1 rfl ?_
      intro w6 p9 k7 S5 h
      refine rp rfl rfl (r_nil (r_blk (r_region (rp rfl rfl (rp rfl rfl (rp rfl rfl (r_nil ?_)))))))
      replace h := h.pick [1, 2] rfl
      exact r_back m2 [(1, _), (3, _), (4, _), (5, _), (6, _)] (Nat.lt_succ_self m2) ⟨rfl, rfl, rfl, rfl, rfl, trivial⟩ ⟨_, _, _, _, _, _, hF, rfl, h⟩
    refine r_exit rfl ?_
    obtain rfl := someI hF; replace hF := hK2
    exact r_blk (r_region (rp rfl rfl (rp rfl rfl (rp rfl rfl (r_nil (r_back m1 [(1, _), (3, _), (4, _)] (Nat.lt_succ_self m1) ⟨rfl, rfl, rfl, trivial⟩ ⟨_, _, _, _, _, _, hF, rfl, h⟩))))))
  refine r_exit rfl ?_
  obtain rfl := someI hF; replace hF := hK1
  refine r_seq (r_seq (r_region (rp rfl rfl (r_nil ?_))))
  obtain ⟨o3, hF, hK3⟩ := bindS hF
  refine r_block (r_sub [(1, _), (3, _), (7, _)] ⟨rfl, rfl, rfl, trivial⟩ ?_)
  refine r_loop (fun m e w' => ∃ (S6 : Nat → Prop) (p10 : Option Addr) (ln3 : Nat) (k8 : Nat) (x4 : (List Tl05Place)) (i3 : Int), spec_l05Places_L3 a_0 m x4 i3 = some o3 ∧ e = [(1, .pointer (some ⟨bb1, 0, none⟩)), (3, .slice p10 ln3 k8), (7, .int .i64 i3)] ∧ SH w w' [Ch.own S6 (x4 : List Tl05Place) [.slice p10 ln3 k8], Ch.box bb1 [.slice p1 a_0.Instances.length k1, .slice p2 a_0.Nets.length k2, .slice p3 a_0.Ports.length k3] 45]) n ⟨_, _, _, _, _, _, hF, rfl, h⟩ ?_
  rintro m3 e3 w7 ⟨S6, p10, ln3, k8, x4, i3, hF, rfl, h⟩
  obtain rfl := (h.sl 0 rfl).2
  rcases m3 with _ | m3
  · rw [spec_l05Places_L3] at hF
    cases hF
  rw [spec_l05Places_L3] at hF
  refine r_seq (r_seq (r_region (rp rfl rfl (rp rfl rfl (r_v (v_ld tabOk (h.box 1 rfl) (j := 2) rfl rfl rfl) rfl (rp rfl rfl (rp rfl rfl (r_nil ?_))))))))
  refine r_if rfl hF (fun hF => ?_) (fun hF => ?_)
  · refine r_skip (r_seq (r_block ?_))
    refine r_any [] (fun w' => SH w w' [Ch.box bb1 [.slice p1 a_0.Instances.length k1, .slice p2 a_0.Nets.length k2, .slice p3 a_0.Ports.length k3] 45]) rfl 19 rfl #[ff, ff, ff, ff, ff, ff, ff, ff, ff, ff, ff, ff, ff, ff, ff, ff, ff, ff, ff] (by kernel_rfl) (fun w8 hb => ?_)
    replace h := h.ext hb
    clear hb
    refine a_take 0 rfl #[tt, ff, ff, ff, ff, ff, ff, ff, ff, ff, ff, ff, ff, ff, ff, ff, ff, ff, ff] (by kernel_rfl) (by kernel_rfl) (fun w' hw => v_p tabOk rfl w') (h.pick [1] rfl) rfl ?_
    refine a_take 1 rfl #[tt, tt, ff, ff, ff, ff, ff, ff, ff, ff, ff, ff, ff, ff, ff, ff, ff, ff, ff] (by kernel_rfl) (by kernel_rfl) (fun w' hw => v_p tabOk rfl w') (h.pick [1] rfl) rfl ?_
    refine a_take 2 rfl #[tt, tt, tt, ff, ff, ff, ff, ff, ff, ff, ff, ff, ff, ff, ff, ff, ff, ff, ff] (by kernel_rfl) (by kernel_rfl) (fun w' hw => v_p tabOk rfl w') (h.pick [1] rfl) rfl ?_
    refine a_take 3 rfl #[tt, tt, tt, tt, ff, ff, ff, ff, ff, ff, ff, ff, ff, ff, ff, ff, ff, ff, ff] (by kernel_rfl) (by kernel_rfl) (fun w' hw => v_ld tabOk (hw.box 0 rfl) (j := 2) rfl rfl rfl) (h.pick [1] rfl) rfl ?_
    refine a_take 4 rfl #[tt, tt, tt, tt, tt, ff, ff, ff, ff, ff, ff, ff, ff, ff, ff, ff, ff, ff, ff] (by kernel_rfl) (by kernel_rfl) (fun w' hw => v_p tabOk rfl w') (h.pick [1] rfl) rfl ?_
    obtain ⟨y3, hy3, hF⟩ := bindS hF
    have he3 := idx_some hy3
    obtain ⟨b3, o_3, q3, cs4, hp3, hq3, -, hr3, hc6⟩ := s3.at hy3
    obtain rfl := open_TPort hr3
    refine a_take 5 rfl #[tt, tt, tt, tt, tt, tt, ff, ff, ff, ff, ff, ff, ff, ff, ff, ff, ff, ff, ff] (by kernel_rfl) (by kernel_rfl) (fun w' hw => v_ix tabOk hp3 hq3 ⟨he3.1, he3.2.1⟩ rfl rfl rfl rfl rfl rfl) (h.pick [1] rfl) rfl ?_
    refine a_take 6 rfl #[tt, tt, tt, tt, tt, tt, tt, ff, ff, ff, ff, ff, ff, ff, ff, ff, ff, ff, ff] (by kernel_rfl) (by kernel_rfl) (fun w' hw => v_p tabOk rfl w') (h.pick [1] rfl) rfl ?_
    refine a_take 7 rfl #[tt, tt, tt, tt, tt, tt, tt, tt, ff, ff, ff, ff, ff, ff, ff, ff, ff, ff, ff] (by kernel_rfl) (by kernel_rfl) (fun w' hw => v_ld tabOk (hc6.below hw.below) (j := 2) rfl rfl rfl) (h.pick [1] rfl) rfl ?_
    refine a_take 8 rfl #[tt, tt, tt, tt, tt, tt, tt, tt, tt, ff, ff, ff, ff, ff, ff, ff, ff, ff, ff] (by kernel_rfl) (by kernel_rfl) (fun w' hw => v_p tabOk rfl w') (h.pick [1] rfl) rfl ?_
    refine a_take 9 rfl #[tt, tt, tt, tt, tt, tt, tt, tt, tt, tt, ff, ff, ff, ff, ff, ff, ff, ff, ff] (by kernel_rfl) (by kernel_rfl) (fun w' hw => v_ld tabOk (hw.box 0 rfl) (j := 2) rfl rfl rfl) (h.pick [1] rfl) rfl ?_
    refine a_take 10 rfl #[tt, tt, tt, tt, tt, tt, tt, tt, tt, tt, tt, ff, ff, ff, ff, ff, ff, ff, ff] (by kernel_rfl) (by kernel_rfl) (fun w' hw => v_p tabOk rfl w') (h.pick [1] rfl) rfl ?_
    obtain ⟨y4, hy4, hF⟩ := bindS hF
    have he4 := idx_some hy4
    obtain ⟨b4, o_4, q4, cs5, hp4, hq4, -, hr4, hc7⟩ := s3.at hy4
    obtain rfl := open_TPort hr4
    refine a_take 11 rfl #[tt, tt, tt, tt, tt, tt, tt, tt, tt, tt, tt, tt, ff, ff, ff, ff, ff, ff, ff] (by kernel_rfl) (by kernel_rfl) (fun w' hw => v_ix tabOk hp4 hq4 ⟨he4.1, he4.2.1⟩ rfl rfl rfl rfl rfl rfl) (h.pick [1] rfl) rfl ?_
    refine a_take 12 rfl #[tt, tt, tt, tt, tt, tt, tt, tt, tt, tt, tt, tt, tt, ff, ff, ff, ff, ff, ff] (by kernel_rfl) (by kernel_rfl) (fun w' hw => v_p tabOk rfl w') (h.pick [1] rfl) rfl ?_
    refine a_take 13 rfl #[tt, tt, tt, tt, tt, tt, tt, tt, tt, tt, tt, tt, tt, tt, ff, ff, ff, ff, ff] (by kernel_rfl) (by kernel_rfl) (fun w' hw => v_ld tabOk (hc7.below hw.below) (j := 1) rfl rfl rfl) (h.pick [1] rfl) rfl ?_
    refine a_take 14 rfl #[tt, tt, tt, tt, tt, tt, tt, tt, tt, tt, tt, tt, tt, tt, tt, ff, ff, ff, ff] (by kernel_rfl) (by kernel_rfl) (fun w' hw => v_p tabOk rfl w') (h.pick [1] rfl) rfl ?_
    refine a_take 15 rfl #[tt, tt, tt, tt, tt, tt, tt, tt, tt, tt, tt, tt, tt, tt, tt, tt, ff, ff, ff] (by kernel_rfl) (by kernel_rfl) (fun w' hw => v_build tabOk [0, 1, 2, 3] [.const (.int .i64 (-1)), .tmp 51, .tmp 57, .tmp 64] rfl rfl rfl rfl rfl rfl rfl rfl) (h.pick [1] rfl) rfl ?_
    refine a_only 16 rfl #[tt, tt, tt, tt, tt, tt, tt, tt, tt, tt, tt, tt, tt, tt, tt, tt, tt, ff, ff] (by kernel_rfl) (by kernel_rfl) ?_
    refine r_bslice tabOk [.tmp 65] _ ([(⟨(-1), i3, y3.Net, (y4.Dir == 1)⟩ : Tl05Place)] : List Tl05Place) h rfl rfl rfl rfl rfl rfl rfl rfl rfl ⟨(mkR_Tl05Place (⟨(-1), i3, y3.Net, (y4.Dir == 1)⟩ : Tl05Place)), trivial⟩ rfl ?_
    intro w9 p11 S7 h
    refine a_goal (fun _ => (h.pick [2] rfl)) ?_
    refine a_only 17 rfl #[tt, tt, tt, tt, tt, tt, tt, tt, tt, tt, tt, tt, tt, tt, tt, tt, tt, tt, ff] (by kernel_rfl) (by kernel_rfl) ?_
    obtain ⟨x5, hx2, hF⟩ := bindS hF
    obtain ⟨g2, hx2⟩ := appS_some hx2
    refine r_appE tabOk 1 h rfl (h.sl 0 rfl).1 (h.sl 0 rfl).2 rfl rfl rfl rfl rfl rfl rfl rfl rfl g2 hx2 rfl ?_
    intro w10 p12 k9 S8 h
    refine a_goal (fun _ => (h.pick [2] rfl)) ?_
    refine a_take 18 rfl #[tt, tt, tt, tt, tt, tt, tt, tt, tt, tt, tt, tt, tt, tt, tt, tt, tt, tt, tt] (by kernel_rfl) (by kernel_rfl) (fun w' hw => v_p tabOk rfl w') (h.pick [2] rfl) rfl ?_
    refine a_done (by kernel_rfl) ?_
    refine r_blk (r_region (rp rfl rfl (rp rfl rfl (rp rfl rfl (r_nil ?_)))))
    replace h := h.pick [1, 2] rfl
    exact r_back m3 [(1, _), (3, _), (7, _)] (Nat.lt_succ_self m3) ⟨rfl, rfl, rfl, trivial⟩ ⟨_, _, _, _, _, _, hF, rfl, h⟩
  refine r_exit rfl ?_
  obtain rfl := someI hF; replace hF := hK3
  refine r_seq (r_region (rp rfl rfl (rp rfl rfl (r_nil ?_))))
  obtain rfl := someI hF
  exact r_retV tabOk (ρ := (List Tl05Place)) [GoT.v (List Tl05Place) [.slice p10 x4.length k8]] h ⟨rfl, trivial⟩ (PV.done h (pv_one (po_own 0 h rfl)))

def spec_l05Sinks_L1 (net : Int) (r1 : (List Tl05Place)) : Nat → (List Int) → Int → Option ((List Int) × Int)
  | 0, _, _ => none
  | n + 1, x1, i1 =>
    bif decide (i1 < (r1.length : Int)) then
      (
        (idx r1 i1).bind fun y1 =>
        bif (y1.net == net) then
          (idx r1 i1).bind fun y2 =>
          some (!y2.drives)
        else
          some false).bind fun b1 =>
      bif b1 then
        (appS x1 ([i1] : List Int)).bind fun x2 =>
        spec_l05Sinks_L1 net r1 n x2 (W64 (i1 + 1))
      else
        spec_l05Sinks_L1 net r1 n x1 (W64 (i1 + 1))
    else
      some (x1, i1)

def spec_l05Sinks (n : Nat) (d : TDesign) (net : Int) : Option (List Int) :=
  (spec_l05Places n d).bind fun r1 =>
  (spec_l05Sinks_L1 net r1 n ([] : List Int) 0).bind fun o => match o with
  | (x1, _) =>
    some x1

theorem spec_l05Sinks_ok {n : Nat} {w : World} {d : TDesign} {net : Int} {cs1 : List Value} (ha1 : GoT.R w (old w) d cs1) {r : (List Int)} (hF : spec_l05Sinks n d net = some r) : RetV Tryz.prog 69 [GoT.v TDesign cs1, .int .i64 net] w r := by
  obtain ⟨p1, k1, p2, k2, p3, k3, rfl, s1, s2, s3⟩ := open_TDesign ha1
  refine retV_of_run Tryz.func69 rfl (m := 37) rfl rfl (fun h => ?_)
  rw [spec_l05Sinks] at hF
  refine r_seq (r_region (r_box h rfl rfl ?_))
  intro w1 bb1 h
  refine rp rfl rfl (r_nil (r_seq (r_region (r_bslice tabOk [] _ ([] : List Int) h rfl rfl rfl rfl rfl rfl rfl rfl rfl trivial rfl ?_))))
  intro w2 p4 S1 h
  refine rp rfl rfl (r_nil (r_seq (r_region (r_v (v_ld tabOk (h.box 1 rfl) (j := 0) rfl rfl rfl) rfl ?_))))
  obtain ⟨r1, hr1, hF⟩ := bindS hF
  refine r_callL r1 h call93 (spec_l05Places_ok (h.old ha1) hr1) rfl rfl rfl rfl ?_
  intro w3 S2 p5 k4 h
  refine rp rfl rfl (r_nil (r_seq (r_seq (r_region (rp rfl rfl (r_nil ?_))))))
  obtain ⟨o1, hF, hK1⟩ := bindS hF
  refine r_block ?_
  replace h := h.pick [0, 1] rfl
  refine r_sub [(1, _), (5, _), (6, _), (7, _)] ⟨rfl, rfl, rfl, rfl, trivial⟩ ?_
  refine r_loop (fun m e w' => ∃ (S3 : Nat → Prop) (p6 : Option Addr) (ln1 : Nat) (k5 : Nat) (x1 : (List Int)) (i1 : Int), spec_l05Sinks_L1 net r1 m x1 i1 = some o1 ∧ e = [(1, .int .i64 net), (5, .slice p6 ln1 k5), (6, .slice p5 r1.length k4), (7, .int .i64 i1)] ∧ SH w w' [Ch.own S2 (r1 : List Tl05Place) [.slice p5 r1.length k4], Ch.own S3 (x1 : List Int) [.slice p6 ln1 k5]]) n ⟨_, _, _, _, _, _, hF, rfl, h⟩ ?_
  rintro m1 e1 w4 ⟨S3, p6, ln1, k5, x1, i1, hF, rfl, h⟩
  obtain rfl := (h.sl 1 rfl).2
  rcases m1 with _ | m1
  · rw [spec_l05Sinks_L1] at hF
    cases hF
  rw [spec_l05Sinks_L1] at hF
  refine r_seq (r_seq (r_region (rp rfl rfl (rp rfl rfl (rp rfl rfl (rp rfl rfl (r_nil ?_)))))))
  refine r_if rfl hF (fun hF => ?_) (fun hF => ?_)
  · refine r_skip (r_seq (r_block (r_seq ?_)))
    obtain ⟨KF1, hKF1, o2, hF, hK2⟩ := bindE hF
    refine r_cut (fun e w' => ∃ (b1 : Bool), KF1 b1 = some o1 ∧ e = [(1, .int .i64 net), (5, .slice p6 x1.length k5), (6, .slice p5 r1.length k4), (7, .int .i64 i1), (31, .bool b1)] ∧ SH w w' [Ch.own S2 (r1 : List Tl05Place) [.slice p5 r1.length k4], Ch.own S3 (x1 : List Int) [.slice p6 x1.length k5]]) ?_ ?_
    · refine r_region (rp rfl rfl (rp rfl rfl ?_))
      obtain ⟨y1, hy1, hF⟩ := bindS hF
      have he1 := idx_some hy1
      obtain ⟨b2, o_1, q1, cs2, hp1, hq1, -, hr2, hc3⟩ := (h.sl 0 rfl).1.at hy1
      obtain rfl := open_Tl05Place hr2
      refine r_v (v_ix tabOk hp1 hq1 ⟨he1.1, lt_ln he1.2.1 (h.sl 0 rfl).2⟩ rfl rfl rfl rfl rfl rfl) rfl (rp rfl rfl (r_v (v_ld tabOk hc3 (j := 2) rfl rfl rfl) rfl (rp rfl rfl (rp rfl rfl (rp rfl rfl ?_)))))
      by_cases hc4 : (y1.net == net) = true
      · replace hF := bifT hc4 hF
        refine r_setT hc4 (t := 24) rfl (r_wanted rfl (rp rfl rfl (r_wanted rfl (rp rfl rfl (r_wanted rfl ?_)))))
        obtain ⟨y2, hy2, hF⟩ := bindS hF
        have he2 := idx_some hy2
        obtain ⟨b3, o_2, q2, cs3, hp2, hq2, -, hr3, hc5⟩ := (h.sl 0 rfl).1.at hy2
        obtain rfl := open_Tl05Place hr3
        refine r_v (v_ix tabOk hp2 hq2 ⟨he2.1, lt_ln he2.2.1 (h.sl 0 rfl).2⟩ rfl rfl rfl rfl rfl rfl) rfl (r_wanted rfl (rp rfl rfl (r_wanted rfl (r_v (v_ld tabOk hc5 (j := 3) rfl rfl rfl) rfl (r_wanted rfl (rp rfl rfl (rp rfl rfl (r_nil ?_))))))))
        obtain rfl := someI hF
        exact r_cutgoal [(1, _), (5, _), (6, _), (7, _), (31, _)] ⟨rfl, rfl, rfl, rfl, rfl, trivial⟩ ⟨_, hK2, rfl, h⟩
      replace hc4 := Bool.eq_false_iff.2 hc4
      replace hF := bifF hc4 hF
      refine r_setF hc4 (t := 24) rfl (r_not rfl rfl rfl (r_not rfl rfl rfl (r_not rfl rfl rfl (r_not rfl rfl rfl (r_not rfl rfl rfl (r_not rfl rfl rfl (rp rfl rfl (r_nil ?_))))))))
      obtain rfl := someI hF
      exact r_cutgoal [(1, _), (5, _), (6, _), (7, _), (31, _)] ⟨rfl, rfl, rfl, rfl, rfl, trivial⟩ ⟨_, hK2, rfl, h⟩
    rintro e2 w7 ⟨b1, hF, rfl, h⟩
    subst hKF1
    refine r_if rfl hF (fun hF => ?_) (fun hF => ?_)
    · refine r_region (rp rfl rfl (rp rfl rfl (r_bslice tabOk [.tmp 33] _ ([i1] : List Int) h rfl rfl rfl rfl rfl rfl rfl rfl rfl ⟨rfl, trivial⟩ rfl ?_)))
      intro w5 p7 S4 h
      obtain ⟨x2, hx1, hF⟩ := bindS hF
      obtain ⟨g1, hx1⟩ := appS_some hx1
      refine r_appE tabOk 2 h rfl (h.sl 0 rfl).1 (h.sl 0 rfl).2 rfl rfl rfl rfl rfl rfl rfl rfl rfl g1 hx1 rfl ?_
      intro w6 p8 k6 S5 h
      refine rp rfl rfl (r_nil (r_blk (r_region (rp rfl rfl (rp rfl rfl (rp rfl rfl (r_nil ?_)))))))
      replace h := h.pick [1, 2] rfl
      exact r_back m1 [(1, _), (5, _), (6, _), (7, _)] (Nat.lt_succ_self m1) ⟨rfl, rfl, rfl, rfl, trivial⟩ ⟨_, _, _, _, _, _, hF, rfl, h⟩
    exact r_skip (r_blk (r_region (rp rfl rfl (rp rfl rfl (rp rfl rfl (r_nil (r_back m1 [(1, _), (5, _), (6, _), (7, _)] (Nat.lt_succ_self m1) ⟨rfl, rfl, rfl, rfl, trivial⟩ ⟨_, _, _, _, _, _, hF, rfl, h⟩)))))))
  refine r_exit rfl ?_
  obtain rfl := someI hF; replace hF := hK1
  refine r_seq (r_region (rp rfl rfl (rp rfl rfl (r_nil ?_))))
  obtain rfl := someI hF
  exact r_retV tabOk (ρ := (List Int)) [GoT.v (List Int) [.slice p6 x1.length k5]] h ⟨rfl, trivial⟩ (PV.done h (pv_one (po_own 1 h rfl)))

def spec_IsBlock_L1 (b : TBlock) : Nat → Int → Option (Flow Bool Int)
  | 0, _ => none
  | n + 1, i1 =>
    bif decide (i1 < (b.Wires.length : Int)) then
      (idx b.Wires i1).bind fun y1 =>
      (spec_l05Sinks n (⟨b.Design.Instances, b.Design.Nets, b.Design.Ports⟩ : TDesign) i1).bind fun r1 =>
      (spec_IsWire n y1 (r1.length : Int)).bind fun r2 =>
      bif (!r2) then
        some (.ret false)
      else
        spec_IsBlock_L1 b n (W64 (i1 + 1))
    else
      some (.nxt i1)

def spec_IsBlock (n : Nat) (b : TBlock) : Option Bool :=
  (
    (spec_IsDesign n (⟨b.Library.Cells⟩ : TLibrary) (⟨b.Design.Instances, b.Design.Nets, b.Design.Ports⟩ : TDesign)).bind fun r3 =>
    bif (!r3) then
      some true
    else
      some ((b.Wires.length : Int) != (b.Design.Nets.length : Int))).bind fun b1 =>
  bif b1 then
    some false
  else
    (spec_IsBlock_L1 b n 0).bind fun o => match o with
    | .ret r => some r
    | .nxt _ =>
      some true

theorem spec_IsBlock_ok {n : Nat} {w : World} {b : TBlock} {cs1 : List Value} (ha1 : GoT.R w (old w) b cs1) {r : Bool} (hF : spec_IsBlock n b = some r) : RetV Tryz.prog 33 [GoT.v TBlock cs1] w r := by
  obtain ⟨p1, k1, p2, k2, p3, k3, p4, k4, p5, k5, rfl, s1, s2, s3, s4, s5⟩ := open_TBlock ha1
  refine retV_of_run Tryz.func33 rfl (m := 39) rfl rfl (fun h => ?_)
  rw [spec_IsBlock] at hF
  refine r_seq (r_region (r_box h rfl rfl ?_))
  intro w1 bb1 h
  refine rp rfl rfl (r_nil (r_seq (r_seq ?_)))
  obtain ⟨KF1, hKF1, o2, hF, hK2⟩ := bindE hF
  refine r_cut (fun e w' => ∃ (b1 : Bool), KF1 b1 = some r ∧ e = [(1, .pointer (some ⟨bb1, 0, none⟩)), (19, .bool b1)] ∧ SH w w' [Ch.box bb1 [.slice p1 b.Library.Cells.length k1, .slice p2 b.Design.Instances.length k2, .slice p3 b.Design.Nets.length k3, .slice p4 b.Design.Ports.length k4, .slice p5 b.Wires.length k5] 48]) ?_ ?_
  · refine r_region (rp rfl rfl (r_v (v_ld tabOk (h.box 0 rfl) (j := 0) rfl rfl rfl) rfl (rp rfl rfl (r_v (v_ld tabOk (h.box 0 rfl) (j := 1) rfl rfl rfl) rfl ?_))))
    obtain ⟨r3, hr4, hF⟩ := bindS hF
    refine r_callB r3 h call67 (spec_IsDesign_ok (mkR_TLibrary (⟨b.Library.Cells⟩ : TLibrary) (h.oldS s1)) (mkR_TDesign (⟨b.Design.Instances, b.Design.Nets, b.Design.Ports⟩ : TDesign) (h.oldS s2) (h.oldS s3) (h.oldS s4)) hr4) rfl rfl rfl rfl ?_
    intro w6 h
    refine rp rfl rfl (rp rfl rfl ?_)
    by_cases hc5 : (!r3) = true
    · replace hF := bifT hc5 hF
      refine r_setT hc5 (t := 10) rfl (r_not rfl rfl rfl (r_not rfl rfl rfl (r_not rfl rfl rfl (r_not rfl rfl rfl (r_not rfl rfl rfl (r_not rfl rfl rfl (r_not rfl rfl rfl (r_not rfl rfl rfl (rp rfl rfl (r_nil ?_))))))))))
      obtain rfl := someI hF
      exact r_cutgoal [(1, _), (19, _)] ⟨rfl, rfl, trivial⟩ ⟨_, hK2, rfl, h⟩
    replace hc5 := Bool.eq_false_iff.2 hc5
    replace hF := bifF hc5 hF
    refine r_setF hc5 (t := 10) rfl (r_wanted rfl (rp rfl rfl (r_wanted rfl (r_v (v_ld tabOk (h.box 0 rfl) (j := 4) rfl rfl rfl) rfl (r_wanted rfl (rp rfl rfl (r_wanted rfl (rp rfl rfl (r_wanted rfl (rp rfl rfl (r_wanted rfl ?_)))))))))))
    refine r_v (v_ld tabOk (h.box 0 rfl) (j := 2) rfl rfl rfl) rfl (r_wanted rfl (rp rfl rfl (r_wanted rfl (rp rfl rfl (rp rfl rfl (r_nil ?_))))))
    obtain rfl := someI hF
    exact r_cutgoal [(1, _), (19, _)] ⟨rfl, rfl, trivial⟩ ⟨_, hK2, rfl, h⟩
  rintro e2 w7 ⟨b1, hF, rfl, h⟩
  subst hKF1
  refine r_if rfl hF (fun hF => ?_) (fun hF => ?_)
  · exact r_seq (r_region (rp rfl rfl (r_nil (r_rB tabOk h hF ⟨rfl, trivial⟩))))
  refine r_skip (r_seq (r_seq (r_region (rp rfl rfl (r_nil ?_)))))
  obtain ⟨o1, hF, hK1⟩ := bindS hF
  refine r_block (r_sub [(1, _), (3, _)] ⟨rfl, rfl, trivial⟩ ?_)
  refine r_loop (fun m e w' => ∃ (i1 : Int), spec_IsBlock_L1 b m i1 = some o1 ∧ e = [(1, .pointer (some ⟨bb1, 0, none⟩)), (3, .int .i64 i1)] ∧ SH w w' [Ch.box bb1 [.slice p1 b.Library.Cells.length k1, .slice p2 b.Design.Instances.length k2, .slice p3 b.Design.Nets.length k3, .slice p4 b.Design.Ports.length k4, .slice p5 b.Wires.length k5] 48]) n ⟨_, hF, rfl, h⟩ ?_
  rintro m1 e1 w2 ⟨i1, hF, rfl, h⟩
  rcases m1 with _ | m1
  · rw [spec_IsBlock_L1] at hF
    cases hF
  rw [spec_IsBlock_L1] at hF
  refine r_seq (r_seq (r_region (rp rfl rfl (rp rfl rfl (r_v (v_ld tabOk (h.box 0 rfl) (j := 4) rfl rfl rfl) rfl (rp rfl rfl (rp rfl rfl (r_nil ?_))))))))
  refine r_if rfl hF (fun hF => ?_) (fun hF => ?_)
  · refine r_skip (r_seq (r_block (r_seq ?_)))
    refine r_any [] (fun w' => SH w w' [Ch.box bb1 [.slice p1 b.Library.Cells.length k1, .slice p2 b.Design.Instances.length k2, .slice p3 b.Design.Nets.length k3, .slice p4 b.Design.Ports.length k4, .slice p5 b.Wires.length k5] 48]) rfl 12 rfl #[ff, ff, ff, ff, ff, ff, ff, ff, ff, ff, ff, ff] (by kernel_rfl) (fun w3 hb => ?_)
    replace h := h.ext hb
    clear hb
    refine a_take 0 rfl #[tt, ff, ff, ff, ff, ff, ff, ff, ff, ff, ff, ff] (by kernel_rfl) (by kernel_rfl) (fun w' hw => v_p tabOk rfl w') (h.pick [0] rfl) rfl ?_
    refine a_take 1 rfl #[tt, tt, ff, ff, ff, ff, ff, ff, ff, ff, ff, ff] (by kernel_rfl) (by kernel_rfl) (fun w' hw => v_ld tabOk (hw.box 0 rfl) (j := 4) rfl rfl rfl) (h.pick [0] rfl) rfl ?_
    refine a_take 2 rfl #[tt, tt, tt, ff, ff, ff, ff, ff, ff, ff, ff, ff] (by kernel_rfl) (by kernel_rfl) (fun w' hw => v_p tabOk rfl w') (h.pick [0] rfl) rfl ?_
    obtain ⟨y1, hy1, hF⟩ := bindS hF
    have he1 := idx_some hy1
    obtain ⟨b2, o_1, q1, cs2, hp1, hq1, -, hr1, hc3⟩ := s5.at hy1
    obtain ⟨p6, k6, p7, k7, p8, k8, p9, k9, rfl, s6, s7, s8, s9⟩ := open_TWire hr1
    refine a_take 3 rfl #[tt, tt, tt, tt, ff, ff, ff, ff, ff, ff, ff, ff] (by kernel_rfl) (by kernel_rfl) (fun w' hw => v_ix tabOk hp1 hq1 ⟨he1.1, he1.2.1⟩ rfl rfl rfl rfl rfl rfl) (h.pick [0] rfl) rfl ?_
    refine a_take 4 rfl #[tt, tt, tt, tt, tt, ff, ff, ff, ff, ff, ff, ff] (by kernel_rfl) (by kernel_rfl) (fun w' hw => v_ld tabOk (hc3.below hw.below) (j := 0) rfl rfl rfl) (h.pick [0] rfl) rfl ?_
    refine a_take 5 rfl #[tt, tt, tt, tt, tt, tt, ff, ff, ff, ff, ff, ff] (by kernel_rfl) (by kernel_rfl) (fun w' hw => v_p tabOk rfl w') (h.pick [0] rfl) rfl ?_
    refine a_take 6 rfl #[tt, tt, tt, tt, tt, tt, tt, ff, ff, ff, ff, ff] (by kernel_rfl) (by kernel_rfl) (fun w' hw => v_ld tabOk (hw.box 0 rfl) (j := 1) rfl rfl rfl) (h.pick [0] rfl) rfl ?_
    refine a_take 7 rfl #[tt, tt, tt, tt, tt, tt, tt, tt, ff, ff, ff, ff] (by kernel_rfl) (by kernel_rfl) (fun w' hw => v_p tabOk rfl w') (h.pick [0] rfl) rfl ?_
    refine a_only 8 rfl #[tt, tt, tt, tt, tt, tt, tt, tt, tt, ff, ff, ff] (by kernel_rfl) (by kernel_rfl) ?_
    obtain ⟨r1, hr2, hF⟩ := bindS hF
    refine r_callL r1 h call69 (spec_l05Sinks_ok (mkR_TDesign (⟨b.Design.Instances, b.Design.Nets, b.Design.Ports⟩ : TDesign) (h.oldS s2) (h.oldS s3) (h.oldS s4)) hr2) rfl rfl rfl rfl ?_
    intro w4 S1 p10 k10 h
    refine a_goal (fun _ => (h.pick [1] rfl)) ?_
    refine a_take 9 rfl #[tt, tt, tt, tt, tt, tt, tt, tt, tt, tt, ff, ff] (by kernel_rfl) (by kernel_rfl) (fun w' hw => v_p tabOk rfl w') (h.pick [1] rfl) rfl ?_
    refine a_only 10 rfl #[tt, tt, tt, tt, tt, tt, tt, tt, tt, tt, tt, ff] (by kernel_rfl) (by kernel_rfl) ?_
    obtain ⟨r2, hr3, hF⟩ := bindS hF
    refine r_callB r2 h call68 (spec_IsWire_ok (mkR_TWire y1 (h.oldS s6) (h.oldS s7) (h.oldS s8) (h.oldS s9)) hr3) rfl rfl rfl rfl ?_
    intro w5 h
    refine a_goal (fun _ => (h.pick [1] rfl)) ?_
    refine a_take 11 rfl #[tt, tt, tt, tt, tt, tt, tt, tt, tt, tt, tt, tt] (by kernel_rfl) (by kernel_rfl) (fun w' hw => v_p tabOk rfl w') (h.pick [1] rfl) rfl ?_
    refine a_done (by kernel_rfl) ?_
    refine r_if rfl hF (fun hF => ?_) (fun hF => ?_)
    · refine r_seq (r_region (rp rfl rfl (r_nil ?_)))
      obtain rfl := someI hF; replace hF := hK1
      exact r_rB tabOk h hF ⟨rfl, trivial⟩
    refine r_skip (r_blk (r_region (rp rfl rfl (rp rfl rfl (rp rfl rfl (r_nil ?_))))))
    replace h := h.pick [1] rfl
    exact r_back m1 [(1, _), (3, _)] (Nat.lt_succ_self m1) ⟨rfl, rfl, trivial⟩ ⟨_, hF, rfl, h⟩
  refine r_exit rfl ?_
  obtain rfl := someI hF; replace hF := hK1
  exact r_seq (r_region (rp rfl rfl (r_nil (r_rB tabOk h hF ⟨rfl, trivial⟩))))

def impl_within (_ : Nat) (x : Int) (low : Int) (high : Int) : Option Bool :=
  bif decide (x ≥ low) then
    some (decide (x ≤ high))
  else
    some false

theorem impl_within_ok {n : Nat} {w : World} {x : Int} {low : Int} {high : Int}  {r : Bool} (hF : impl_within n x low high = some r) : RetV Tryz.prog 100 [.int .i64 x, .int .i64 low, .int .i64 high] w r := by
  refine retV_of_run Tryz.func100 rfl (m := 15) rfl rfl (fun h => ?_)
  rw [impl_within] at hF
  refine r_seq (r_region (rp rfl rfl (r_nil (r_seq (r_region (rp rfl rfl (rp rfl rfl (rp rfl rfl (rp rfl rfl ?_)))))))))
  by_cases hc1 : (decide (x ≥ low)) = true
  · replace hF := bifT hc1 hF
    exact r_setT hc1 (t := 10) rfl (r_wanted rfl (rp rfl rfl (r_wanted rfl (rp rfl rfl (r_wanted rfl (rp rfl rfl (rp rfl rfl (rp rfl rfl (r_nil (r_rB tabOk h hF ⟨rfl, trivial⟩))))))))))
  replace hc1 := Bool.eq_false_iff.2 hc1
  replace hF := bifF hc1 hF
  exact r_setF hc1 (t := 10) rfl (r_not rfl rfl rfl (r_not rfl rfl rfl (r_not rfl rfl rfl (rp rfl rfl (rp rfl rfl (r_nil (r_rB tabOk h hF ⟨rfl, trivial⟩)))))))

def strings_Trim (_ : Nat) (s cutset : ByteArray) : Option ByteArray :=
  if s.size ≤ 9223372036854775807 ∧ cutset.size < 4294967281 ∧ cutset.data.toList.all (fun b => decide (b.toNat < 128)) = true then some ⟨(Lib.trimS s.data.toList cutset.data.toList).toArray⟩ else none

theorem strings_Trim_ok {n : Nat} {w : World} {s cutset : ByteArray} {r : ByteArray} (hF : strings_Trim n s cutset = some r) : RetV Tryz.prog 180 [.string s, .string cutset] w r := by
  unfold strings_Trim at hF
  split at hF
  · rename_i hh
    obtain rfl := someI hF
    refine (Tryz.strings_Trim_any s cutset w hh.1 hh.2.1 hh.2.2).mono ?_
    rintro e w' ⟨rfl, hB⟩
    exact ⟨_, rfl, hB, [.string _], rfl, vs_str _ _⟩
  cases hF

def strings_IndexByte (_ : Nat) (s : ByteArray) (c : (IntK .u8)) : Option Int :=
  some (Lib.indexByte s.data.toList c.val.toNat.toUInt8)

theorem strings_IndexByte_ok {n : Nat} {w : World} {s : ByteArray} {c : (IntK .u8)} {r : Int} (hF : strings_IndexByte n s c = some r) : RetV Tryz.prog 181 [.string s, .int .u8 c.val] w r := by
  obtain rfl := someI hF
  refine (Tryz.strings_IndexByte s c.val w).mono ?_
  rintro e w' ⟨rfl, rfl⟩
  exact ⟨_, rfl, Below.refl _ _, [.int .i64 _], rfl, vs_int _ _⟩

def impl_isName (n : Nat) (s : ByteArray) : Option Bool :=
  (impl_within n (s.size : Int) 1 8).bind fun r1 =>
  bif r1 then
    (strings_Trim n s (⟨#[97, 98, 99, 100, 101, 102, 103, 104, 105, 106, 107, 108, 109, 110, 111, 112, 113, 114, 115, 116, 117, 118, 119, 120, 121, 122, 48, 49, 50, 51, 52, 53, 54, 55, 56, 57]⟩ : ByteArray)).bind fun r2 =>
    bif (r2.toList == (⟨#[]⟩ : ByteArray).toList) then
      (atS s 0).bind fun y1 =>
      (strings_IndexByte n (⟨#[97, 98, 99, 100, 101, 102, 103, 104, 105, 106, 107, 108, 109, 110, 111, 112, 113, 114, 115, 116, 117, 118, 119, 120, 121, 122]⟩ : ByteArray) (⟨y1⟩ : IntK .u8)).bind fun r3 =>
      some (decide (r3 ≥ 0))
    else
      some false
  else
    some false

theorem impl_isName_ok {n : Nat} {w : World} {s : ByteArray}  {r : Bool} (hF : impl_isName n s = some r) : RetV Tryz.prog 170 [.string s] w r := by
  refine retV_of_run Tryz.func170 rfl (m := 17) rfl rfl (fun h => ?_)
  rw [impl_isName] at hF
  refine r_seq (r_region (rp rfl rfl (r_nil (r_seq (r_region (rp rfl rfl (rp rfl rfl ?_)))))))
  obtain ⟨r1, hr1, hF⟩ := bindS hF
  refine r_callB r1 h call100 (impl_within_ok hr1) rfl rfl rfl rfl ?_
  intro w1 h
  refine rp rfl rfl ?_
  by_cases hc1 : r1 = true
  · replace hF := bifT hc1 hF
    refine r_setT hc1 (t := 6) rfl (r_wanted rfl (rp rfl rfl (r_wanted rfl ?_)))
    obtain ⟨r2, hr2, hF⟩ := bindS hF
    refine r_callS r2 h call180 (strings_Trim_ok hr2) rfl rfl rfl rfl ?_
    intro w2 h
    refine r_wanted rfl (rp rfl rfl (rp rfl rfl (rp rfl rfl ?_)))
    by_cases hc2 : (r2.toList == (⟨#[]⟩ : ByteArray).toList) = true
    · replace hF := bifT hc2 hF
      refine r_setT hc2 (t := 11) rfl (r_wanted rfl (rp rfl rfl (r_wanted rfl ?_)))
      obtain ⟨y1, hx1, hF⟩ := bindS hF
      have g1 := atS_some hx1
      refine r_v (v_sindex tabOk g1 rfl rfl rfl rfl) rfl (r_wanted rfl ?_)
      obtain ⟨r3, hr3, hF⟩ := bindS hF
      refine r_callI r3 h call181 (strings_IndexByte_ok hr3) rfl rfl rfl rfl ?_
      intro w3 h
      exact r_wanted rfl (rp rfl rfl (rp rfl rfl (rp rfl rfl (r_nil (r_rB tabOk h hF ⟨rfl, trivial⟩)))))
    replace hc2 := Bool.eq_false_iff.2 hc2
    replace hF := bifF hc2 hF
    exact r_setF hc2 (t := 11) rfl (r_not rfl rfl rfl (r_not rfl rfl rfl (r_not rfl rfl rfl (r_not rfl rfl rfl (rp rfl rfl (rp rfl rfl (r_nil (r_rB tabOk h hF ⟨rfl, trivial⟩))))))))
  replace hc1 := Bool.eq_false_iff.2 hc1
  replace hF := bifF hc1 hF
  refine r_setF hc1 (t := 6) rfl (r_not rfl rfl rfl (r_not rfl rfl rfl (r_not rfl rfl rfl (rp rfl rfl (rp rfl rfl (r_not rfl rfl rfl (r_not rfl rfl rfl (r_not rfl rfl rfl (r_not rfl rfl rfl (rp rfl rfl (rp rfl rfl ?_)))))))))))
  exact r_nil (r_rB tabOk h hF ⟨rfl, trivial⟩)

def impl_length_impl_Pin (_ : Nat) (list : (List TPin)) : Option Int :=
  some (list.length : Int)

theorem impl_length_impl_Pin_ok {n : Nat} {w : World} {list : (List TPin)} {cs1 : List Value} (ha1 : GoT.R w (old w) list cs1) {r : Int} (hF : impl_length_impl_Pin n list = some r) : RetV Tryz.prog 142 [GoT.v (List TPin) cs1] w r := by
  obtain ⟨p1, k1, rfl, s1⟩ := ha1
  refine retV_of_run Tryz.func142 rfl (m := 5) rfl rfl (fun h => ?_)
  rw [impl_length_impl_Pin] at hF
  exact r_seq (r_region (rp rfl rfl (r_nil (r_seq (r_region (rp rfl rfl (rp rfl rfl (rp rfl rfl (r_nil (r_rI tabOk h hF ⟨rfl, trivial⟩))))))))))

def slices_Index_string_L1 (s : (List ByteArray)) (v : ByteArray) : Nat → Int → Option (Flow Int Int)
  | 0, _ => none
  | n + 1, i1 =>
    bif decide (i1 < (s.length : Int)) then
      (idx s i1).bind fun y1 =>
      bif (v.toList == y1.toList) then
        some (.ret i1)
      else
        slices_Index_string_L1 s v n (W64 (i1 + 1))
    else
      some (.nxt i1)

def slices_Index_string (n : Nat) (s : (List ByteArray)) (v : ByteArray) : Option Int :=
  (slices_Index_string_L1 s v n 0).bind fun o => match o with
  | .ret r => some r
  | .nxt _ =>
    some (-1)

theorem slices_Index_string_ok {n : Nat} {w : World} {s : (List ByteArray)} {v : ByteArray} {cs1 : List Value} (ha1 : GoT.R w (old w) s cs1) {r : Int} (hF : slices_Index_string n s v = some r) : RetV Tryz.prog 185 [GoT.v (List ByteArray) cs1, .string v] w r := by
  obtain ⟨p1, k1, rfl, s1⟩ := ha1
  refine retV_of_run Tryz.func185 rfl (m := 19) rfl rfl (fun h => ?_)
  rw [slices_Index_string] at hF
  refine r_seq (r_region (rp rfl rfl (r_nil (r_seq (r_seq (r_region (rp rfl rfl (rp rfl rfl (rp rfl rfl (r_nil ?_))))))))))
  obtain ⟨o1, hF, hK1⟩ := bindS hF
  refine r_block (r_sub [(0, _), (1, _), (7, _), (8, _)] ⟨rfl, rfl, rfl, rfl, trivial⟩ ?_)
  refine r_loop (fun m e w' => ∃ (i1 : Int), slices_Index_string_L1 s v m i1 = some o1 ∧ e = [(0, .slice p1 s.length k1), (1, .string v), (7, .int .i64 (s.length : Int)), (8, .int .i64 i1)] ∧ SH w w' []) n ⟨_, hF, rfl, h⟩ ?_
  rintro m1 e1 w1 ⟨i1, hF, rfl, h⟩
  rcases m1 with _ | m1
  · rw [slices_Index_string_L1] at hF
    cases hF
  rw [slices_Index_string_L1] at hF
  refine r_seq (r_region (rp rfl rfl (r_nil (r_seq ?_))))
  refine r_if rfl hF (fun hF => ?_) (fun hF => ?_)
  · refine r_skip (r_seq (r_block (r_seq (r_region (rp rfl rfl (rp rfl rfl (r_nil (r_seq (r_region (rp rfl rfl (rp rfl rfl ?_)))))))))))
    refine rp rfl rfl ?_
    obtain ⟨y1, hy1, hF⟩ := bindS hF
    have he1 := idx_some hy1
    obtain ⟨b1, o_1, q1, cs2, hp1, hq1, -, hr1, hc2⟩ := s1.at hy1
    obtain rfl := hr1
    refine r_v (v_ix tabOk hp1 hq1 ⟨he1.1, he1.2.1⟩ rfl rfl rfl rfl rfl rfl) rfl (r_v (v_ld tabOk (hc2.below h.below) (j := 0) rfl rfl rfl) rfl (rp rfl rfl (r_nil ?_)))
    refine r_if rfl hF (fun hF => ?_) (fun hF => ?_)
    · refine r_seq (r_region (rp rfl rfl (rp rfl rfl (r_nil ?_))))
      obtain rfl := someI hF; replace hF := hK1
      exact r_rI tabOk h hF ⟨rfl, trivial⟩
    exact r_skip (r_blk (r_region (rp rfl rfl (rp rfl rfl (r_nil (r_back m1 [(0, _), (1, _), (7, _), (8, _)] (Nat.lt_succ_self m1) ⟨rfl, rfl, rfl, rfl, trivial⟩ ⟨_, hF, rfl, h⟩))))))
  refine r_exit rfl ?_
  obtain rfl := someI hF; replace hF := hK1
  exact r_seq (r_region (rp rfl rfl (r_nil (r_rI tabOk h hF ⟨rfl, trivial⟩))))

def slices_Contains_string (n : Nat) (s : (List ByteArray)) (v : ByteArray) : Option Bool :=
  (slices_Index_string n s v).bind fun r1 =>
  some (decide (r1 ≥ 0))

theorem slices_Contains_string_ok {n : Nat} {w : World} {s : (List ByteArray)} {v : ByteArray} {cs1 : List Value} (ha1 : GoT.R w (old w) s cs1) {r : Bool} (hF : slices_Contains_string n s v = some r) : RetV Tryz.prog 174 [GoT.v (List ByteArray) cs1, .string v] w r := by
  obtain ⟨p1, k1, rfl, s1⟩ := ha1
  refine retV_of_run Tryz.func174 rfl (m := 9) rfl rfl (fun h => ?_)
  rw [slices_Contains_string] at hF
  refine r_seq (r_region (rp rfl rfl (r_nil (r_seq (r_region (rp rfl rfl (rp rfl rfl ?_)))))))
  obtain ⟨r1, hr1, hF⟩ := bindS hF
  refine r_callI r1 h call185 (slices_Index_string_ok ⟨_, _, rfl, (h.oldS s1)⟩ hr1) rfl rfl rfl rfl ?_
  intro w1 h
  exact rp rfl rfl (rp rfl rfl (r_nil (r_rB tabOk h hF ⟨rfl, trivial⟩)))

def impl_areNames_L1 (list : (List ByteArray)) : Nat → Int → Option (Flow Bool Int)
  | 0, _ => none
  | n + 1, i1 =>
    bif decide (i1 < (list.length : Int)) then
      (idx list i1).bind fun y1 =>
      (impl_isName n y1).bind fun r1 =>
      bif (!r1) then
        some (.ret false)
      else
        (subS list 0 i1).bind fun x1 =>
        (slices_Contains_string n x1 y1).bind fun r2 =>
        bif r2 then
          some (.ret false)
        else
          impl_areNames_L1 list n (W64 (i1 + 1))
    else
      some (.nxt i1)

def impl_areNames (n : Nat) (list : (List ByteArray)) : Option Bool :=
  (impl_areNames_L1 list n 0).bind fun o => match o with
  | .ret r => some r
  | .nxt _ =>
    some true

theorem impl_areNames_ok {n : Nat} {w : World} {list : (List ByteArray)} {cs1 : List Value} (ha1 : GoT.R w (old w) list cs1) {r : Bool} (hF : impl_areNames n list = some r) : RetV Tryz.prog 154 [GoT.v (List ByteArray) cs1] w r := by
  obtain ⟨p1, k1, rfl, s1⟩ := ha1
  refine retV_of_run Tryz.func154 rfl (m := 23) rfl rfl (fun h => ?_)
  rw [impl_areNames] at hF
  refine r_seq (r_region (rp rfl rfl (r_nil (r_seq (r_seq (r_region (rp rfl rfl (rp rfl rfl (rp rfl rfl (r_nil ?_))))))))))
  obtain ⟨o1, hF, hK1⟩ := bindS hF
  refine r_block (r_sub [(0, _), (5, _), (6, _), (7, _)] ⟨rfl, rfl, rfl, rfl, trivial⟩ ?_)
  refine r_loop (fun m e w' => ∃ (i1 : Int), impl_areNames_L1 list m i1 = some o1 ∧ e = [(0, .slice p1 list.length k1), (5, .slice p1 list.length k1), (6, .int .i64 (list.length : Int)), (7, .int .i64 i1)] ∧ SH w w' []) n ⟨_, hF, rfl, h⟩ ?_
  rintro m1 e1 w1 ⟨i1, hF, rfl, h⟩
  rcases m1 with _ | m1
  · rw [impl_areNames_L1] at hF
    cases hF
  rw [impl_areNames_L1] at hF
  refine r_seq (r_region (rp rfl rfl (r_nil (r_seq ?_))))
  refine r_if rfl hF (fun hF => ?_) (fun hF => ?_)
  · refine r_skip (r_seq (r_block (r_seq (r_region (rp rfl rfl ?_)))))
    obtain ⟨y1, hy1, hF⟩ := bindS hF
    have he1 := idx_some hy1
    obtain ⟨b1, o_1, q1, cs2, hp1, hq1, -, hr1, hc2⟩ := s1.at hy1
    obtain rfl := hr1
    refine r_v (v_ix tabOk hp1 hq1 ⟨he1.1, he1.2.1⟩ rfl rfl rfl rfl rfl rfl) rfl (r_v (v_ld tabOk (hc2.below h.below) (j := 0) rfl rfl rfl) rfl (rp rfl rfl (rp rfl rfl (r_nil (r_seq (r_region (rp rfl rfl ?_)))))))
    obtain ⟨r1, hr2, hF⟩ := bindS hF
    refine r_callB r1 h call170 (impl_isName_ok hr2) rfl rfl rfl rfl ?_
    intro w2 h
    refine rp rfl rfl (rp rfl rfl ?_)
    by_cases hc3 : (!r1) = true
    · replace hF := bifT hc3 hF
      refine r_setT hc3 (t := 15) rfl (r_not rfl rfl rfl (r_not rfl rfl rfl (r_not rfl rfl rfl (r_not rfl rfl rfl (r_not rfl rfl rfl (rp rfl rfl (r_nil (r_condT rfl rfl (r_seq (r_region (rp rfl rfl ?_)))))))))))
      refine r_nil ?_
      obtain rfl := someI hF; replace hF := hK1
      exact r_rB tabOk h hF ⟨rfl, trivial⟩
    replace hc3 := Bool.eq_false_iff.2 hc3
    replace hF := bifF hc3 hF
    refine r_setF hc3 (t := 15) rfl (r_wanted rfl (rp rfl rfl (r_wanted rfl (rp rfl rfl (r_wanted rfl ?_)))))
    obtain ⟨x1, hx1, hF⟩ := bindS hF
    obtain ⟨p2, k2, hp2, hk1, hl1, g1⟩ := sub_of (h.oldS s1) hx1
    refine r_v (v_sliceE tabOk rfl rfl rfl (sub_ln g1 rfl) hp2 hk1 hl1 rfl rfl rfl rfl) rfl ?_
    have s2 := sub_at s1 hx1 hp2 hk1
    refine r_wanted rfl (rp rfl rfl (r_wanted rfl ?_))
    obtain ⟨r2, hr3, hF⟩ := bindS hF
    refine r_callB r2 h call174 (slices_Contains_string_ok ⟨_, _, rfl, (h.oldS s2)⟩ hr3) rfl rfl rfl rfl ?_
    intro w3 h
    refine rp rfl rfl (r_nil ?_)
    refine r_if rfl hF (fun hF => ?_) (fun hF => ?_)
    · refine r_seq (r_region (rp rfl rfl (r_nil ?_)))
      obtain rfl := someI hF; replace hF := hK1
      exact r_rB tabOk h hF ⟨rfl, trivial⟩
    exact r_skip (r_blk (r_region (rp rfl rfl (rp rfl rfl (r_nil (r_back m1 [(0, _), (5, _), (6, _), (7, _)] (Nat.lt_succ_self m1) ⟨rfl, rfl, rfl, rfl, trivial⟩ ⟨_, hF, rfl, h⟩))))))
  refine r_exit rfl ?_
  obtain rfl := someI hF; replace hF := hK1
  exact r_seq (r_region (rp rfl rfl (r_nil (r_rB tabOk h hF ⟨rfl, trivial⟩))))

def impl_arePins_L1 (list : (List TPin)) : Nat → (List ByteArray) → Int → Option (Flow Bool ((List ByteArray) × Int))
  | 0, _, _ => none
  | n + 1, x1, i1 =>
    bif decide (i1 < (list.length : Int)) then
      (idx list i1).bind fun y1 =>
      (appS x1 ([y1.Name] : List ByteArray)).bind fun x2 =>
      bif (i1 == (W64 ((list.length : Int) - 1))) then
        bif (y1.Dir != 2) then
          some (.ret false)
        else
          bif (y1.Cap != 0) then
            some (.ret false)
          else
            bif y1.Clock then
              some (.ret false)
            else
              impl_arePins_L1 list n x2 (W64 (i1 + 1))
      else
        bif (y1.Dir != 1) then
          some (.ret false)
        else
          (impl_within n y1.Cap 0 500).bind fun r1 =>
          bif (!r1) then
            some (.ret false)
          else
            impl_arePins_L1 list n x2 (W64 (i1 + 1))
    else
      some (.nxt (x1, i1))

def impl_arePins (n : Nat) (list : (List TPin)) : Option Bool :=
  (impl_arePins_L1 list n ([] : List ByteArray) 0).bind fun o => match o with
  | .ret r => some r
  | .nxt (x1, _) =>
    (impl_length_impl_Pin n list).bind fun r2 =>
    (impl_within n r2 2 5).bind fun r3 =>
    bif r3 then
      (impl_areNames n x1).bind fun r4 =>
      some r4
    else
      some false

theorem impl_arePins_ok {n : Nat} {w : World} {list : (List TPin)} {cs1 : List Value} (ha1 : GoT.R w (old w) list cs1) {r : Bool} (hF : impl_arePins n list = some r) : RetV Tryz.prog 171 [GoT.v (List TPin) cs1] w r := by
  obtain ⟨p1, k1, rfl, s1⟩ := ha1
  refine retV_of_run Tryz.func171 rfl (m := 52) rfl rfl (fun h => ?_)
  rw [impl_arePins] at hF
  refine r_seq (r_region (rp rfl rfl (r_nil (r_seq (r_region (rp rfl rfl (r_nil (r_seq (r_seq (r_region (rp rfl rfl ?_)))))))))))
  refine rp rfl rfl (rp rfl rfl (r_nil ?_))
  replace h := h.nil (α := ByteArray)
  obtain ⟨o1, hF, hK1⟩ := bindS hF
  refine r_block (r_sub [(0, _), (3, _), (6, _), (7, _), (8, _)] ⟨rfl, rfl, rfl, rfl, rfl, trivial⟩ ?_)
  refine r_loop (fun m e w' => ∃ (S1 : Nat → Prop) (p2 : Option Addr) (ln1 : Nat) (k2 : Nat) (x1 : (List ByteArray)) (i1 : Int), impl_arePins_L1 list m x1 i1 = some o1 ∧ e = [(0, .slice p1 list.length k1), (3, .slice p2 ln1 k2), (6, .slice p1 list.length k1), (7, .int .i64 (list.length : Int)), (8, .int .i64 i1)] ∧ SH w w' [Ch.own S1 (x1 : List ByteArray) [.slice p2 ln1 k2]]) n ⟨_, _, _, _, _, _, hF, rfl, h⟩ ?_
  rintro m1 e1 w1 ⟨S1, p2, ln1, k2, x1, i1, hF, rfl, h⟩
  obtain rfl := (h.sl 0 rfl).2
  rcases m1 with _ | m1
  · rw [impl_arePins_L1] at hF
    cases hF
  rw [impl_arePins_L1] at hF
  refine r_seq (r_region (rp rfl rfl (r_nil (r_seq ?_))))
  refine r_if rfl hF (fun hF => ?_) (fun hF => ?_)
  · refine r_skip (r_seq (r_block (r_seq (r_region (rp rfl rfl ?_)))))
    obtain ⟨y1, hy1, hF⟩ := bindS hF
    have he1 := idx_some hy1
    obtain ⟨b1, o_1, q1, cs2, hp1, hq1, -, hr1, hc2⟩ := s1.at hy1
    obtain rfl := open_TPin hr1
    refine r_v (v_ix tabOk hp1 hq1 ⟨he1.1, he1.2.1⟩ rfl rfl rfl rfl rfl rfl) rfl (r_v (v_ld tabOk (hc2.below h.below) (j := 0) rfl rfl rfl) rfl (r_alloc tabOk h rfl rfl rfl ?_))
    intro w2 bb1 h
    refine rp rfl rfl (r_stbox tabOk 0 h rfl rfl rfl rfl rfl rfl rfl ?_)
    intro w3 h
    replace h : SH _ _ [Ch.box bb1 [.string y1.Name, .int .i64 y1.Dir, .int .i64 y1.Cap, .bool y1.Clock] 199, Ch.own S1 (x1 : List ByteArray) [.slice p2 x1.length k2]] := h
    refine r_nil (r_seq (r_region (rp rfl rfl (rp rfl rfl (r_v (v_ld tabOk (h.box 0 rfl) (j := 0) rfl rfl rfl) rfl (r_bslice tabOk [.tmp 15] _ ([y1.Name] : List ByteArray) h rfl rfl rfl rfl rfl rfl rfl rfl rfl ⟨rfl, trivial⟩ rfl ?_))))))
    intro w4 p3 S2 h
    obtain ⟨x2, hx1, hF⟩ := bindS hF
    obtain ⟨g1, hx1⟩ := appS_some hx1
    refine r_appE tabOk 2 h rfl (h.sl 0 rfl).1 (h.sl 0 rfl).2 rfl rfl rfl rfl rfl rfl rfl rfl rfl g1 hx1 rfl ?_
    intro w5 p4 k3 S3 h
    refine rp rfl rfl (r_nil (r_seq (r_region (rp rfl rfl (rp rfl rfl (rp rfl rfl (rp rfl rfl (rp rfl rfl (r_nil ?_)))))))))
    refine r_if rfl hF (fun hF => ?_) (fun hF => ?_)
    · refine r_seq (r_region (rp rfl rfl (r_v (v_ld tabOk (h.box 1 rfl) (j := 1) rfl rfl rfl) rfl (rp rfl rfl (rp rfl rfl ?_)))))
      by_cases hc4 : (y1.Dir != 2) = true
      · replace hF := bifT hc4 hF
        refine r_setT hc4 (t := 26) rfl (r_not rfl rfl rfl (r_not rfl rfl rfl (r_not rfl rfl rfl (rp rfl rfl (rp rfl rfl (r_not rfl rfl rfl (r_not rfl rfl rfl (rp rfl rfl (r_nil (r_condT rfl rfl (r_seq ?_)))))))))))
        refine r_region (rp rfl rfl (r_nil ?_))
        obtain rfl := someI hF; replace hF := hK1
        exact r_rB tabOk h hF ⟨rfl, trivial⟩
      replace hc4 := Bool.eq_false_iff.2 hc4
      replace hF := bifF hc4 hF
      refine r_setF hc4 (t := 26) rfl (r_wanted rfl (rp rfl rfl (r_wanted rfl (r_v (v_ld tabOk (h.box 1 rfl) (j := 2) rfl rfl rfl) rfl (r_wanted rfl (rp rfl rfl (rp rfl rfl (rp rfl rfl ?_))))))))
      by_cases hc5 : (y1.Cap != 0) = true
      · replace hF := bifT hc5 hF
        refine r_setT hc5 (t := 31) rfl (r_not rfl rfl rfl (r_not rfl rfl rfl (rp rfl rfl (r_nil (r_condT rfl rfl (r_seq (r_region (rp rfl rfl (r_nil ?_)))))))))
        obtain rfl := someI hF; replace hF := hK1
        exact r_rB tabOk h hF ⟨rfl, trivial⟩
      replace hc5 := Bool.eq_false_iff.2 hc5
      replace hF := bifF hc5 hF
      refine r_setF hc5 (t := 31) rfl (r_wanted rfl (rp rfl rfl (r_wanted rfl (r_v (v_ld tabOk (h.box 1 rfl) (j := 3) rfl rfl rfl) rfl (rp rfl rfl (r_nil ?_))))))
      refine r_if rfl hF (fun hF => ?_) (fun hF => ?_)
      · refine r_seq (r_region (rp rfl rfl (r_nil ?_)))
        obtain rfl := someI hF; replace hF := hK1
        exact r_rB tabOk h hF ⟨rfl, trivial⟩
      refine r_skip (r_blk (r_region (rp rfl rfl (rp rfl rfl (r_nil ?_)))))
      replace h := h.pick [2] rfl
      exact r_back m1 [(0, _), (3, _), (6, _), (7, _), (8, _)] (Nat.lt_succ_self m1) ⟨rfl, rfl, rfl, rfl, rfl, trivial⟩ ⟨_, _, _, _, _, _, hF, rfl, h⟩
    refine r_seq (r_region (rp rfl rfl (r_v (v_ld tabOk (h.box 1 rfl) (j := 1) rfl rfl rfl) rfl (rp rfl rfl (rp rfl rfl ?_)))))
    by_cases hc7 : (y1.Dir != 1) = true
    · replace hF := bifT hc7 hF
      refine r_setT hc7 (t := 38) rfl (r_not rfl rfl rfl (r_not rfl rfl rfl (r_not rfl rfl rfl (r_not rfl rfl rfl (rp rfl rfl (r_nil (r_condT rfl rfl (r_seq (r_region (rp rfl rfl (r_nil ?_)))))))))))
      obtain rfl := someI hF; replace hF := hK1
      exact r_rB tabOk h hF ⟨rfl, trivial⟩
    replace hc7 := Bool.eq_false_iff.2 hc7
    replace hF := bifF hc7 hF
    refine r_setF hc7 (t := 38) rfl (r_wanted rfl (rp rfl rfl (r_wanted rfl (r_v (v_ld tabOk (h.box 1 rfl) (j := 2) rfl rfl rfl) rfl (r_wanted rfl ?_)))))
    obtain ⟨r1, hr2, hF⟩ := bindS hF
    refine r_callB r1 h call100 (impl_within_ok hr2) rfl rfl rfl rfl ?_
    intro w6 h
    refine r_wanted rfl (rp rfl rfl (rp rfl rfl (r_nil ?_)))
    refine r_if rfl hF (fun hF => ?_) (fun hF => ?_)
    · refine r_seq (r_region (rp rfl rfl (r_nil ?_)))
      obtain rfl := someI hF; replace hF := hK1
      exact r_rB tabOk h hF ⟨rfl, trivial⟩
    refine r_skip (r_blk (r_region (rp rfl rfl (rp rfl rfl (r_nil ?_)))))
    replace h := h.pick [2] rfl
    exact r_back m1 [(0, _), (3, _), (6, _), (7, _), (8, _)] (Nat.lt_succ_self m1) ⟨rfl, rfl, rfl, rfl, rfl, trivial⟩ ⟨_, _, _, _, _, _, hF, rfl, h⟩
  refine r_exit rfl ?_
  obtain rfl := someI hF; replace hF := hK1
  refine r_seq (r_region (rp rfl rfl ?_))
  obtain ⟨r2, hr3, hF⟩ := bindS hF
  refine r_callI r2 h call142 (impl_length_impl_Pin_ok ⟨_, _, rfl, (h.oldS s1)⟩ hr3) rfl rfl rfl rfl ?_
  intro w7 h
  obtain ⟨r3, hr4, hF⟩ := bindS hF
  refine r_callB r3 h call100 (impl_within_ok hr4) rfl rfl rfl rfl ?_
  intro w8 h
  refine rp rfl rfl ?_
  by_cases hc9 : r3 = true
  · replace hF := bifT hc9 hF
    refine r_setT hc9 (t := 48) rfl (r_wanted rfl (rp rfl rfl (r_wanted rfl ?_)))
    obtain ⟨r4, hr5, hF⟩ := bindS hF
    refine r_callB r4 h call154 (impl_areNames_ok (h.own 0 rfl) hr5) rfl rfl rfl rfl ?_
    intro w9 h
    exact rp rfl rfl (rp rfl rfl (r_nil (r_rB tabOk h hF ⟨rfl, trivial⟩)))
  replace hc9 := Bool.eq_false_iff.2 hc9
  replace hF := bifF hc9 hF
  exact r_setF hc9 (t := 48) rfl (r_not rfl rfl rfl (r_not rfl rfl rfl (rp rfl rfl (rp rfl rfl (r_nil (r_rB tabOk h hF ⟨rfl, trivial⟩))))))

def impl_Cell_output (n : Nat) (c : TCell) : Option Int :=
  (impl_length_impl_Pin n c.Pins).bind fun r1 =>
  some (W64 (r1 - 1))

theorem impl_Cell_output_ok {n : Nat} {w : World} {c : TCell} {cs1 : List Value} (ha1 : GoT.R w (old w) c cs1) {r : Int} (hF : impl_Cell_output n c = some r) : RetV Tryz.prog 106 [GoT.v TCell cs1] w r := by
  obtain ⟨p1, k1, p2, k2, p3, k3, rfl, s1, s2, s3⟩ := open_TCell ha1
  refine retV_of_run Tryz.func106 rfl (m := 7) rfl rfl (fun h => ?_)
  rw [impl_Cell_output] at hF
  refine r_seq (r_region (r_box h rfl rfl ?_))
  intro w1 bb1 h
  refine rp rfl rfl (r_nil (r_seq (r_region (rp rfl rfl (r_v (v_ld tabOk (h.box 0 rfl) (j := 2) rfl rfl rfl) rfl ?_)))))
  obtain ⟨r1, hr1, hF⟩ := bindS hF
  refine r_callI r1 h call142 (impl_length_impl_Pin_ok ⟨_, _, rfl, (h.oldS s1)⟩ hr1) rfl rfl rfl rfl ?_
  intro w2 h
  exact rp rfl rfl (rp rfl rfl (r_nil (r_rI tabOk h hF ⟨rfl, trivial⟩)))

def impl_isCheck (_ : Nat) (kind : Int) : Option Bool :=
  bif (kind == 4) then
    some true
  else
    some (kind == 5)

theorem impl_isCheck_ok {n : Nat} {w : World} {kind : Int}  {r : Bool} (hF : impl_isCheck n kind = some r) : RetV Tryz.prog 198 [.int .i64 kind] w r := by
  refine retV_of_run Tryz.func198 rfl (m := 9) rfl rfl (fun h => ?_)
  rw [impl_isCheck] at hF
  refine r_seq (r_region (rp rfl rfl (r_nil (r_seq (r_region (rp rfl rfl (rp rfl rfl (rp rfl rfl ?_))))))))
  by_cases hc1 : (kind == 4) = true
  · replace hF := bifT hc1 hF
    exact r_setT hc1 (t := 5) rfl (r_not rfl rfl rfl (r_not rfl rfl rfl (rp rfl rfl (rp rfl rfl (r_nil (r_rB tabOk h hF ⟨rfl, trivial⟩))))))
  replace hc1 := Bool.eq_false_iff.2 hc1
  replace hF := bifF hc1 hF
  exact r_setF hc1 (t := 5) rfl (r_wanted rfl (rp rfl rfl (r_wanted rfl (rp rfl rfl (rp rfl rfl (rp rfl rfl (r_nil (r_rB tabOk h hF ⟨rfl, trivial⟩))))))))

def impl_areWithin_1 (n : Nat) (a_n : Int) (v0 : Int) (v1 : Int) : Option Bool :=
  (impl_within n a_n v0 v1).bind fun r1 =>
  some (!r1)

theorem impl_areWithin_1_ok {n : Nat} {w : World} {a_n : Int} {v0 : Int} {v1 : Int} {p1 : Option Addr} (ha1 : GoT.R w (old w) (some v0) [.pointer p1]) {p2 : Option Addr} (ha2 : GoT.R w (old w) (some v1) [.pointer p2]) {r : Bool} (hF : impl_areWithin_1 n a_n v0 v1 = some r) : RetV Tryz.prog 137 [.int .i64 a_n, .pointer p1, .pointer p2] w r := by
  obtain ⟨b1, o_1, cs1, rfl, -, hr1, hc1⟩ := PtR.get ha1 rfl
  obtain rfl := hr1
  obtain ⟨b2, o_2, cs2, rfl, -, hr2, hc2⟩ := PtR.get ha2 rfl
  obtain rfl := hr2
  refine retV_of_run Tryz.func137 rfl (m := 10) rfl rfl (fun h => ?_)
  rw [impl_areWithin_1] at hF
  refine r_seq (r_region (rp rfl rfl (r_nil (r_seq (r_region (rp rfl rfl (r_v (v_ld tabOk (hc1.below h.below) (j := 0) rfl rfl rfl) rfl (r_v (v_ld tabOk (hc2.below h.below) (j := 0) rfl rfl rfl) rfl ?_))))))))
  obtain ⟨r1, hr3, hF⟩ := bindS hF
  refine r_callB r1 h call100 (impl_within_ok hr3) rfl rfl rfl rfl ?_
  intro w1 h
  exact rp rfl rfl (rp rfl rfl (r_nil (r_rB tabOk h hF ⟨rfl, trivial⟩)))

def slices_IndexFunc_int64_impl_areWithin_1_L1 (s : (List Int)) (f_0 : Int) (f_1 : Int) : Nat → Int → Option (Flow Int Int)
  | 0, _ => none
  | n + 1, i1 =>
    bif decide (i1 < (s.length : Int)) then
      (idx s i1).bind fun y1 =>
      (impl_areWithin_1 n y1 f_0 f_1).bind fun r1 =>
      bif r1 then
        some (.ret i1)
      else
        slices_IndexFunc_int64_impl_areWithin_1_L1 s f_0 f_1 n (W64 (i1 + 1))
    else
      some (.nxt i1)

def slices_IndexFunc_int64_impl_areWithin_1 (n : Nat) (s : (List Int)) (f_0 : Int) (f_1 : Int) : Option Int :=
  (slices_IndexFunc_int64_impl_areWithin_1_L1 s f_0 f_1 n 0).bind fun o => match o with
  | .ret r => some r
  | .nxt _ =>
    some (-1)

theorem slices_IndexFunc_int64_impl_areWithin_1_ok {n : Nat} {w : World} {s : (List Int)} {f_0 : Int} {f_1 : Int} {cs1 : List Value} (ha1 : GoT.R w (old w) s cs1) {p2 : Option Addr} (ha2 : GoT.R w (old w) (some f_0) [.pointer p2]) {p3 : Option Addr} (ha3 : GoT.R w (old w) (some f_1) [.pointer p3]) {r : Int} (hF : slices_IndexFunc_int64_impl_areWithin_1 n s f_0 f_1 = some r) : RetV Tryz.prog 159 [GoT.v (List Int) cs1, .func (.func 137) #[] #[.pointer p2, .pointer p3]] w r := by
  obtain ⟨p1, k1, rfl, s1⟩ := ha1
  obtain ⟨b1, o_1, cs2, rfl, -, hr1, hc1⟩ := PtR.get ha2 rfl
  obtain rfl := hr1
  obtain ⟨b2, o_2, cs3, rfl, -, hr2, hc2⟩ := PtR.get ha3 rfl
  obtain rfl := hr2
  refine retV_of_run Tryz.func159 rfl (m := 19) rfl rfl (fun h => ?_)
  rw [slices_IndexFunc_int64_impl_areWithin_1] at hF
  refine r_seq (r_region (rp rfl rfl (r_nil (r_seq (r_seq (r_region (rp rfl rfl (rp rfl rfl (rp rfl rfl (r_nil ?_))))))))))
  obtain ⟨o1, hF, hK1⟩ := bindS hF
  refine r_block (r_sub [(0, _), (1, _), (7, _), (8, _)] ⟨rfl, rfl, rfl, rfl, trivial⟩ ?_)
  refine r_loop (fun m e w' => ∃ (i1 : Int), slices_IndexFunc_int64_impl_areWithin_1_L1 s f_0 f_1 m i1 = some o1 ∧ e = [(0, .slice p1 s.length k1), (1, .func (.func 137) #[] #[.pointer (some ⟨b1, o_1, none⟩), .pointer (some ⟨b2, o_2, none⟩)]), (7, .int .i64 (s.length : Int)), (8, .int .i64 i1)] ∧ SH w w' []) n ⟨_, hF, rfl, h⟩ ?_
  rintro m1 e1 w1 ⟨i1, hF, rfl, h⟩
  rcases m1 with _ | m1
  · rw [slices_IndexFunc_int64_impl_areWithin_1_L1] at hF
    cases hF
  rw [slices_IndexFunc_int64_impl_areWithin_1_L1] at hF
  refine r_seq (r_region (rp rfl rfl (r_nil (r_seq ?_))))
  refine r_if rfl hF (fun hF => ?_) (fun hF => ?_)
  · refine r_skip (r_seq (r_block (r_seq (r_region (rp rfl rfl (rp rfl rfl (r_nil (r_seq (r_region (rp rfl rfl (rp rfl rfl ?_)))))))))))
    refine rp rfl rfl ?_
    obtain ⟨y1, hy1, hF⟩ := bindS hF
    have he1 := idx_some hy1
    obtain ⟨b3, o_3, q1, cs4, hp1, hq1, -, hr3, hc4⟩ := s1.at hy1
    obtain rfl := hr3
    refine r_v (v_ix tabOk hp1 hq1 ⟨he1.1, he1.2.1⟩ rfl rfl rfl rfl rfl rfl) rfl (r_v (v_ld tabOk (hc4.below h.below) (j := 0) rfl rfl rfl) rfl ?_)
    obtain ⟨r1, hr4, hF⟩ := bindS hF
    refine r_callB r1 h call137 (impl_areWithin_1_ok (h.old ha2) (h.old ha3) hr4) rfl rfl rfl rfl ?_
    intro w2 h
    refine r_nil ?_
    refine r_if rfl hF (fun hF => ?_) (fun hF => ?_)
    · refine r_seq (r_region (rp rfl rfl (rp rfl rfl (r_nil ?_))))
      obtain rfl := someI hF; replace hF := hK1
      exact r_rI tabOk h hF ⟨rfl, trivial⟩
    exact r_skip (r_blk (r_region (rp rfl rfl (rp rfl rfl (r_nil (r_back m1 [(0, _), (1, _), (7, _), (8, _)] (Nat.lt_succ_self m1) ⟨rfl, rfl, rfl, rfl, trivial⟩ ⟨_, hF, rfl, h⟩))))))
  refine r_exit rfl ?_
  obtain rfl := someI hF; replace hF := hK1
  exact r_seq (r_region (rp rfl rfl (r_nil (r_rI tabOk h hF ⟨rfl, trivial⟩))))

def slices_ContainsFunc_int64_impl_areWithin_1 (n : Nat) (s : (List Int)) (f_0 : Int) (f_1 : Int) : Option Bool :=
  (slices_IndexFunc_int64_impl_areWithin_1 n s f_0 f_1).bind fun r1 =>
  some (decide (r1 ≥ 0))

theorem slices_ContainsFunc_int64_impl_areWithin_1_ok {n : Nat} {w : World} {s : (List Int)} {f_0 : Int} {f_1 : Int} {cs1 : List Value} (ha1 : GoT.R w (old w) s cs1) {p2 : Option Addr} (ha2 : GoT.R w (old w) (some f_0) [.pointer p2]) {p3 : Option Addr} (ha3 : GoT.R w (old w) (some f_1) [.pointer p3]) {r : Bool} (hF : slices_ContainsFunc_int64_impl_areWithin_1 n s f_0 f_1 = some r) : RetV Tryz.prog 136 [GoT.v (List Int) cs1, .func (.func 137) #[] #[.pointer p2, .pointer p3]] w r := by
  obtain ⟨p1, k1, rfl, s1⟩ := ha1
  obtain ⟨b1, o_1, cs2, rfl, -, hr1, hc1⟩ := PtR.get ha2 rfl
  obtain rfl := hr1
  obtain ⟨b2, o_2, cs3, rfl, -, hr2, hc2⟩ := PtR.get ha3 rfl
  obtain rfl := hr2
  refine retV_of_run Tryz.func136 rfl (m := 9) rfl rfl (fun h => ?_)
  rw [slices_ContainsFunc_int64_impl_areWithin_1] at hF
  refine r_seq (r_region (rp rfl rfl (r_nil (r_seq (r_region (rp rfl rfl (rp rfl rfl ?_)))))))
  obtain ⟨r1, hr3, hF⟩ := bindS hF
  refine r_callI r1 h call159 (slices_IndexFunc_int64_impl_areWithin_1_ok ⟨_, _, rfl, (h.oldS s1)⟩ (h.old ha2) (h.old ha3) hr3) rfl rfl rfl rfl ?_
  intro w1 h
  exact rp rfl rfl (rp rfl rfl (r_nil (r_rB tabOk h hF ⟨rfl, trivial⟩)))

def impl_areWithin (n : Nat) (list : (List Int)) (low : Int) (high : Int) : Option Bool :=
  (slices_ContainsFunc_int64_impl_areWithin_1 n list low high).bind fun r1 =>
  some (!r1)

theorem impl_areWithin_ok {n : Nat} {w : World} {list : (List Int)} {low : Int} {high : Int} {cs1 : List Value} (ha1 : GoT.R w (old w) list cs1) {r : Bool} (hF : impl_areWithin n list low high = some r) : RetV Tryz.prog 82 [GoT.v (List Int) cs1, .int .i64 low, .int .i64 high] w r := by
  obtain ⟨p1, k1, rfl, s1⟩ := ha1
  refine retV_of_run Tryz.func82 rfl (m := 11) rfl rfl (fun h => ?_)
  rw [impl_areWithin] at hF
  refine r_seq (r_region (r_box h rfl rfl ?_))
  intro w1 bb1 h
  refine r_box h rfl rfl ?_
  intro w2 bb2 h
  refine rp rfl rfl (r_nil (r_seq (r_region (rp rfl rfl (rp rfl rfl ?_)))))
  obtain ⟨r1, hr1, hF⟩ := bindS hF
  refine r_callB r1 h call136 (slices_ContainsFunc_int64_impl_areWithin_1_ok ⟨_, _, rfl, (h.oldS s1)⟩ (ptr_boxB (x := low) 1 h rfl rfl) (ptr_boxB (x := high) 0 h rfl rfl) hr1) rfl rfl rfl rfl ?_
  intro w3 h
  exact rp rfl rfl (rp rfl rfl (r_nil (r_rB tabOk h hF ⟨rfl, trivial⟩)))

def impl_length_int64 (_ : Nat) (list : (List Int)) : Option Int :=
  some (list.length : Int)

theorem impl_length_int64_ok {n : Nat} {w : World} {list : (List Int)} {cs1 : List Value} (ha1 : GoT.R w (old w) list cs1) {r : Int} (hF : impl_length_int64 n list = some r) : RetV Tryz.prog 79 [GoT.v (List Int) cs1] w r := by
  obtain ⟨p1, k1, rfl, s1⟩ := ha1
  refine retV_of_run Tryz.func79 rfl (m := 5) rfl rfl (fun h => ?_)
  rw [impl_length_int64] at hF
  exact r_seq (r_region (rp rfl rfl (r_nil (r_seq (r_region (rp rfl rfl (rp rfl rfl (rp rfl rfl (r_nil (r_rI tabOk h hF ⟨rfl, trivial⟩))))))))))

def impl_isIncreasing_L1 (list : (List Int)) : Nat → Int → Option (Flow Bool Int)
  | 0, _ => none
  | n + 1, i1 =>
    bif decide (i1 < (list.length : Int)) then
      (idx list (W64 (i1 - 1))).bind fun y1 =>
      (idx list i1).bind fun y2 =>
      bif decide (y1 ≥ y2) then
        some (.ret false)
      else
        impl_isIncreasing_L1 list n (W64 (i1 + 1))
    else
      some (.nxt i1)

def impl_isIncreasing (n : Nat) (list : (List Int)) : Option Bool :=
  (impl_isIncreasing_L1 list n 1).bind fun o => match o with
  | .ret r => some r
  | .nxt _ =>
    some true

theorem impl_isIncreasing_ok {n : Nat} {w : World} {list : (List Int)} {cs1 : List Value} (ha1 : GoT.R w (old w) list cs1) {r : Bool} (hF : impl_isIncreasing n list = some r) : RetV Tryz.prog 85 [GoT.v (List Int) cs1] w r := by
  obtain ⟨p1, k1, rfl, s1⟩ := ha1
  refine retV_of_run Tryz.func85 rfl (m := 20) rfl rfl (fun h => ?_)
  rw [impl_isIncreasing] at hF
  refine r_seq (r_region (rp rfl rfl (r_nil (r_seq (r_seq (r_region (rp rfl rfl (r_nil ?_))))))))
  obtain ⟨o1, hF, hK1⟩ := bindS hF
  refine r_block (r_sub [(0, _), (3, _)] ⟨rfl, rfl, trivial⟩ ?_)
  refine r_loop (fun m e w' => ∃ (i1 : Int), impl_isIncreasing_L1 list m i1 = some o1 ∧ e = [(0, .slice p1 list.length k1), (3, .int .i64 i1)] ∧ SH w w' []) n ⟨_, hF, rfl, h⟩ ?_
  rintro m1 e1 w1 ⟨i1, hF, rfl, h⟩
  rcases m1 with _ | m1
  · rw [impl_isIncreasing_L1] at hF
    cases hF
  rw [impl_isIncreasing_L1] at hF
  refine r_seq (r_seq (r_region (rp rfl rfl (rp rfl rfl (rp rfl rfl (rp rfl rfl (r_nil ?_)))))))
  refine r_if rfl hF (fun hF => ?_) (fun hF => ?_)
  · refine r_skip (r_seq (r_block (r_seq ?_)))
    refine r_draw rfl (by kernel_rfl) ?_
    refine dp rfl rfl (dp rfl rfl (dp rfl rfl ?_))
    obtain ⟨y1, hy1, hF⟩ := bindS hF
    have he1 := idx_some hy1
    obtain ⟨b1, o_1, q1, cs2, hp1, hq1, -, hr1, hc2⟩ := s1.at hy1
    obtain rfl := hr1
    refine d_v (fun _ hb => v_ix tabOk hp1 hq1 ⟨he1.1, he1.2.1⟩ rfl rfl rfl rfl rfl rfl) rfl ?_
    refine d_v (fun _ hb => v_ld tabOk ((hc2.below h.below).below hb) (j := 0) rfl rfl rfl) rfl ?_
    refine dp rfl rfl (dp rfl rfl ?_)
    obtain ⟨y2, hy2, hF⟩ := bindS hF
    have he2 := idx_some hy2
    obtain ⟨b2, o_2, q2, cs3, hp2, hq2, -, hr2, hc3⟩ := s1.at hy2
    obtain rfl := hr2
    refine d_v (fun _ hb => v_ix tabOk hp2 hq2 ⟨he2.1, he2.2.1⟩ rfl rfl rfl rfl rfl rfl) rfl ?_
    refine d_v (fun _ hb => v_ld tabOk ((hc3.below h.below).below hb) (j := 0) rfl rfl rfl) rfl ?_
    refine dp rfl rfl ?_
    refine d_nil (fun w2 hb => ?_)
    replace h := h.ext hb
    clear hb
    refine r_if rfl hF (fun hF => ?_) (fun hF => ?_)
    · refine r_seq (r_region (rp rfl rfl (r_nil ?_)))
      obtain rfl := someI hF; replace hF := hK1
      exact r_rB tabOk h hF ⟨rfl, trivial⟩
    exact r_skip (r_blk (r_region (rp rfl rfl (rp rfl rfl (rp rfl rfl (r_nil (r_back m1 [(0, _), (3, _)] (Nat.lt_succ_self m1) ⟨rfl, rfl, trivial⟩ ⟨_, hF, rfl, h⟩)))))))
  refine r_exit rfl ?_
  obtain rfl := someI hF; replace hF := hK1
  exact r_seq (r_region (rp rfl rfl (r_nil (r_rB tabOk h hF ⟨rfl, trivial⟩))))

def impl_isAxis (n : Nat) (list : (List Int)) : Option Bool :=
  (impl_length_int64 n list).bind fun r1 =>
  (impl_within n r1 1 4).bind fun r2 =>
  bif r2 then
    (impl_areWithin n list 0 100000).bind fun r3 =>
    bif r3 then
      (impl_isIncreasing n list).bind fun r4 =>
      some r4
    else
      some false
  else
    some false

theorem impl_isAxis_ok {n : Nat} {w : World} {list : (List Int)} {cs1 : List Value} (ha1 : GoT.R w (old w) list cs1) {r : Bool} (hF : impl_isAxis n list = some r) : RetV Tryz.prog 221 [GoT.v (List Int) cs1] w r := by
  obtain ⟨p1, k1, rfl, s1⟩ := ha1
  refine retV_of_run Tryz.func221 rfl (m := 14) rfl rfl (fun h => ?_)
  rw [impl_isAxis] at hF
  refine r_seq (r_region (rp rfl rfl (r_nil (r_seq (r_region (rp rfl rfl ?_))))))
  obtain ⟨r1, hr1, hF⟩ := bindS hF
  refine r_callI r1 h call79 (impl_length_int64_ok ⟨_, _, rfl, (h.oldS s1)⟩ hr1) rfl rfl rfl rfl ?_
  intro w1 h
  obtain ⟨r2, hr2, hF⟩ := bindS hF
  refine r_callB r2 h call100 (impl_within_ok hr2) rfl rfl rfl rfl ?_
  intro w2 h
  refine rp rfl rfl ?_
  by_cases hc1 : r2 = true
  · replace hF := bifT hc1 hF
    refine r_setT hc1 (t := 6) rfl (r_wanted rfl (rp rfl rfl (r_wanted rfl ?_)))
    obtain ⟨r3, hr3, hF⟩ := bindS hF
    refine r_callB r3 h call82 (impl_areWithin_ok ⟨_, _, rfl, (h.oldS s1)⟩ hr3) rfl rfl rfl rfl ?_
    intro w3 h
    refine rp rfl rfl (rp rfl rfl ?_)
    by_cases hc2 : r3 = true
    · replace hF := bifT hc2 hF
      refine r_setT hc2 (t := 10) rfl (r_wanted rfl (rp rfl rfl (r_wanted rfl ?_)))
      obtain ⟨r4, hr4, hF⟩ := bindS hF
      refine r_callB r4 h call85 (impl_isIncreasing_ok ⟨_, _, rfl, (h.oldS s1)⟩ hr4) rfl rfl rfl rfl ?_
      intro w4 h
      exact rp rfl rfl (rp rfl rfl (r_nil (r_rB tabOk h hF ⟨rfl, trivial⟩)))
    replace hc2 := Bool.eq_false_iff.2 hc2
    replace hF := bifF hc2 hF
    exact r_setF hc2 (t := 10) rfl (r_not rfl rfl rfl (r_not rfl rfl rfl (rp rfl rfl (rp rfl rfl (r_nil (r_rB tabOk h hF ⟨rfl, trivial⟩))))))
  replace hc1 := Bool.eq_false_iff.2 hc1
  replace hF := bifF hc1 hF
  exact r_setF hc1 (t := 6) rfl (r_not rfl rfl rfl (r_not rfl rfl rfl (rp rfl rfl (rp rfl rfl (r_not rfl rfl rfl (r_not rfl rfl rfl (rp rfl rfl (rp rfl rfl (r_nil (r_rB tabOk h hF ⟨rfl, trivial⟩))))))))))

end Go.Fw
