/- By a program of mine (gen.py): for each function a plain function and the proof that the code computes it. -/
import Derived.Test.YtlkocmcfefnolaaC1
namespace Go.Fw
open Go Go.Proofs
set_option maxRecDepth 100000
def impl_LatchSystem_departures_L3 (a_0 : TLatchSystem) (r2 : (List Int)) (r3 : (List Bool)) : Nat → (List Int) → Bool → Int → Option ((List Int) × Bool × Int)
  | 0, _, _, _ => none
  | n + 1, x4, b3, i3 =>
    bif decide (i3 < (((a_0.Latches.length : Int).toNat : Nat) : Int)) then
      (
        (idx r3 i3).bind fun y5 =>
        bif y5 then
          (idx r2 i3).bind fun y6 =>
          (idx x4 i3).bind fun y7 =>
          some (decide (y6 > y7))
        else
          some false).bind fun b4 =>
      bif b4 then
        (idx r2 i3).bind fun y3 =>
        (idx x4 i3).bind fun _ =>
        impl_LatchSystem_departures_L3 a_0 r2 r3 n (setS x4 i3 y3) true (W64 (i3 + 1))
      else
        impl_LatchSystem_departures_L3 a_0 r2 r3 n x4 b3 (W64 (i3 + 1))
    else
      some (x4, b3, i3)

def impl_LatchSystem_departures_L2 (a_0 : TLatchSystem) : Nat → (List Int) → Int → Option (Flow ((List Int) × Bool) ((List Int) × Int))
  | 0, _, _ => none
  | n + 1, x3, i2 =>
    bif decide (i2 < (W64 ((((a_0.Latches.length : Int).toNat : Nat) : Int) + 1))) then
      (impl_LatchSystem_arrivals n a_0 x3).bind fun o => match o with
        | (r2, r3) =>
          (impl_LatchSystem_departures_L3 a_0 r2 r3 n x3 false 0).bind fun o => match o with
          | (x4, b3, _) =>
            bif (!b3) then
              some (.ret (x4, true))
            else
              impl_LatchSystem_departures_L2 a_0 n x4 (W64 (i2 + 1))
    else
      some (.nxt (x3, i2))

def impl_LatchSystem_departures_L1 (a_0 : TLatchSystem) : Nat → (List Int) → Int → Option ((List Int) × Int)
  | 0, _, _ => none
  | n + 1, x2, i1 =>
    bif decide (i1 < (a_0.Latches.length : Int)) then
      (idx a_0.Latches i1).bind fun y1 =>
      (idx x2 i1).bind fun _ =>
      impl_LatchSystem_departures_L1 a_0 n (setS x2 i1 y1.Open) (W64 (i1 + 1))
    else
      some (x2, i1)

def impl_LatchSystem_departures (n : Nat) (a_0 : TLatchSystem) : Option ((List Int) × Bool) :=
  (mkS (a_0.Latches.length : Int) (0 : Int)).bind fun x1 =>
  (impl_LatchSystem_departures_L1 a_0 n x1 0).bind fun o => match o with
  | (x2, _) =>
    (impl_LatchSystem_departures_L2 a_0 n x2 0).bind fun o => match o with
    | .ret r => some r
    | .nxt (_, _) =>
      some ([], false)

theorem impl_LatchSystem_departures_ok {n : Nat} {w : World} {a_0 : TLatchSystem} {cs1 : List Value} (ha1 : GoT.R w (old w) a_0 cs1) {r : ((List Int) × Bool)} (hF : impl_LatchSystem_departures n a_0 = some r) : RetV Try.prog 54 [GoT.v TLatchSystem cs1] w r := by
  obtain ⟨p1, k1, p2, k2, rfl, s1, s2⟩ := open_TLatchSystem ha1
  refine retV_of_run Try.func54 rfl (m := 72) rfl rfl (fun h => ?_)
  rw [impl_LatchSystem_departures] at hF
  refine r_seq ?_
  refine r_region ?_
  refine r_box h rfl rfl ?_
  intro w1 bb1 h
  refine r_p tabOk rfl rfl ?_
  refine r_p tabOk rfl rfl ?_
  refine r_nil ?_
  refine r_seq ?_
  refine r_region ?_
  refine r_p tabOk rfl rfl ?_
  refine r_v (v_ld tabOk (h.box 0 rfl) (j := 0) rfl rfl rfl) rfl ?_
  refine r_p tabOk rfl rfl ?_
  obtain ⟨x1, hx1, hF⟩ := bindS hF
  obtain ⟨g1, g2, hx1⟩ := mkS_some hx1
  refine r_make tabOk Int h rfl rfl rfl rfl rfl rfl rfl rfl rfl g1 g2 rfl ?_
  intro w2 S1 p3 h
  replace hx1 : List.replicate _ GoT.zero = x1 := hx1
  rw [hx1] at h
  refine r_p tabOk rfl rfl ?_
  refine r_nil ?_
  refine r_seq ?_
  refine r_seq ?_
  refine r_region ?_
  refine r_p tabOk rfl rfl ?_
  refine r_v (v_ld tabOk (h.box 1 rfl) (j := 0) rfl rfl rfl) rfl ?_
  refine r_p tabOk rfl rfl ?_
  refine r_p tabOk rfl rfl ?_
  refine r_nil ?_
  obtain ⟨o1, hF, hK1⟩ := bindS hF
  refine r_block ?_
  refine r_sub [(1, _), (4, _), (16, _), (17, _), (18, _)] ⟨rfl, rfl, rfl, rfl, rfl, trivial⟩ ?_
  refine r_loop (fun m e w' => ∃ (x2 : (List Int)) (i1 : Int), impl_LatchSystem_departures_L1 a_0 m x2 i1 = some o1 ∧ e = [(1, .pointer (some ⟨bb1, 0, none⟩)), (4, .slice p3 ((a_0.Latches.length : Int).toNat) ((a_0.Latches.length : Int).toNat)), (16, .slice p1 a_0.Latches.length k1), (17, .int .i64 (a_0.Latches.length : Int)), (18, .int .i64 i1)] ∧ SH w w' [Ch.own S1 (x2 : List Int) [.slice p3 ((a_0.Latches.length : Int).toNat) ((a_0.Latches.length : Int).toNat)], Ch.box bb1 [.slice p1 a_0.Latches.length k1, .slice p2 a_0.Links.length k2] 41]) n ⟨_, _, hF, rfl, h⟩ ?_
  rintro m1 e1 w3 ⟨x2, i1, hF, rfl, h⟩
  rcases m1 with _ | m1
  · rw [impl_LatchSystem_departures_L1] at hF
    cases hF
  rw [impl_LatchSystem_departures_L1] at hF
  refine r_seq ?_
  refine r_region ?_
  refine r_p tabOk rfl rfl ?_
  refine r_nil ?_
  refine r_seq ?_
  refine r_cond rfl (fun hc1 => ?_) (fun hc1 => ?_)
  · replace hF := bifT hc1 hF
    refine r_skip ?_
    refine r_seq ?_
    refine r_block ?_
    refine r_seq ?_
    refine r_region ?_
    refine r_p tabOk rfl rfl ?_
    obtain ⟨y1, hy1, hF⟩ := bindS hF
    have he1 := idx_some hy1
    obtain ⟨b1, o_1, q1, cs2, hp1, hq1, -, hr1, hc2⟩ := s1.at hy1
    obtain rfl := open_TLatch hr1
    refine r_v (v_ix tabOk hp1 hq1 ⟨he1.1, he1.2.1⟩ rfl rfl rfl rfl rfl rfl) rfl ?_
    refine r_v (v_ld tabOk (hc2.below h.below) (j := 0) rfl rfl rfl) rfl ?_
    refine r_alloc tabOk h rfl rfl rfl ?_
    intro w4 bb2 h
    refine r_p tabOk rfl rfl ?_
    refine r_stbox tabOk 0 h rfl rfl rfl rfl rfl rfl rfl ?_
    intro w5 h
    refine r_nil ?_
    refine r_region ?_
    refine r_p tabOk rfl rfl ?_
    refine r_p tabOk rfl rfl ?_
    refine r_p tabOk rfl rfl ?_
    refine r_v (v_ld tabOk (h.box 0 rfl) (j := 0) rfl rfl rfl) rfl ?_
    obtain ⟨y2, hy2, hF⟩ := bindS hF
    have he2 := idx_some hy2
    obtain ⟨b2, o_2, q2, cs3, hp2, hq2, -, hr2, hc3⟩ := (h.sl 1 rfl).1.at hy2
    obtain rfl := hr2
    refine r_v (v_ix tabOk hp2 hq2 ⟨he2.1, lt_ln he2.2.1 (h.sl 1 rfl).2⟩ rfl rfl rfl rfl rfl rfl) rfl ?_
    refine r_stown tabOk 1 0 y1.Open h rfl hy2 hp2 hq2 rfl hc3 rfl rfl rfl rfl rfl rfl rfl ?_
    intro w6 h
    refine r_nil ?_
    refine r_blk ?_
    refine r_region ?_
    refine r_p tabOk rfl rfl ?_
    refine r_p tabOk rfl rfl ?_
    refine r_nil ?_
    replace h := h.pick [1, 2] rfl
    exact r_back m1 [(1, _), (4, _), (16, _), (17, _), (18, _)] (Nat.lt_succ_self m1) ⟨rfl, rfl, rfl, rfl, rfl, trivial⟩ ⟨_, _, hF, rfl, h⟩
  · replace hF := bifF hc1 hF
    refine r_exit rfl ?_
    obtain rfl := someI hF; replace hF := hK1
    refine r_seq ?_
    refine r_seq ?_
    refine r_region ?_
    refine r_p tabOk rfl rfl ?_
    refine r_p tabOk rfl rfl ?_
    refine r_p tabOk rfl rfl ?_
    refine r_p tabOk rfl rfl ?_
    refine r_nil ?_
    obtain ⟨o2, hF, hK2⟩ := bindS hF
    refine r_block ?_
    refine r_sub [(1, _), (4, _), (31, _), (32, _)] ⟨rfl, rfl, rfl, rfl, trivial⟩ ?_
    refine r_loop (fun m e w' => ∃ (x3 : (List Int)) (i2 : Int), impl_LatchSystem_departures_L2 a_0 m x3 i2 = some o2 ∧ e = [(1, .pointer (some ⟨bb1, 0, none⟩)), (4, .slice p3 ((a_0.Latches.length : Int).toNat) ((a_0.Latches.length : Int).toNat)), (31, .int .i64 (W64 ((((a_0.Latches.length : Int).toNat : Nat) : Int) + 1))), (32, .int .i64 i2)] ∧ SH w w' [Ch.own S1 (x3 : List Int) [.slice p3 ((a_0.Latches.length : Int).toNat) ((a_0.Latches.length : Int).toNat)], Ch.box bb1 [.slice p1 a_0.Latches.length k1, .slice p2 a_0.Links.length k2] 41]) n ⟨_, _, hF, rfl, h⟩ ?_
    rintro m2 e2 w7 ⟨x3, i2, hF, rfl, h⟩
    rcases m2 with _ | m2
    · rw [impl_LatchSystem_departures_L2] at hF
      cases hF
    rw [impl_LatchSystem_departures_L2] at hF
    refine r_seq ?_
    refine r_region ?_
    refine r_p tabOk rfl rfl ?_
    refine r_nil ?_
    refine r_seq ?_
    refine r_cond rfl (fun hc4 => ?_) (fun hc4 => ?_)
    · replace hF := bifT hc4 hF
      refine r_skip ?_
      refine r_seq ?_
      refine r_block ?_
      refine r_seq ?_
      refine r_region ?_
      refine r_v (v_ld tabOk (h.box 1 rfl) (j := 0) rfl rfl rfl) rfl ?_
      refine r_p tabOk rfl rfl ?_
      obtain ⟨r1, hr3, hF⟩ := bindS hF
      obtain ⟨r2, r3⟩ := r1
      refine r_call (r2, r3) h call55 (impl_LatchSystem_arrivals_ok (h.old ha1) (h.own 0 rfl) hr3) rfl rfl rfl rfl ?_
      intro w8 S2 us1 hv1 hr4
      obtain ⟨S3, S4, p4, k3, us2, rfl, hv1, hr4⟩ := hv1.consL hr4
      obtain ⟨p5, k4, rfl, h⟩ := hv1.lastL hr4
      refine r_p tabOk rfl rfl ?_
      refine r_p tabOk rfl rfl ?_
      refine r_p tabOk rfl rfl ?_
      refine r_p tabOk rfl rfl ?_
      refine r_p tabOk rfl rfl ?_
      refine r_nil ?_
      refine r_seq ?_
      refine r_region ?_
      refine r_p tabOk rfl rfl ?_
      refine r_nil ?_
      refine r_seq ?_
      refine r_seq ?_
      refine r_region ?_
      refine r_p tabOk rfl rfl ?_
      refine r_p tabOk rfl rfl ?_
      refine r_p tabOk rfl rfl ?_
      refine r_nil ?_
      obtain ⟨o3, hF, hK3⟩ := bindS hF
      refine r_block ?_
      refine r_sub [(1, _), (4, _), (7, _), (8, _), (9, _), (31, _), (32, _), (41, _), (42, _)] ⟨rfl, rfl, rfl, rfl, rfl, rfl, rfl, rfl, rfl, trivial⟩ ?_
      refine r_loop (fun m e w' => ∃ (x4 : (List Int)) (b3 : Bool) (i3 : Int), impl_LatchSystem_departures_L3 a_0 r2 r3 m x4 b3 i3 = some o3 ∧ e = [(1, .pointer (some ⟨bb1, 0, none⟩)), (4, .slice p3 ((a_0.Latches.length : Int).toNat) ((a_0.Latches.length : Int).toNat)), (7, .slice p4 r2.length k3), (8, .slice p5 r3.length k4), (9, .bool b3), (31, .int .i64 (W64 ((((a_0.Latches.length : Int).toNat : Nat) : Int) + 1))), (32, .int .i64 i2), (41, .int .i64 (((a_0.Latches.length : Int).toNat : Nat) : Int)), (42, .int .i64 i3)] ∧ SH w w' [Ch.own S4 (r3 : List Bool) [.slice p5 r3.length k4], Ch.own S3 (r2 : List Int) [.slice p4 r2.length k3], Ch.own S1 (x4 : List Int) [.slice p3 ((a_0.Latches.length : Int).toNat) ((a_0.Latches.length : Int).toNat)], Ch.box bb1 [.slice p1 a_0.Latches.length k1, .slice p2 a_0.Links.length k2] 41]) m2 ⟨_, _, _, hF, rfl, h⟩ ?_
      rintro m3 e3 w9 ⟨x4, b3, i3, hF, rfl, h⟩
      rcases m3 with _ | m3
      · rw [impl_LatchSystem_departures_L3] at hF
        cases hF
      rw [impl_LatchSystem_departures_L3] at hF
      refine r_seq ?_
      refine r_region ?_
      refine r_p tabOk rfl rfl ?_
      refine r_nil ?_
      refine r_seq ?_
      refine r_cond rfl (fun hc5 => ?_) (fun hc5 => ?_)
      · replace hF := bifT hc5 hF
        refine r_skip ?_
        refine r_seq ?_
        refine r_block ?_
        refine r_seq ?_
        refine r_region ?_
        refine r_p tabOk rfl rfl ?_
        refine r_p tabOk rfl rfl ?_
        refine r_nil ?_
        refine r_seq ?_
        obtain ⟨KF1, hKF1, o4, hF, hK4⟩ := bindE hF
        refine r_cut (fun e w' => ∃ (b4 : Bool), KF1 b4 = some o3 ∧ e = [(1, .pointer (some ⟨bb1, 0, none⟩)), (4, .slice p3 ((a_0.Latches.length : Int).toNat) ((a_0.Latches.length : Int).toNat)), (7, .slice p4 r2.length k3), (8, .slice p5 r3.length k4), (9, .bool b3), (10, .int .i64 i3), (31, .int .i64 (W64 ((((a_0.Latches.length : Int).toNat : Nat) : Int) + 1))), (32, .int .i64 i2), (41, .int .i64 (((a_0.Latches.length : Int).toNat : Nat) : Int)), (42, .int .i64 i3), (59, .bool b4)] ∧ SH w w' [Ch.own S4 (r3 : List Bool) [.slice p5 r3.length k4], Ch.own S3 (r2 : List Int) [.slice p4 r2.length k3], Ch.own S1 (x4 : List Int) [.slice p3 ((a_0.Latches.length : Int).toNat) ((a_0.Latches.length : Int).toNat)], Ch.box bb1 [.slice p1 a_0.Latches.length k1, .slice p2 a_0.Links.length k2] 41]) ?_ ?_
        · refine r_draw rfl (by kernel_rfl) ?_
          refine d_p tabOk rfl rfl ?_
          refine d_p tabOk rfl rfl ?_
          obtain ⟨y5, hy5, hF⟩ := bindS hF
          have he5 := idx_some hy5
          obtain ⟨b7, o_5, q5, cs6, hp5, hq5, -, hr7, hc9⟩ := (h.sl 0 rfl).1.at hy5
          obtain rfl := hr7
          refine d_v (fun _ hb => v_ix tabOk hp5 hq5 ⟨he5.1, lt_ln he5.2.1 (h.sl 0 rfl).2⟩ rfl rfl rfl rfl rfl rfl) rfl ?_
          refine d_v (fun _ hb => v_ld tabOk (hc9.below hb) (j := 0) rfl rfl rfl) rfl ?_
          refine d_p tabOk rfl rfl ?_
          by_cases hc10 : y5 = true
          · replace hF := bifT hc10 hF
            refine d_setT hc10 (t := 49) rfl ?_
            refine d_wanted rfl ?_
            refine d_p tabOk rfl rfl ?_
            refine d_wanted rfl ?_
            refine d_p tabOk rfl rfl ?_
            refine d_wanted rfl ?_
            obtain ⟨y6, hy6, hF⟩ := bindS hF
            have he6 := idx_some hy6
            obtain ⟨b8, o_6, q6, cs7, hp6, hq6, -, hr8, hc11⟩ := (h.sl 1 rfl).1.at hy6
            obtain rfl := hr8
            refine d_v (fun _ hb => v_ix tabOk hp6 hq6 ⟨he6.1, lt_ln he6.2.1 (h.sl 1 rfl).2⟩ rfl rfl rfl rfl rfl rfl) rfl ?_
            refine d_wanted rfl ?_
            refine d_v (fun _ hb => v_ld tabOk (hc11.below hb) (j := 0) rfl rfl rfl) rfl ?_
            refine d_wanted rfl ?_
            refine d_p tabOk rfl rfl ?_
            refine d_wanted rfl ?_
            refine d_p tabOk rfl rfl ?_
            refine d_wanted rfl ?_
            obtain ⟨y7, hy7, hF⟩ := bindS hF
            have he7 := idx_some hy7
            obtain ⟨b9, o_7, q7, cs8, hp7, hq7, -, hr9, hc12⟩ := (h.sl 2 rfl).1.at hy7
            obtain rfl := hr9
            refine d_v (fun _ hb => v_ix tabOk hp7 hq7 ⟨he7.1, lt_ln he7.2.1 (h.sl 2 rfl).2⟩ rfl rfl rfl rfl rfl rfl) rfl ?_
            refine d_wanted rfl ?_
            refine d_v (fun _ hb => v_ld tabOk (hc12.below hb) (j := 0) rfl rfl rfl) rfl ?_
            refine d_wanted rfl ?_
            refine d_p tabOk rfl rfl ?_
            refine d_p tabOk rfl rfl ?_
            refine d_nil (fun w11 hb => ?_)
            replace h := h.ext hb
            clear hb
            obtain rfl := someI hF
            exact r_cutgoal [(1, _), (4, _), (7, _), (8, _), (9, _), (10, _), (31, _), (32, _), (41, _), (42, _), (59, _)] ⟨rfl, rfl, rfl, rfl, rfl, rfl, rfl, rfl, rfl, rfl, rfl, trivial⟩ ⟨_, hK4, rfl, h⟩
          · replace hc10 := Bool.eq_false_iff.2 hc10
            replace hF := bifF hc10 hF
            refine d_setF hc10 (t := 49) rfl ?_
            refine d_unwanted rfl ?_ (fun _ hd => by cases hd; rfl)
            refine d_unwanted rfl ?_ (fun _ hd => by cases hd; rfl)
            refine d_unwanted rfl ?_ (fun _ hd => by cases hd; rfl)
            refine d_unwanted rfl ?_ (fun _ hd => by cases hd; rfl)
            refine d_unwanted rfl ?_ (fun _ hd => by cases hd; rfl)
            refine d_unwanted rfl ?_ (fun _ hd => by cases hd; rfl)
            refine d_unwanted rfl ?_ (fun _ hd => by cases hd; rfl)
            refine d_unwanted rfl ?_ (fun _ hd => by cases hd; rfl)
            refine d_unwanted rfl ?_ (fun _ hd => by cases hd; rfl)
            refine d_p tabOk rfl rfl ?_
            refine d_nil (fun w12 hb => ?_)
            replace h := h.ext hb
            clear hb
            obtain rfl := someI hF
            exact r_cutgoal [(1, _), (4, _), (7, _), (8, _), (9, _), (10, _), (31, _), (32, _), (41, _), (42, _), (59, _)] ⟨rfl, rfl, rfl, rfl, rfl, rfl, rfl, rfl, rfl, rfl, rfl, trivial⟩ ⟨_, hK4, rfl, h⟩
        · rintro e4 w13 ⟨b4, hF, rfl, h⟩
          subst hKF1
          refine r_cond rfl (fun hc6 => ?_) (fun hc6 => ?_)
          · replace hF := bifT hc6 hF
            refine r_region ?_
            refine r_p tabOk rfl rfl ?_
            refine r_p tabOk rfl rfl ?_
            refine r_p tabOk rfl rfl ?_
            refine r_p tabOk rfl rfl ?_
            obtain ⟨y3, hy3, hF⟩ := bindS hF
            have he3 := idx_some hy3
            obtain ⟨b5, o_3, q3, cs4, hp3, hq3, -, hr5, hc7⟩ := (h.sl 1 rfl).1.at hy3
            obtain rfl := hr5
            refine r_v (v_ix tabOk hp3 hq3 ⟨he3.1, lt_ln he3.2.1 (h.sl 1 rfl).2⟩ rfl rfl rfl rfl rfl rfl) rfl ?_
            refine r_v (v_ld tabOk hc7 (j := 0) rfl rfl rfl) rfl ?_
            obtain ⟨y4, hy4, hF⟩ := bindS hF
            have he4 := idx_some hy4
            obtain ⟨b6, o_4, q4, cs5, hp4, hq4, -, hr6, hc8⟩ := (h.sl 2 rfl).1.at hy4
            obtain rfl := hr6
            refine r_v (v_ix tabOk hp4 hq4 ⟨he4.1, lt_ln he4.2.1 (h.sl 2 rfl).2⟩ rfl rfl rfl rfl rfl rfl) rfl ?_
            refine r_stown tabOk 2 0 y3 h rfl hy4 hp4 hq4 rfl hc8 rfl rfl rfl rfl rfl rfl rfl ?_
            intro w10 h
            refine r_p tabOk rfl rfl ?_
            refine r_nil ?_
            refine r_blk ?_
            refine r_region ?_
            refine r_p tabOk rfl rfl ?_
            refine r_p tabOk rfl rfl ?_
            refine r_nil ?_
            exact r_back m3 [(1, _), (4, _), (7, _), (8, _), (9, _), (31, _), (32, _), (41, _), (42, _)] (Nat.lt_succ_self m3) ⟨rfl, rfl, rfl, rfl, rfl, rfl, rfl, rfl, rfl, trivial⟩ ⟨_, _, _, hF, rfl, h⟩
          · replace hF := bifF hc6 hF
            refine r_skip ?_
            refine r_blk ?_
            refine r_region ?_
            refine r_p tabOk rfl rfl ?_
            refine r_p tabOk rfl rfl ?_
            refine r_nil ?_
            exact r_back m3 [(1, _), (4, _), (7, _), (8, _), (9, _), (31, _), (32, _), (41, _), (42, _)] (Nat.lt_succ_self m3) ⟨rfl, rfl, rfl, rfl, rfl, rfl, rfl, rfl, rfl, trivial⟩ ⟨_, _, _, hF, rfl, h⟩
      · replace hF := bifF hc5 hF
        refine r_exit rfl ?_
        obtain rfl := someI hF; replace hF := hK3
        refine r_seq ?_
        refine r_region ?_
        refine r_p tabOk rfl rfl ?_
        refine r_p tabOk rfl rfl ?_
        refine r_nil ?_
        refine r_cond rfl (fun hc13 => ?_) (fun hc13 => ?_)
        · replace hF := bifT hc13 hF
          refine r_seq ?_
          refine r_region ?_
          refine r_p tabOk rfl rfl ?_
          refine r_p tabOk rfl rfl ?_
          refine r_p tabOk rfl rfl ?_
          refine r_nil ?_
          obtain rfl := someI hF; replace hF := hK2
          obtain rfl := someI hF
          exact r_retV tabOk (ρ := ((List Int) × Bool)) [GoT.v (List Int) [.slice p3 ((a_0.Latches.length : Int).toNat) ((a_0.Latches.length : Int).toNat)], GoT.v Bool [.bool true]] h ⟨rfl, rfl, trivial⟩ (PV.done h (pv_cons h (po_own 2 h rfl) (pv_one (po_flat (S := fun _ => False) rfl)) (by rfl)))
        · replace hF := bifF hc13 hF
          refine r_skip ?_
          refine r_blk ?_
          refine r_region ?_
          refine r_p tabOk rfl rfl ?_
          refine r_p tabOk rfl rfl ?_
          refine r_nil ?_
          replace h := h.pick [2, 3] rfl
          exact r_back m2 [(1, _), (4, _), (31, _), (32, _)] (Nat.lt_succ_self m2) ⟨rfl, rfl, rfl, rfl, trivial⟩ ⟨_, _, hF, rfl, h⟩
    · replace hF := bifF hc4 hF
      refine r_exit rfl ?_
      obtain rfl := someI hF; replace hF := hK2
      refine r_seq ?_
      refine r_region ?_
      refine r_p tabOk rfl rfl ?_
      refine r_p tabOk rfl rfl ?_
      refine r_nil ?_
      obtain rfl := someI hF
      exact r_retV tabOk (ρ := ((List Int) × Bool)) [GoT.v (List Int) [.slice none 0 0], GoT.v Bool [.bool false]] h ⟨rfl, rfl, trivial⟩ (PV.done h (pv_cons h po_nil (pv_one (po_flat (S := fun _ => False) rfl)) (by rfl)))

def impl_latchTimes_L1 (s : TLatchSystem) (r7 : (List Bool)) : Nat → (List Int) → Int → Option ((List Int) × Int)
  | 0, _, _ => none
  | n + 1, x1, i1 =>
    bif decide (i1 < (s.Latches.length : Int)) then
      (idx s.Latches i1).bind fun y1 =>
      (idx r7 i1).bind fun y2 =>
      bif (!y2) then
        (idx x1 i1).bind fun _ =>
        impl_latchTimes_L1 s r7 n (setS x1 i1 y1.Open) (W64 (i1 + 1))
      else
        impl_latchTimes_L1 s r7 n x1 (W64 (i1 + 1))
    else
      some (x1, i1)

def impl_latchTimes (n : Nat) (s : TLatchSystem) : Option ((List Int) × (List Int) × Int) :=
  (impl_IsLatchSystem n s).bind fun r1 =>
  bif (!r1) then
    some ([], [], 1)
  else
    (impl_LatchSystem_departures n s).bind fun o => match o with
      | (r3, r4) =>
        bif (!r4) then
          some ([], [], 7)
        else
          (impl_LatchSystem_arrivals n s r3).bind fun o => match o with
            | (r6, r7) =>
              (impl_latchTimes_L1 s r7 n r6 0).bind fun o => match o with
              | (x1, _) =>
                some (r3, x1, 0)

theorem impl_latchTimes_ok {n : Nat} {w : World} {s : TLatchSystem} {cs1 : List Value} (ha1 : GoT.R w (old w) s cs1) {r : ((List Int) × (List Int) × Int)} (hF : impl_latchTimes n s = some r) : RetV Try.prog 36 [GoT.v TLatchSystem cs1] w r := by
  obtain ⟨p1, k1, p2, k2, rfl, s1, s2⟩ := open_TLatchSystem ha1
  refine retV_of_run Try.func36 rfl (m := 48) rfl rfl (fun h => ?_)
  rw [impl_latchTimes] at hF
  refine r_seq ?_
  refine r_region ?_
  refine r_box h rfl rfl ?_
  intro w1 bb1 h
  refine r_p tabOk rfl rfl ?_
  refine r_p tabOk rfl rfl ?_
  refine r_p tabOk rfl rfl ?_
  refine r_nil ?_
  refine r_seq ?_
  refine r_seq ?_
  refine r_region ?_
  refine r_v (v_ld tabOk (h.box 0 rfl) (j := 0) rfl rfl rfl) rfl ?_
  obtain ⟨r1, hr1, hF⟩ := bindS hF
  refine r_callB r1 h call46 (impl_IsLatchSystem_ok (h.old ha1) hr1) rfl rfl rfl rfl ?_
  intro w2 h
  refine r_p tabOk rfl rfl ?_
  refine r_nil ?_
  refine r_cond rfl (fun hc1 => ?_) (fun hc1 => ?_)
  · replace hF := bifT hc1 hF
    refine r_seq ?_
    refine r_region ?_
    refine r_p tabOk rfl rfl ?_
    refine r_p tabOk rfl rfl ?_
    refine r_p tabOk rfl rfl ?_
    refine r_nil ?_
    obtain rfl := someI hF
    exact r_retV tabOk (ρ := ((List Int) × (List Int) × Int)) [GoT.v (List Int) [.slice none 0 0], GoT.v (List Int) [.slice none 0 0], GoT.v Int [.int .i64 1]] h ⟨rfl, rfl, rfl, trivial⟩ (PV.done h (pv_cons h po_nil (pv_cons h po_nil (pv_one (po_flat (S := fun _ => False) rfl)) (by rfl)) (by rfl)))
  · replace hF := bifF hc1 hF
    refine r_skip ?_
    refine r_seq ?_
    refine r_region ?_
    refine r_v (v_ld tabOk (h.box 0 rfl) (j := 0) rfl rfl rfl) rfl ?_
    obtain ⟨r2, hr2, hF⟩ := bindS hF
    obtain ⟨r3, r4⟩ := r2
    refine r_call (r3, r4) h call54 (impl_LatchSystem_departures_ok (h.old ha1) hr2) rfl rfl rfl rfl ?_
    intro w3 S1 us1 hv1 hr3
    obtain ⟨S2, S3, p3, k3, us2, rfl, hv1, hr3⟩ := hv1.consL hr3
    obtain ⟨rfl, h⟩ := hv1.lastB hr3
    refine r_p tabOk rfl rfl ?_
    refine r_p tabOk rfl rfl ?_
    refine r_p tabOk rfl rfl ?_
    refine r_p tabOk rfl rfl ?_
    refine r_p tabOk rfl rfl ?_
    refine r_nil ?_
    refine r_seq ?_
    refine r_seq ?_
    refine r_region ?_
    refine r_p tabOk rfl rfl ?_
    refine r_p tabOk rfl rfl ?_
    refine r_nil ?_
    refine r_cond rfl (fun hc2 => ?_) (fun hc2 => ?_)
    · replace hF := bifT hc2 hF
      refine r_seq ?_
      refine r_region ?_
      refine r_p tabOk rfl rfl ?_
      refine r_p tabOk rfl rfl ?_
      refine r_p tabOk rfl rfl ?_
      refine r_nil ?_
      obtain rfl := someI hF
      exact r_retV tabOk (ρ := ((List Int) × (List Int) × Int)) [GoT.v (List Int) [.slice none 0 0], GoT.v (List Int) [.slice none 0 0], GoT.v Int [.int .i64 7]] h ⟨rfl, rfl, rfl, trivial⟩ (PV.done h (pv_cons h po_nil (pv_cons h po_nil (pv_one (po_flat (S := fun _ => False) rfl)) (by rfl)) (by rfl)))
    · replace hF := bifF hc2 hF
      refine r_skip ?_
      refine r_seq ?_
      refine r_region ?_
      refine r_v (v_ld tabOk (h.box 1 rfl) (j := 0) rfl rfl rfl) rfl ?_
      refine r_p tabOk rfl rfl ?_
      obtain ⟨r5, hr4, hF⟩ := bindS hF
      obtain ⟨r6, r7⟩ := r5
      refine r_call (r6, r7) h call55 (impl_LatchSystem_arrivals_ok (h.old ha1) (h.own 0 rfl) hr4) rfl rfl rfl rfl ?_
      intro w4 S5 us3 hv2 hr5
      obtain ⟨S6, S7, p4, k4, us4, rfl, hv2, hr5⟩ := hv2.consL hr5
      obtain ⟨p5, k5, rfl, h⟩ := hv2.lastL hr5
      refine r_p tabOk rfl rfl ?_
      refine r_p tabOk rfl rfl ?_
      refine r_p tabOk rfl rfl ?_
      refine r_p tabOk rfl rfl ?_
      refine r_p tabOk rfl rfl ?_
      refine r_nil ?_
      refine r_seq ?_
      refine r_seq ?_
      refine r_region ?_
      refine r_p tabOk rfl rfl ?_
      refine r_v (v_ld tabOk (h.box 3 rfl) (j := 0) rfl rfl rfl) rfl ?_
      refine r_p tabOk rfl rfl ?_
      refine r_p tabOk rfl rfl ?_
      refine r_nil ?_
      obtain ⟨o1, hF, hK1⟩ := bindS hF
      refine r_block ?_
      replace h := h.pick [0, 1, 2] rfl
      refine r_sub [(5, _), (7, _), (8, _), (28, _), (29, _), (30, _)] ⟨rfl, rfl, rfl, rfl, rfl, rfl, trivial⟩ ?_
      refine r_loop (fun m e w' => ∃ (x1 : (List Int)) (i1 : Int), impl_latchTimes_L1 s r7 m x1 i1 = some o1 ∧ e = [(5, .slice p3 r3.length k3), (7, .slice p4 r6.length k4), (8, .slice p5 r7.length k5), (28, .slice p1 s.Latches.length k1), (29, .int .i64 (s.Latches.length : Int)), (30, .int .i64 i1)] ∧ SH w w' [Ch.own S7 (r7 : List Bool) [.slice p5 r7.length k5], Ch.own S6 (x1 : List Int) [.slice p4 r6.length k4], Ch.own S2 (r3 : List Int) [.slice p3 r3.length k3]]) n ⟨_, _, hF, rfl, h⟩ ?_
      rintro m1 e1 w5 ⟨x1, i1, hF, rfl, h⟩
      rcases m1 with _ | m1
      · rw [impl_latchTimes_L1] at hF
        cases hF
      rw [impl_latchTimes_L1] at hF
      refine r_seq ?_
      refine r_region ?_
      refine r_p tabOk rfl rfl ?_
      refine r_nil ?_
      refine r_seq ?_
      refine r_cond rfl (fun hc3 => ?_) (fun hc3 => ?_)
      · replace hF := bifT hc3 hF
        refine r_skip ?_
        refine r_seq ?_
        refine r_block ?_
        refine r_seq ?_
        refine r_region ?_
        refine r_p tabOk rfl rfl ?_
        obtain ⟨y1, hy1, hF⟩ := bindS hF
        have he1 := idx_some hy1
        obtain ⟨b1, o_1, q1, cs2, hp1, hq1, -, hr6, hc4⟩ := s1.at hy1
        obtain rfl := open_TLatch hr6
        refine r_v (v_ix tabOk hp1 hq1 ⟨he1.1, he1.2.1⟩ rfl rfl rfl rfl rfl rfl) rfl ?_
        refine r_v (v_ld tabOk (hc4.below h.below) (j := 0) rfl rfl rfl) rfl ?_
        refine r_alloc tabOk h rfl rfl rfl ?_
        intro w6 bb2 h
        refine r_p tabOk rfl rfl ?_
        refine r_stbox tabOk 0 h rfl rfl rfl rfl rfl rfl rfl ?_
        intro w7 h
        refine r_nil ?_
        refine r_seq ?_
        refine r_region ?_
        refine r_p tabOk rfl rfl ?_
        refine r_p tabOk rfl rfl ?_
        obtain ⟨y2, hy2, hF⟩ := bindS hF
        have he2 := idx_some hy2
        obtain ⟨b2, o_2, q2, cs3, hp2, hq2, -, hr7, hc5⟩ := (h.sl 1 rfl).1.at hy2
        obtain rfl := hr7
        refine r_v (v_ix tabOk hp2 hq2 ⟨he2.1, lt_ln he2.2.1 (h.sl 1 rfl).2⟩ rfl rfl rfl rfl rfl rfl) rfl ?_
        refine r_v (v_ld tabOk hc5 (j := 0) rfl rfl rfl) rfl ?_
        refine r_p tabOk rfl rfl ?_
        refine r_nil ?_
        refine r_cond rfl (fun hc6 => ?_) (fun hc6 => ?_)
        · replace hF := bifT hc6 hF
          refine r_region ?_
          refine r_p tabOk rfl rfl ?_
          refine r_p tabOk rfl rfl ?_
          refine r_p tabOk rfl rfl ?_
          refine r_v (v_ld tabOk (h.box 0 rfl) (j := 0) rfl rfl rfl) rfl ?_
          obtain ⟨y3, hy3, hF⟩ := bindS hF
          have he3 := idx_some hy3
          obtain ⟨b3, o_3, q3, cs4, hp3, hq3, -, hr8, hc7⟩ := (h.sl 2 rfl).1.at hy3
          obtain rfl := hr8
          refine r_v (v_ix tabOk hp3 hq3 ⟨he3.1, lt_ln he3.2.1 (h.sl 2 rfl).2⟩ rfl rfl rfl rfl rfl rfl) rfl ?_
          refine r_stown tabOk 2 0 y1.Open h rfl hy3 hp3 hq3 rfl hc7 rfl rfl rfl rfl rfl rfl rfl ?_
          intro w8 h
          refine r_nil ?_
          refine r_blk ?_
          refine r_region ?_
          refine r_p tabOk rfl rfl ?_
          refine r_p tabOk rfl rfl ?_
          refine r_nil ?_
          replace h := h.pick [1, 2, 3] rfl
          exact r_back m1 [(5, _), (7, _), (8, _), (28, _), (29, _), (30, _)] (Nat.lt_succ_self m1) ⟨rfl, rfl, rfl, rfl, rfl, rfl, trivial⟩ ⟨_, _, hF, rfl, h⟩
        · replace hF := bifF hc6 hF
          refine r_skip ?_
          refine r_blk ?_
          refine r_region ?_
          refine r_p tabOk rfl rfl ?_
          refine r_p tabOk rfl rfl ?_
          refine r_nil ?_
          replace h := h.pick [1, 2, 3] rfl
          exact r_back m1 [(5, _), (7, _), (8, _), (28, _), (29, _), (30, _)] (Nat.lt_succ_self m1) ⟨rfl, rfl, rfl, rfl, rfl, rfl, trivial⟩ ⟨_, _, hF, rfl, h⟩
      · replace hF := bifF hc3 hF
        refine r_exit rfl ?_
        obtain rfl := someI hF; replace hF := hK1
        refine r_seq ?_
        refine r_region ?_
        refine r_p tabOk rfl rfl ?_
        refine r_p tabOk rfl rfl ?_
        refine r_p tabOk rfl rfl ?_
        refine r_p tabOk rfl rfl ?_
        refine r_p tabOk rfl rfl ?_
        refine r_nil ?_
        obtain rfl := someI hF
        exact r_retV tabOk (ρ := ((List Int) × (List Int) × Int)) [GoT.v (List Int) [.slice p3 r3.length k3], GoT.v (List Int) [.slice p4 r6.length k4], GoT.v Int [.int .i64 0]] h ⟨rfl, rfl, rfl, trivial⟩ (PV.done h (pv_cons h (po_own 2 h rfl) (pv_cons h (po_own 1 h rfl) (pv_one (po_flat (S := fun _ => False) rfl)) (by rfl)) (by rfl)))

def impl_LatchSlacks_L1 (s : TLatchSystem) (r3 : (List Int)) : Nat → (List Int) → Int → Option ((List Int) × Int)
  | 0, _, _ => none
  | n + 1, x1, i1 =>
    bif decide (i1 < (r3.length : Int)) then
      (idx s.Latches i1).bind fun y1 =>
      (idx x1 i1).bind fun y2 =>
      (idx x1 i1).bind fun _ =>
      impl_LatchSlacks_L1 s r3 n (setS x1 i1 (W64 (y1.Close - y2))) (W64 (i1 + 1))
    else
      some (x1, i1)

def impl_LatchSlacks (n : Nat) (s : TLatchSystem) : Option ((List Int) × Int) :=
  (impl_latchTimes n s).bind fun o => match o with
    | (_, r3, r4) =>
      (impl_LatchSlacks_L1 s r3 n r3 0).bind fun o => match o with
      | (x1, _) =>
        some (x1, r4)

theorem impl_LatchSlacks_ok {n : Nat} {w : World} {s : TLatchSystem} {cs1 : List Value} (ha1 : GoT.R w (old w) s cs1) {r : ((List Int) × Int)} (hF : impl_LatchSlacks n s = some r) : RetV Try.prog 25 [GoT.v TLatchSystem cs1] w r := by
  obtain ⟨p1, k1, p2, k2, rfl, s1, s2⟩ := open_TLatchSystem ha1
  refine retV_of_run Try.func25 rfl (m := 36) rfl rfl (fun h => ?_)
  rw [impl_LatchSlacks] at hF
  refine r_seq ?_
  refine r_region ?_
  refine r_box h rfl rfl ?_
  intro w1 bb1 h
  refine r_p tabOk rfl rfl ?_
  refine r_p tabOk rfl rfl ?_
  refine r_nil ?_
  refine r_seq ?_
  refine r_region ?_
  refine r_v (v_ld tabOk (h.box 0 rfl) (j := 0) rfl rfl rfl) rfl ?_
  obtain ⟨r1, hr1, hF⟩ := bindS hF
  obtain ⟨r2, r3, r4⟩ := r1
  refine r_call (r2, r3, r4) h call36 (impl_latchTimes_ok (h.old ha1) hr1) rfl rfl rfl rfl ?_
  intro w2 S1 us1 hv1 hr2
  obtain ⟨S2, S3, p3, k3, us2, rfl, hv1, hr2⟩ := hv1.consL hr2
  obtain ⟨S4, S5, p4, k4, us3, rfl, hv1, hr2⟩ := hv1.consL hr2
  obtain ⟨rfl, h⟩ := hv1.lastI hr2
  refine r_p tabOk rfl rfl ?_
  refine r_p tabOk rfl rfl ?_
  refine r_p tabOk rfl rfl ?_
  refine r_p tabOk rfl rfl ?_
  refine r_p tabOk rfl rfl ?_
  refine r_p tabOk rfl rfl ?_
  refine r_p tabOk rfl rfl ?_
  refine r_nil ?_
  refine r_seq ?_
  refine r_seq ?_
  refine r_region ?_
  refine r_p tabOk rfl rfl ?_
  refine r_p tabOk rfl rfl ?_
  refine r_p tabOk rfl rfl ?_
  refine r_nil ?_
  obtain ⟨o1, hF, hK1⟩ := bindS hF
  refine r_block ?_
  replace h := h.pick [0, 2] rfl
  refine r_sub [(1, _), (5, _), (6, _), (15, _), (16, _)] ⟨rfl, rfl, rfl, rfl, rfl, trivial⟩ ?_
  refine r_loop (fun m e w' => ∃ (x1 : (List Int)) (i1 : Int), impl_LatchSlacks_L1 s r3 m x1 i1 = some o1 ∧ e = [(1, .pointer (some ⟨bb1, 0, none⟩)), (5, .slice p4 r3.length k4), (6, .int .i64 r4), (15, .int .i64 (r3.length : Int)), (16, .int .i64 i1)] ∧ SH w w' [Ch.own S4 (x1 : List Int) [.slice p4 r3.length k4], Ch.box bb1 [.slice p1 s.Latches.length k1, .slice p2 s.Links.length k2] 41]) n ⟨_, _, hF, rfl, h⟩ ?_
  rintro m1 e1 w3 ⟨x1, i1, hF, rfl, h⟩
  rcases m1 with _ | m1
  · rw [impl_LatchSlacks_L1] at hF
    cases hF
  rw [impl_LatchSlacks_L1] at hF
  refine r_seq ?_
  refine r_region ?_
  refine r_p tabOk rfl rfl ?_
  refine r_nil ?_
  refine r_seq ?_
  refine r_cond rfl (fun hc1 => ?_) (fun hc1 => ?_)
  · replace hF := bifT hc1 hF
    refine r_skip ?_
    refine r_seq ?_
    refine r_block ?_
    refine r_seq ?_
    refine r_region ?_
    refine r_p tabOk rfl rfl ?_
    refine r_p tabOk rfl rfl ?_
    refine r_nil ?_
    obtain ⟨y1, hy1, hF⟩ := bindS hF
    obtain ⟨y2, hy2, hF⟩ := bindS hF
    obtain ⟨y3, hy3, hF⟩ := bindS hF
    refine r_any [14] (fun w' => SH w w' [Ch.own S4 (x1 : List Int) [.slice p4 r3.length k4], Ch.box bb1 [.slice p1 s.Latches.length k1, .slice p2 s.Links.length k2] 41]) rfl 15 rfl #[false, false, false, false, false, false, false, false, false, false, false, false, false, false, false] (by kernel_rfl) (fun w5 hb => ?_)
    replace h := h.ext hb
    clear hb
    refine a_take 0 rfl #[true, false, false, false, false, false, false, false, false, false, false, false, false, false, false] (by kernel_rfl) (by kernel_rfl) (fun w' hw => v_p tabOk rfl w') (h.pick [0, 1] rfl) rfl ?_
    refine a_take 1 rfl #[true, true, false, false, false, false, false, false, false, false, false, false, false, false, false] (by kernel_rfl) (by kernel_rfl) (fun w' hw => v_p tabOk rfl w') (h.pick [0, 1] rfl) rfl ?_
    refine a_take 2 rfl #[true, true, true, false, false, false, false, false, false, false, false, false, false, false, false] (by kernel_rfl) (by kernel_rfl) (fun w' hw => v_p tabOk rfl w') (h.pick [0, 1] rfl) rfl ?_
    refine a_take 3 rfl #[true, true, true, true, false, false, false, false, false, false, false, false, false, false, false] (by kernel_rfl) (by kernel_rfl) (fun w' hw => v_ld tabOk (hw.box 1 rfl) (j := 0) rfl rfl rfl) (h.pick [0, 1] rfl) rfl ?_
    refine a_take 4 rfl #[true, true, true, true, true, false, false, false, false, false, false, false, false, false, false] (by kernel_rfl) (by kernel_rfl) (fun w' hw => v_p tabOk rfl w') (h.pick [0, 1] rfl) rfl ?_
    have he4 := idx_some hy1
    obtain ⟨b4, o_4, q4, cs5, hp4, hq4, -, hr6, hc5⟩ := s1.at hy1
    obtain rfl := open_TLatch hr6
    refine a_take 5 rfl #[true, true, true, true, true, true, false, false, false, false, false, false, false, false, false] (by kernel_rfl) (by kernel_rfl) (fun w' hw => v_ix tabOk hp4 hq4 ⟨he4.1, he4.2.1⟩ rfl rfl rfl rfl rfl rfl) (h.pick [0, 1] rfl) rfl ?_
    refine a_take 6 rfl #[true, true, true, true, true, true, true, false, false, false, false, false, false, false, false] (by kernel_rfl) (by kernel_rfl) (fun w' hw => v_p tabOk rfl w') (h.pick [0, 1] rfl) rfl ?_
    refine a_take 7 rfl #[true, true, true, true, true, true, true, true, false, false, false, false, false, false, false] (by kernel_rfl) (by kernel_rfl) (fun w' hw => v_ld tabOk (hc5.below hw.below) (j := 1) rfl rfl rfl) (h.pick [0, 1] rfl) rfl ?_
    refine a_take 8 rfl #[true, true, true, true, true, true, true, true, true, false, false, false, false, false, false] (by kernel_rfl) (by kernel_rfl) (fun w' hw => v_p tabOk rfl w') (h.pick [0, 1] rfl) rfl ?_
    refine a_take 9 rfl #[true, true, true, true, true, true, true, true, true, true, false, false, false, false, false] (by kernel_rfl) (by kernel_rfl) (fun w' hw => v_p tabOk rfl w') (h.pick [0, 1] rfl) rfl ?_
    have he5 := idx_some hy2
    obtain ⟨b5, o_5, q5, cs6, hp5, hq5, -, hr7, hc6⟩ := (h.sl 0 rfl).1.at hy2
    obtain rfl := hr7
    refine a_take 10 rfl #[true, true, true, true, true, true, true, true, true, true, true, false, false, false, false] (by kernel_rfl) (by kernel_rfl) (fun w' hw => v_ix tabOk hp5 hq5 ⟨he5.1, lt_ln he5.2.1 (h.sl 0 rfl).2⟩ rfl rfl rfl rfl rfl rfl) (h.pick [0, 1] rfl) rfl ?_
    refine a_take 11 rfl #[true, true, true, true, true, true, true, true, true, true, true, true, false, false, false] (by kernel_rfl) (by kernel_rfl) (fun w' hw => v_ld tabOk (own_cells (w1 := w) (S1 := fun _ => False) hw 0 rfl hy2 hp5 hq5 rfl) (j := 0) rfl rfl rfl) (h.pick [0, 1] rfl) rfl ?_
    refine a_take 12 rfl #[true, true, true, true, true, true, true, true, true, true, true, true, true, false, false] (by kernel_rfl) (by kernel_rfl) (fun w' hw => v_p tabOk rfl w') (h.pick [0, 1] rfl) rfl ?_
    have he6 := idx_some hy3
    obtain ⟨b6, o_6, q6, cs7, hp6, hq6, -, hr8, hc7⟩ := (h.sl 0 rfl).1.at hy3
    obtain rfl := hr8
    refine a_take 13 rfl #[true, true, true, true, true, true, true, true, true, true, true, true, true, true, false] (by kernel_rfl) (by kernel_rfl) (fun w' hw => v_ix tabOk hp6 hq6 ⟨he6.1, lt_ln he6.2.1 (h.sl 0 rfl).2⟩ rfl rfl rfl rfl rfl rfl) (h.pick [0, 1] rfl) rfl ?_
    refine a_only 14 rfl #[true, true, true, true, true, true, true, true, true, true, true, true, true, true, true] (by kernel_rfl) (by kernel_rfl) ?_
    refine r_stown tabOk 0 0 (W64 (y1.Close - y2)) h rfl hy3 hp6 hq6 rfl hc7 rfl rfl rfl rfl rfl rfl rfl ?_
    intro w6 h
    refine a_goal (fun hs => absurd (hs 14 (by decide)) (by decide)) ?_
    refine a_done (by kernel_rfl) ?_
    refine r_blk ?_
    refine r_region ?_
    refine r_p tabOk rfl rfl ?_
    refine r_p tabOk rfl rfl ?_
    refine r_nil ?_
    exact r_back m1 [(1, _), (5, _), (6, _), (15, _), (16, _)] (Nat.lt_succ_self m1) ⟨rfl, rfl, rfl, rfl, rfl, trivial⟩ ⟨_, _, hF, rfl, h⟩
  · replace hF := bifF hc1 hF
    refine r_exit rfl ?_
    obtain rfl := someI hF; replace hF := hK1
    refine r_seq ?_
    refine r_region ?_
    refine r_p tabOk rfl rfl ?_
    refine r_p tabOk rfl rfl ?_
    refine r_p tabOk rfl rfl ?_
    refine r_p tabOk rfl rfl ?_
    refine r_nil ?_
    obtain rfl := someI hF
    exact r_retV tabOk (ρ := ((List Int) × Int)) [GoT.v (List Int) [.slice p4 r3.length k4], GoT.v Int [.int .i64 r4]] h ⟨rfl, rfl, trivial⟩ (PV.done h (pv_cons h (po_own 0 h rfl) (pv_one (po_flat (S := fun _ => False) rfl)) (by rfl)))

def impl_LatchSystem_isRelaxed_1 (_ : Nat) (a_n : Int) : Option Bool :=
  some (decide (a_n < 0))

theorem impl_LatchSystem_isRelaxed_1_ok {n : Nat} {w : World} {a_n : Int}  {r : Bool} (hF : impl_LatchSystem_isRelaxed_1 n a_n = some r) : RetV Try.prog 64 [.int .i64 a_n] w r := by
  refine retV_of_run Try.func64 rfl (m := 5) rfl rfl (fun h => ?_)
  rw [impl_LatchSystem_isRelaxed_1] at hF
  refine r_seq ?_
  refine r_region ?_
  refine r_p tabOk rfl rfl ?_
  refine r_nil ?_
  refine r_seq ?_
  refine r_region ?_
  refine r_p tabOk rfl rfl ?_
  refine r_p tabOk rfl rfl ?_
  refine r_p tabOk rfl rfl ?_
  refine r_nil ?_
  obtain rfl := someI hF
  exact r_retV tabOk (ρ := Bool) [_] h ⟨rfl, trivial⟩ (vs_bool _ _)

def slices_IndexFunc_int64_impl_LatchSystem_isRelaxed_1_L1 (s : (List Int)) : Nat → Int → Option (Flow Int Int)
  | 0, _ => none
  | n + 1, i1 =>
    bif decide (i1 < (s.length : Int)) then
      (idx s i1).bind fun y1 =>
      (impl_LatchSystem_isRelaxed_1 n y1).bind fun r1 =>
      bif r1 then
        some (.ret i1)
      else
        slices_IndexFunc_int64_impl_LatchSystem_isRelaxed_1_L1 s n (W64 (i1 + 1))
    else
      some (.nxt i1)

def slices_IndexFunc_int64_impl_LatchSystem_isRelaxed_1 (n : Nat) (s : (List Int)) : Option Int :=
  (slices_IndexFunc_int64_impl_LatchSystem_isRelaxed_1_L1 s n 0).bind fun o => match o with
  | .ret r => some r
  | .nxt _ =>
    some (-1)

theorem slices_IndexFunc_int64_impl_LatchSystem_isRelaxed_1_ok {n : Nat} {w : World} {s : (List Int)} {cs1 : List Value} (ha1 : GoT.R w (old w) s cs1) {r : Int} (hF : slices_IndexFunc_int64_impl_LatchSystem_isRelaxed_1 n s = some r) : RetV Try.prog 67 [GoT.v (List Int) cs1, .func (.func 64) #[] #[]] w r := by
  obtain ⟨p1, k1, rfl, s1⟩ := ha1
  refine retV_of_run Try.func67 rfl (m := 19) rfl rfl (fun h => ?_)
  rw [slices_IndexFunc_int64_impl_LatchSystem_isRelaxed_1] at hF
  refine r_seq ?_
  refine r_region ?_
  refine r_p tabOk rfl rfl ?_
  refine r_nil ?_
  refine r_seq ?_
  refine r_seq ?_
  refine r_region ?_
  refine r_p tabOk rfl rfl ?_
  refine r_p tabOk rfl rfl ?_
  refine r_p tabOk rfl rfl ?_
  refine r_nil ?_
  obtain ⟨o1, hF, hK1⟩ := bindS hF
  refine r_block ?_
  refine r_sub [(0, _), (1, _), (7, _), (8, _)] ⟨rfl, rfl, rfl, rfl, trivial⟩ ?_
  refine r_loop (fun m e w' => ∃ (i1 : Int), slices_IndexFunc_int64_impl_LatchSystem_isRelaxed_1_L1 s m i1 = some o1 ∧ e = [(0, .slice p1 s.length k1), (1, .func (.func 64) #[] #[]), (7, .int .i64 (s.length : Int)), (8, .int .i64 i1)] ∧ SH w w' []) n ⟨_, hF, rfl, h⟩ ?_
  rintro m1 e1 w1 ⟨i1, hF, rfl, h⟩
  rcases m1 with _ | m1
  · rw [slices_IndexFunc_int64_impl_LatchSystem_isRelaxed_1_L1] at hF
    cases hF
  rw [slices_IndexFunc_int64_impl_LatchSystem_isRelaxed_1_L1] at hF
  refine r_seq ?_
  refine r_region ?_
  refine r_p tabOk rfl rfl ?_
  refine r_nil ?_
  refine r_seq ?_
  refine r_cond rfl (fun hc1 => ?_) (fun hc1 => ?_)
  · replace hF := bifT hc1 hF
    refine r_skip ?_
    refine r_seq ?_
    refine r_block ?_
    refine r_seq ?_
    refine r_region ?_
    refine r_p tabOk rfl rfl ?_
    refine r_p tabOk rfl rfl ?_
    refine r_nil ?_
    refine r_seq ?_
    refine r_region ?_
    refine r_p tabOk rfl rfl ?_
    refine r_p tabOk rfl rfl ?_
    refine r_p tabOk rfl rfl ?_
    obtain ⟨y1, hy1, hF⟩ := bindS hF
    have he1 := idx_some hy1
    obtain ⟨b1, o_1, q1, cs2, hp1, hq1, -, hr1, hc2⟩ := s1.at hy1
    obtain rfl := hr1
    refine r_v (v_ix tabOk hp1 hq1 ⟨he1.1, he1.2.1⟩ rfl rfl rfl rfl rfl rfl) rfl ?_
    refine r_v (v_ld tabOk (hc2.below h.below) (j := 0) rfl rfl rfl) rfl ?_
    obtain ⟨r1, hr2, hF⟩ := bindS hF
    refine r_callB r1 h call64 (impl_LatchSystem_isRelaxed_1_ok hr2) rfl rfl rfl rfl ?_
    intro w2 h
    refine r_nil ?_
    refine r_cond rfl (fun hc3 => ?_) (fun hc3 => ?_)
    · replace hF := bifT hc3 hF
      refine r_seq ?_
      refine r_region ?_
      refine r_p tabOk rfl rfl ?_
      refine r_p tabOk rfl rfl ?_
      refine r_nil ?_
      obtain rfl := someI hF; replace hF := hK1
      obtain rfl := someI hF
      exact r_retV tabOk (ρ := Int) [_] h ⟨rfl, trivial⟩ (vs_int _ _)
    · replace hF := bifF hc3 hF
      refine r_skip ?_
      refine r_blk ?_
      refine r_region ?_
      refine r_p tabOk rfl rfl ?_
      refine r_p tabOk rfl rfl ?_
      refine r_nil ?_
      exact r_back m1 [(0, _), (1, _), (7, _), (8, _)] (Nat.lt_succ_self m1) ⟨rfl, rfl, rfl, rfl, trivial⟩ ⟨_, hF, rfl, h⟩
  · replace hF := bifF hc1 hF
    refine r_exit rfl ?_
    obtain rfl := someI hF; replace hF := hK1
    refine r_seq ?_
    refine r_region ?_
    refine r_p tabOk rfl rfl ?_
    refine r_nil ?_
    obtain rfl := someI hF
    exact r_retV tabOk (ρ := Int) [_] h ⟨rfl, trivial⟩ (vs_int _ _)

def slices_ContainsFunc_int64_impl_LatchSystem_isRelaxed_1 (n : Nat) (s : (List Int)) : Option Bool :=
  (slices_IndexFunc_int64_impl_LatchSystem_isRelaxed_1 n s).bind fun r1 =>
  some (decide (r1 ≥ 0))

theorem slices_ContainsFunc_int64_impl_LatchSystem_isRelaxed_1_ok {n : Nat} {w : World} {s : (List Int)} {cs1 : List Value} (ha1 : GoT.R w (old w) s cs1) {r : Bool} (hF : slices_ContainsFunc_int64_impl_LatchSystem_isRelaxed_1 n s = some r) : RetV Try.prog 63 [GoT.v (List Int) cs1, .func (.func 64) #[] #[]] w r := by
  obtain ⟨p1, k1, rfl, s1⟩ := ha1
  refine retV_of_run Try.func63 rfl (m := 9) rfl rfl (fun h => ?_)
  rw [slices_ContainsFunc_int64_impl_LatchSystem_isRelaxed_1] at hF
  refine r_seq ?_
  refine r_region ?_
  refine r_p tabOk rfl rfl ?_
  refine r_nil ?_
  refine r_seq ?_
  refine r_region ?_
  refine r_p tabOk rfl rfl ?_
  refine r_p tabOk rfl rfl ?_
  obtain ⟨r1, hr1, hF⟩ := bindS hF
  refine r_callI r1 h call67 (slices_IndexFunc_int64_impl_LatchSystem_isRelaxed_1_ok ⟨_, _, rfl, (h.oldS s1)⟩ hr1) rfl rfl rfl rfl ?_
  intro w1 h
  refine r_p tabOk rfl rfl ?_
  refine r_p tabOk rfl rfl ?_
  refine r_nil ?_
  obtain rfl := someI hF
  exact r_retV tabOk (ρ := Bool) [_] h ⟨rfl, trivial⟩ (vs_bool _ _)

def impl_LatchSystem_isRelaxed (n : Nat) (s : TLatchSystem) : Option Bool :=
  (impl_LatchSlacks n s).bind fun o => match o with
    | (r2, r3) =>
      bif (r3 == 0) then
        (slices_ContainsFunc_int64_impl_LatchSystem_isRelaxed_1 n r2).bind fun r4 =>
        some (!r4)
      else
        some false

theorem impl_LatchSystem_isRelaxed_ok {n : Nat} {w : World} {s : TLatchSystem} {cs1 : List Value} (ha1 : GoT.R w (old w) s cs1) {r : Bool} (hF : impl_LatchSystem_isRelaxed n s = some r) : RetV Try.prog 49 [GoT.v TLatchSystem cs1] w r := by
  obtain ⟨p1, k1, p2, k2, rfl, s1, s2⟩ := open_TLatchSystem ha1
  refine retV_of_run Try.func49 rfl (m := 17) rfl rfl (fun h => ?_)
  rw [impl_LatchSystem_isRelaxed] at hF
  refine r_seq ?_
  refine r_region ?_
  refine r_box h rfl rfl ?_
  intro w1 bb1 h
  refine r_p tabOk rfl rfl ?_
  refine r_nil ?_
  refine r_seq ?_
  refine r_region ?_
  refine r_v (v_ld tabOk (h.box 0 rfl) (j := 0) rfl rfl rfl) rfl ?_
  obtain ⟨r1, hr1, hF⟩ := bindS hF
  obtain ⟨r2, r3⟩ := r1
  refine r_call (r2, r3) h call25 (impl_LatchSlacks_ok (h.old ha1) hr1) rfl rfl rfl rfl ?_
  intro w2 S1 us1 hv1 hr2
  obtain ⟨S2, S3, p3, k3, us2, rfl, hv1, hr2⟩ := hv1.consL hr2
  obtain ⟨rfl, h⟩ := hv1.lastI hr2
  refine r_p tabOk rfl rfl ?_
  refine r_p tabOk rfl rfl ?_
  refine r_p tabOk rfl rfl ?_
  refine r_p tabOk rfl rfl ?_
  refine r_p tabOk rfl rfl ?_
  refine r_nil ?_
  refine r_seq ?_
  refine r_region ?_
  refine r_p tabOk rfl rfl ?_
  refine r_p tabOk rfl rfl ?_
  refine r_p tabOk rfl rfl ?_
  by_cases hc1 : (r3 == 0) = true
  · replace hF := bifT hc1 hF
    refine r_setT hc1 (t := 12) rfl ?_
    refine r_wanted rfl ?_
    refine r_p tabOk rfl rfl ?_
    refine r_wanted rfl ?_
    obtain ⟨r4, hr3, hF⟩ := bindS hF
    refine r_callB r4 h call63 (slices_ContainsFunc_int64_impl_LatchSystem_isRelaxed_1_ok (h.own 0 rfl) hr3) rfl rfl rfl rfl ?_
    intro w3 h
    refine r_wanted rfl ?_
    refine r_p tabOk rfl rfl ?_
    refine r_p tabOk rfl rfl ?_
    refine r_p tabOk rfl rfl ?_
    refine r_nil ?_
    obtain rfl := someI hF
    exact r_retV tabOk (ρ := Bool) [_] h ⟨rfl, trivial⟩ (vs_bool _ _)
  · replace hc1 := Bool.eq_false_iff.2 hc1
    replace hF := bifF hc1 hF
    refine r_setF hc1 (t := 12) rfl ?_
    refine r_unwanted rfl ?_ (fun _ hd => by cases hd; rfl)
    refine r_unwanted rfl ?_ (fun _ hd => by cases hd; rfl)
    refine r_unwanted rfl ?_ (fun _ hd => by cases hd; rfl)
    refine r_p tabOk rfl rfl ?_
    refine r_p tabOk rfl rfl ?_
    refine r_nil ?_
    obtain rfl := someI hF
    exact r_retV tabOk (ρ := Bool) [_] h ⟨rfl, trivial⟩ (vs_bool _ _)

def impl_LeastShift_L1 (s : TLatchSystem) : Nat → Int → Int → Option (Int × Int)
  | 0, _, _ => none
  | n + 1, i1, i2 =>
    bif decide (i1 < i2) then
      (impl_LatchSystem_shifted n s (W64 ((W64 (i1 + i2)).tdiv 2))).bind fun r5 =>
      (impl_LatchSystem_isRelaxed n r5).bind fun r6 =>
      bif r6 then
        impl_LeastShift_L1 s n i1 (W64 ((W64 (i1 + i2)).tdiv 2))
      else
        impl_LeastShift_L1 s n (W64 ((W64 ((W64 (i1 + i2)).tdiv 2)) + 1)) i2
    else
      some (i1, i2)

def impl_LeastShift (n : Nat) (s : TLatchSystem) : Option (Int × Int) :=
  (impl_IsLatchSystem n s).bind fun r1 =>
  bif (!r1) then
    some (0, 1)
  else
    (impl_LatchSystem_room n s).bind fun r2 =>
    (impl_LatchSystem_shifted n s r2).bind fun r3 =>
    (impl_LatchSystem_isRelaxed n r3).bind fun r4 =>
    bif (!r4) then
      some (0, 4)
    else
      (impl_LeastShift_L1 s n 0 r2).bind fun o => match o with
      | (i1, _) =>
        some (i1, 0)

theorem impl_LeastShift_ok {n : Nat} {w : World} {s : TLatchSystem} {cs1 : List Value} (ha1 : GoT.R w (old w) s cs1) {r : (Int × Int)} (hF : impl_LeastShift n s = some r) : RetV Try.prog 27 [GoT.v TLatchSystem cs1] w r := by
  obtain ⟨p1, k1, p2, k2, rfl, s1, s2⟩ := open_TLatchSystem ha1
  refine retV_of_run Try.func27 rfl (m := 32) rfl rfl (fun h => ?_)
  rw [impl_LeastShift] at hF
  refine r_seq ?_
  refine r_region ?_
  refine r_box h rfl rfl ?_
  intro w1 bb1 h
  refine r_p tabOk rfl rfl ?_
  refine r_p tabOk rfl rfl ?_
  refine r_nil ?_
  refine r_seq ?_
  refine r_seq ?_
  refine r_region ?_
  refine r_v (v_ld tabOk (h.box 0 rfl) (j := 0) rfl rfl rfl) rfl ?_
  obtain ⟨r1, hr1, hF⟩ := bindS hF
  refine r_callB r1 h call46 (impl_IsLatchSystem_ok (h.old ha1) hr1) rfl rfl rfl rfl ?_
  intro w2 h
  refine r_p tabOk rfl rfl ?_
  refine r_nil ?_
  refine r_cond rfl (fun hc1 => ?_) (fun hc1 => ?_)
  · replace hF := bifT hc1 hF
    refine r_seq ?_
    refine r_region ?_
    refine r_p tabOk rfl rfl ?_
    refine r_p tabOk rfl rfl ?_
    refine r_nil ?_
    obtain rfl := someI hF
    exact r_retV tabOk (ρ := (Int × Int)) [GoT.v Int [.int .i64 0], GoT.v Int [.int .i64 1]] h ⟨rfl, rfl, trivial⟩ (PV.done h (pv_cons h (po_flat (S := fun _ => False) rfl) (pv_one (po_flat (S := fun _ => False) rfl)) (by rfl)))
  · replace hF := bifF hc1 hF
    refine r_skip ?_
    refine r_seq ?_
    refine r_region ?_
    refine r_v (v_ld tabOk (h.box 0 rfl) (j := 0) rfl rfl rfl) rfl ?_
    obtain ⟨r2, hr2, hF⟩ := bindS hF
    refine r_callI r2 h call47 (impl_LatchSystem_room_ok (h.old ha1) hr2) rfl rfl rfl rfl ?_
    intro w3 h
    refine r_p tabOk rfl rfl ?_
    refine r_p tabOk rfl rfl ?_
    refine r_nil ?_
    refine r_seq ?_
    refine r_seq ?_
    refine r_region ?_
    refine r_v (v_ld tabOk (h.box 0 rfl) (j := 0) rfl rfl rfl) rfl ?_
    refine r_p tabOk rfl rfl ?_
    obtain ⟨r3, hr3, hF⟩ := bindS hF
    refine r_callO r3 h call48 (impl_LatchSystem_shifted_ok (h.old ha1) hr3) rfl rfl rfl rfl ?_
    intro w4 S1 cs2 h
    obtain ⟨p3, k3, p4, k4, rfl, -, -⟩ := open_TLatchSystem (h.own 0 rfl)
    obtain ⟨r4, hr4, hF⟩ := bindS hF
    refine r_callB r4 h call49 (impl_LatchSystem_isRelaxed_ok (h.own 0 rfl) hr4) rfl rfl rfl rfl ?_
    intro w5 h
    refine r_p tabOk rfl rfl ?_
    refine r_nil ?_
    refine r_cond rfl (fun hc2 => ?_) (fun hc2 => ?_)
    · replace hF := bifT hc2 hF
      refine r_seq ?_
      refine r_region ?_
      refine r_p tabOk rfl rfl ?_
      refine r_p tabOk rfl rfl ?_
      refine r_nil ?_
      obtain rfl := someI hF
      exact r_retV tabOk (ρ := (Int × Int)) [GoT.v Int [.int .i64 0], GoT.v Int [.int .i64 4]] h ⟨rfl, rfl, trivial⟩ (PV.done h (pv_cons h (po_flat (S := fun _ => False) rfl) (pv_one (po_flat (S := fun _ => False) rfl)) (by rfl)))
    · replace hF := bifF hc2 hF
      refine r_skip ?_
      refine r_seq ?_
      obtain ⟨o1, hF, hK1⟩ := bindS hF
      refine r_block ?_
      replace h := h.pick [1] rfl
      refine r_sub [(1, _), (4, _), (5, _)] ⟨rfl, rfl, rfl, trivial⟩ ?_
      refine r_loop (fun m e w' => ∃ (i1 : Int) (i2 : Int), impl_LeastShift_L1 s m i1 i2 = some o1 ∧ e = [(1, .pointer (some ⟨bb1, 0, none⟩)), (4, .int .i64 i1), (5, .int .i64 i2)] ∧ SH w w' [Ch.box bb1 [.slice p1 s.Latches.length k1, .slice p2 s.Links.length k2] 41]) n ⟨_, _, hF, rfl, h⟩ ?_
      rintro m1 e1 w6 ⟨i1, i2, hF, rfl, h⟩
      rcases m1 with _ | m1
      · rw [impl_LeastShift_L1] at hF
        cases hF
      rw [impl_LeastShift_L1] at hF
      refine r_seq ?_
      refine r_seq ?_
      refine r_region ?_
      refine r_p tabOk rfl rfl ?_
      refine r_p tabOk rfl rfl ?_
      refine r_p tabOk rfl rfl ?_
      refine r_nil ?_
      refine r_cond rfl (fun hc3 => ?_) (fun hc3 => ?_)
      · replace hF := bifT hc3 hF
        refine r_skip ?_
        refine r_block ?_
        refine r_seq ?_
        refine r_region ?_
        refine r_p tabOk rfl rfl ?_
        refine r_p tabOk rfl rfl ?_
        refine r_p tabOk rfl rfl ?_
        refine r_p tabOk rfl rfl ?_
        refine r_p tabOk rfl rfl ?_
        refine r_nil ?_
        refine r_seq ?_
        refine r_region ?_
        refine r_v (v_ld tabOk (h.box 0 rfl) (j := 0) rfl rfl rfl) rfl ?_
        refine r_p tabOk rfl rfl ?_
        obtain ⟨r5, hr5, hF⟩ := bindS hF
        refine r_callO r5 h call48 (impl_LatchSystem_shifted_ok (h.old ha1) hr5) rfl rfl rfl rfl ?_
        intro w7 S2 cs3 h
        obtain ⟨p5, k5, p6, k6, rfl, -, -⟩ := open_TLatchSystem (h.own 0 rfl)
        obtain ⟨r6, hr6, hF⟩ := bindS hF
        refine r_callB r6 h call49 (impl_LatchSystem_isRelaxed_ok (h.own 0 rfl) hr6) rfl rfl rfl rfl ?_
        intro w8 h
        refine r_nil ?_
        refine r_cond rfl (fun hc4 => ?_) (fun hc4 => ?_)
        · replace hF := bifT hc4 hF
          refine r_region ?_
          refine r_p tabOk rfl rfl ?_
          refine r_p tabOk rfl rfl ?_
          refine r_nil ?_
          refine r_blk ?_
          replace h := h.pick [1] rfl
          exact r_back m1 [(1, _), (4, _), (5, _)] (Nat.lt_succ_self m1) ⟨rfl, rfl, rfl, trivial⟩ ⟨_, _, hF, rfl, h⟩
        · replace hF := bifF hc4 hF
          refine r_region ?_
          refine r_p tabOk rfl rfl ?_
          refine r_p tabOk rfl rfl ?_
          refine r_p tabOk rfl rfl ?_
          refine r_nil ?_
          refine r_blk ?_
          replace h := h.pick [1] rfl
          exact r_back m1 [(1, _), (4, _), (5, _)] (Nat.lt_succ_self m1) ⟨rfl, rfl, rfl, trivial⟩ ⟨_, _, hF, rfl, h⟩
      · replace hF := bifF hc3 hF
        refine r_exit rfl ?_
        obtain rfl := someI hF; replace hF := hK1
        refine r_seq ?_
        refine r_region ?_
        refine r_p tabOk rfl rfl ?_
        refine r_p tabOk rfl rfl ?_
        refine r_p tabOk rfl rfl ?_
        refine r_nil ?_
        obtain rfl := someI hF
        exact r_retV tabOk (ρ := (Int × Int)) [GoT.v Int [.int .i64 i1], GoT.v Int [.int .i64 0]] h ⟨rfl, rfl, trivial⟩ (PV.done h (pv_cons h (po_flat (S := fun _ => False) rfl) (pv_one (po_flat (S := fun _ => False) rfl)) (by rfl)))

def laws_FnExactLeastShift (n : Nat) (aS : TLatchSystem) : Option Bool :=
  (laws_szLatchSystem n aS 1048576).bind fun r1 =>
  bif decide (r1 < 0) then
    some true
  else
    (laws_toLatchSystem n aS).bind fun r2 =>
    (spec_LeastShift n r2).bind fun o => match o with
      | (r4, r5) =>
        (laws_toLatchSystem n aS).bind fun r6 =>
        (impl_LeastShift n r6).bind fun o => match o with
          | (r8, r9) =>
            (
              bif (r8 != r4) then
                some true
              else
                some (r9 != r5)).bind fun b1 =>
            bif b1 then
              some false
            else
              (laws_toLatchSystem n aS).bind fun r10 =>
              (laws_eqLatchSystem n r6 r10).bind fun r11 =>
              bif (!r11) then
                some false
              else
                some true

theorem laws_FnExactLeastShift_ok {n : Nat} {w : World} {aS : TLatchSystem} {cs1 : List Value} (ha1 : GoT.R w (old w) aS cs1) {r : Bool} (hF : laws_FnExactLeastShift n aS = some r) : RetV Try.prog 7 [GoT.v TLatchSystem cs1] w r := by
  obtain ⟨p1, k1, p2, k2, rfl, s1, s2⟩ := open_TLatchSystem ha1
  refine retV_of_run Try.func7 rfl (m := 40) rfl rfl (fun h => ?_)
  rw [laws_FnExactLeastShift] at hF
  refine r_seq ?_
  refine r_region ?_
  refine r_box h rfl rfl ?_
  intro w1 bb1 h
  refine r_p tabOk rfl rfl ?_
  refine r_nil ?_
  refine r_seq ?_
  refine r_region ?_
  refine r_p tabOk rfl rfl ?_
  refine r_nil ?_
  refine r_seq ?_
  refine r_region ?_
  refine r_v (v_ld tabOk (h.box 0 rfl) (j := 0) rfl rfl rfl) rfl ?_
  refine r_p tabOk rfl rfl ?_
  obtain ⟨r1, hr1, hF⟩ := bindS hF
  refine r_callI r1 h call13 (laws_szLatchSystem_ok (h.old ha1) hr1) rfl rfl rfl rfl ?_
  intro w2 h
  refine r_p tabOk rfl rfl ?_
  refine r_nil ?_
  refine r_seq ?_
  refine r_seq ?_
  refine r_region ?_
  refine r_p tabOk rfl rfl ?_
  refine r_p tabOk rfl rfl ?_
  refine r_nil ?_
  refine r_cond rfl (fun hc1 => ?_) (fun hc1 => ?_)
  · replace hF := bifT hc1 hF
    refine r_seq ?_
    refine r_region ?_
    refine r_p tabOk rfl rfl ?_
    refine r_nil ?_
    obtain rfl := someI hF
    exact r_retV tabOk (ρ := Bool) [_] h ⟨rfl, trivial⟩ (vs_bool _ _)
  · replace hF := bifF hc1 hF
    refine r_skip ?_
    refine r_seq ?_
    refine r_region ?_
    refine r_v (v_ld tabOk (h.box 0 rfl) (j := 0) rfl rfl rfl) rfl ?_
    obtain ⟨r2, hr2, hF⟩ := bindS hF
    refine r_callO r2 h call15 (laws_toLatchSystem_ok (h.old ha1) hr2) rfl rfl rfl rfl ?_
    intro w3 S1 cs2 h
    obtain ⟨p3, k3, p4, k4, rfl, -, -⟩ := open_TLatchSystem (h.own 0 rfl)
    obtain ⟨r3, hr3, hF⟩ := bindS hF
    obtain ⟨r4, r5⟩ := r3
    refine r_call (r4, r5) h call26 (spec_LeastShift_ok (h.own 0 rfl) hr3) rfl rfl rfl rfl ?_
    intro w4 S2 us1 hv1 hr4
    obtain ⟨S3, us2, rfl, hv1, hr4⟩ := hv1.consI hr4
    obtain ⟨rfl, h⟩ := hv1.lastI hr4
    refine r_p tabOk rfl rfl ?_
    refine r_p tabOk rfl rfl ?_
    refine r_p tabOk rfl rfl ?_
    refine r_p tabOk rfl rfl ?_
    refine r_p tabOk rfl rfl ?_
    refine r_nil ?_
    refine r_seq ?_
    refine r_region ?_
    refine r_v (v_ld tabOk (h.box 1 rfl) (j := 0) rfl rfl rfl) rfl ?_
    obtain ⟨r6, hr5, hF⟩ := bindS hF
    refine r_callO r6 h call15 (laws_toLatchSystem_ok (h.old ha1) hr5) rfl rfl rfl rfl ?_
    intro w5 S5 cs3 h
    obtain ⟨p5, k5, p6, k6, rfl, -, -⟩ := open_TLatchSystem (h.own 0 rfl)
    refine r_alloc tabOk h rfl rfl rfl ?_
    intro w6 bb2 h
    refine r_stbox tabOk 0 h rfl rfl rfl rfl rfl rfl rfl ?_
    intro w7 h
    refine r_nil ?_
    refine r_seq ?_
    refine r_region ?_
    refine r_v (v_ld tabOk (h.box 0 rfl) (j := 0) rfl rfl rfl) rfl ?_
    obtain ⟨r7, hr6, hF⟩ := bindS hF
    obtain ⟨r8, r9⟩ := r7
    refine r_call (r8, r9) h call27 (impl_LeastShift_ok (h.own 1 rfl) hr6) rfl rfl rfl rfl ?_
    intro w8 S6 us3 hv2 hr7
    obtain ⟨S7, us4, rfl, hv2, hr7⟩ := hv2.consI hr7
    obtain ⟨rfl, h⟩ := hv2.lastI hr7
    refine r_p tabOk rfl rfl ?_
    refine r_p tabOk rfl rfl ?_
    refine r_p tabOk rfl rfl ?_
    refine r_p tabOk rfl rfl ?_
    refine r_p tabOk rfl rfl ?_
    refine r_nil ?_
    refine r_seq ?_
    refine r_seq ?_
    obtain ⟨KF1, hKF1, o1, hF, hK1⟩ := bindE hF
    refine r_cut (fun e w' => ∃ (b1 : Bool), KF1 b1 = some r ∧ e = [(1, .pointer (some ⟨bb1, 0, none⟩)), (6, .pointer (some ⟨bb2, 0, none⟩)), (34, .bool b1)] ∧ SH w w' [Ch.box bb2 [.slice p5 r6.Latches.length k5, .slice p6 r6.Links.length k6] 41, Ch.own S5 (r6 : TLatchSystem) [.slice p5 r6.Latches.length k5, .slice p6 r6.Links.length k6], Ch.box bb1 [.slice p1 aS.Latches.length k1, .slice p2 aS.Links.length k2] 34]) ?_ ?_
    · refine r_region ?_
      refine r_p tabOk rfl rfl ?_
      refine r_p tabOk rfl rfl ?_
      refine r_p tabOk rfl rfl ?_
      refine r_p tabOk rfl rfl ?_
      by_cases hc4 : (r8 != r4) = true
      · replace hF := bifT hc4 hF
        refine r_setT hc4 (t := 30) rfl ?_
        refine r_unwanted rfl ?_ (fun _ hd => by cases hd; rfl)
        refine r_unwanted rfl ?_ (fun _ hd => by cases hd; rfl)
        refine r_unwanted rfl ?_ (fun _ hd => by cases hd; rfl)
        refine r_p tabOk rfl rfl ?_
        refine r_nil ?_
        replace h := h.pick [0, 1, 3] rfl
        obtain rfl := someI hF
        exact r_cutgoal [(1, _), (6, _), (34, _)] ⟨rfl, rfl, rfl, trivial⟩ ⟨_, hK1, rfl, h⟩
      · replace hc4 := Bool.eq_false_iff.2 hc4
        replace hF := bifF hc4 hF
        refine r_setF hc4 (t := 30) rfl ?_
        refine r_wanted rfl ?_
        refine r_p tabOk rfl rfl ?_
        refine r_wanted rfl ?_
        refine r_p tabOk rfl rfl ?_
        refine r_wanted rfl ?_
        refine r_p tabOk rfl rfl ?_
        refine r_p tabOk rfl rfl ?_
        refine r_nil ?_
        replace h := h.pick [0, 1, 3] rfl
        obtain rfl := someI hF
        exact r_cutgoal [(1, _), (6, _), (34, _)] ⟨rfl, rfl, rfl, trivial⟩ ⟨_, hK1, rfl, h⟩
    · rintro e1 w14 ⟨b1, hF, rfl, h⟩
      subst hKF1
      refine r_cond rfl (fun hc2 => ?_) (fun hc2 => ?_)
      · replace hF := bifT hc2 hF
        refine r_seq ?_
        refine r_region ?_
        refine r_p tabOk rfl rfl ?_
        refine r_nil ?_
        obtain rfl := someI hF
        exact r_retV tabOk (ρ := Bool) [_] h ⟨rfl, trivial⟩ (vs_bool _ _)
      · replace hF := bifF hc2 hF
        refine r_skip ?_
        refine r_seq ?_
        refine r_seq ?_
        obtain ⟨r10, hr8, hF⟩ := bindS hF
        obtain ⟨r11, hr9, hF⟩ := bindS hF
        refine r_any [] (fun w' => SH w w' [Ch.box bb2 [.slice p5 r6.Latches.length k5, .slice p6 r6.Links.length k6] 41, Ch.box bb1 [.slice p1 aS.Latches.length k1, .slice p2 aS.Links.length k2] 34]) rfl 5 rfl #[false, false, false, false, false] (by kernel_rfl) (fun w11 hb => ?_)
        replace h := h.ext hb
        clear hb
        refine a_take 0 rfl #[true, false, false, false, false] (by kernel_rfl) (by kernel_rfl) (fun w' hw => v_ld tabOk (hw.box 0 rfl) (j := 0) rfl rfl rfl) (h.pick [0, 2] rfl) rfl ?_
        refine a_take 1 rfl #[true, true, false, false, false] (by kernel_rfl) (by kernel_rfl) (fun w' hw => v_ld tabOk (hw.box 1 rfl) (j := 0) rfl rfl rfl) (h.pick [0, 2] rfl) rfl ?_
        refine a_only 2 rfl #[true, true, true, false, false] (by kernel_rfl) (by kernel_rfl) ?_
        refine r_callO r10 h call15 (laws_toLatchSystem_ok (h.old ha1) hr8) rfl rfl rfl rfl ?_
        intro w12 S10 cs5 h
        obtain ⟨p9, k9, p10, k10, rfl, -, -⟩ := open_TLatchSystem (h.own 0 rfl)
        refine a_goal (fun _ => (h.pick [1, 3] rfl)) ?_
        refine a_only 3 rfl #[true, true, true, true, false] (by kernel_rfl) (by kernel_rfl) ?_
        refine r_callB r11 h call18 (laws_eqLatchSystem_ok (h.own 2 rfl) (h.own 0 rfl) hr9) rfl rfl rfl rfl ?_
        intro w13 h
        refine a_goal (fun _ => (h.pick [1, 3] rfl)) ?_
        refine a_take 4 rfl #[true, true, true, true, true] (by kernel_rfl) (by kernel_rfl) (fun w' hw => v_p tabOk rfl w') (h.pick [1, 3] rfl) rfl ?_
        refine a_done (by kernel_rfl) ?_
        refine r_cond rfl (fun hc3 => ?_) (fun hc3 => ?_)
        · replace hF := bifT hc3 hF
          refine r_seq ?_
          refine r_region ?_
          refine r_p tabOk rfl rfl ?_
          refine r_nil ?_
          obtain rfl := someI hF
          exact r_retV tabOk (ρ := Bool) [_] h ⟨rfl, trivial⟩ (vs_bool _ _)
        · replace hF := bifF hc3 hF
          refine r_skip ?_
          refine r_seq ?_
          refine r_region ?_
          refine r_p tabOk rfl rfl ?_
          refine r_nil ?_
          obtain rfl := someI hF
          exact r_retV tabOk (ρ := Bool) [_] h ⟨rfl, trivial⟩ (vs_bool _ _)

end Go.Fw
