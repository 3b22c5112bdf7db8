/- By a program of mine (gen.py): for each function a plain function and the proof that the code computes it. -/
import Derived.Test.YtbpmddedhekleaaGreatDoorA3
namespace Go.Fw
open Go Go.Proofs
open Go.RowKit (Below)
set_option maxRecDepth 100000
def impl_IsTable (n : Nat) (t : TTable) : Option Bool :=
  (impl_isAxis n t.Slews).bind fun r1 =>
  bif r1 then
    (impl_isAxis n t.Loads).bind fun r2 =>
    bif r2 then
      bif ((t.Values.length : Int) == (W64 ((t.Slews.length : Int) * (t.Loads.length : Int)))) then
        (impl_areWithin n t.Values (-1000000) 1000000).bind fun r3 =>
        some r3
      else
        some false
    else
      some false
  else
    some false

theorem impl_IsTable_ok {n : Nat} {w : World} {t : TTable} {cs1 : List Value} (ha1 : GoT.R w (old w) t cs1) {r : Bool} (hF : impl_IsTable n t = some r) : RetV Tryz.prog 83 [GoT.v TTable cs1] w r := by
  obtain ⟨p1, k1, p2, k2, p3, k3, rfl, s1, s2, s3⟩ := open_TTable ha1
  refine retV_of_run Tryz.func83 rfl (m := 29) rfl rfl (fun h => ?_)
  rw [impl_IsTable] at hF
  refine r_seq (r_region (r_box h rfl rfl ?_))
  intro w1 bb1 h
  refine rp rfl rfl (r_nil (r_seq (r_region (rp rfl rfl (r_v (v_ld tabOk (h.box 0 rfl) (j := 0) rfl rfl rfl) rfl ?_)))))
  obtain ⟨r1, hr1, hF⟩ := bindS hF
  refine r_callB r1 h call134 (impl_isAxis_ok ⟨_, _, rfl, (h.oldS s1)⟩ hr1) rfl rfl rfl rfl ?_
  intro w2 h
  refine rp rfl rfl ?_
  by_cases hc1 : r1 = true
  · replace hF := bifT hc1 hF
    refine r_setT hc1 (t := 6) rfl (r_wanted rfl (rp rfl rfl (r_wanted rfl (r_v (v_ld tabOk (h.box 0 rfl) (j := 1) rfl rfl rfl) rfl (r_wanted rfl ?_)))))
    obtain ⟨r2, hr2, hF⟩ := bindS hF
    refine r_callB r2 h call134 (impl_isAxis_ok ⟨_, _, rfl, (h.oldS s2)⟩ hr2) rfl rfl rfl rfl ?_
    intro w3 h
    refine rp rfl rfl (rp rfl rfl ?_)
    by_cases hc2 : r2 = true
    · replace hF := bifT hc2 hF
      refine r_setT hc2 (t := 11) rfl (r_wanted rfl (rp rfl rfl (r_wanted rfl (r_v (v_ld tabOk (h.box 0 rfl) (j := 2) rfl rfl rfl) rfl (r_wanted rfl (rp rfl rfl (r_wanted rfl (rp rfl rfl (r_wanted rfl (r_v (v_ld tabOk (h.box 0 rfl) (j := 0) rfl rfl rfl) rfl (r_wanted rfl ?_)))))))))))
      refine rp rfl rfl (r_wanted rfl (rp rfl rfl (r_wanted rfl (r_v (v_ld tabOk (h.box 0 rfl) (j := 1) rfl rfl rfl) rfl (r_wanted rfl (rp rfl rfl (r_wanted rfl (rp rfl rfl (r_wanted rfl (rp rfl rfl (rp rfl rfl ?_)))))))))))
      refine rp rfl rfl ?_
      by_cases hc3 : ((t.Values.length : Int) == (W64 ((t.Slews.length : Int) * (t.Loads.length : Int)))) = true
      · replace hF := bifT hc3 hF
        refine r_setT hc3 (t := 24) rfl (r_wanted rfl (rp rfl rfl (r_wanted rfl (r_v (v_ld tabOk (h.box 0 rfl) (j := 2) rfl rfl rfl) rfl (r_wanted rfl ?_)))))
        obtain ⟨r3, hr3, hF⟩ := bindS hF
        refine r_callB r3 h call104 (impl_areWithin_ok ⟨_, _, rfl, (h.oldS s3)⟩ hr3) rfl rfl rfl rfl ?_
        intro w4 h
        exact rp rfl rfl (rp rfl rfl (r_nil (r_rB tabOk h hF ⟨rfl, trivial⟩)))
      replace hc3 := Bool.eq_false_iff.2 hc3
      replace hF := bifF hc3 hF
      exact r_setF hc3 (t := 24) rfl (r_not rfl rfl rfl (r_not rfl rfl rfl (r_not rfl rfl rfl (rp rfl rfl (rp rfl rfl (r_nil (r_rB tabOk h hF ⟨rfl, trivial⟩)))))))
    replace hc2 := Bool.eq_false_iff.2 hc2
    replace hF := bifF hc2 hF
    refine r_setF hc2 (t := 11) rfl (r_not rfl rfl rfl (r_not rfl rfl rfl (r_not rfl rfl rfl (r_not rfl rfl rfl (r_not rfl rfl rfl (r_not rfl rfl rfl (r_not rfl rfl rfl (r_not rfl rfl rfl (r_not rfl rfl rfl (r_not rfl rfl rfl (r_not rfl rfl rfl ?_)))))))))))
    exact rp rfl rfl (rp rfl rfl (r_not rfl rfl rfl (r_not rfl rfl rfl (r_not rfl rfl rfl (rp rfl rfl (rp rfl rfl (r_nil (r_rB tabOk h hF ⟨rfl, trivial⟩))))))))
  replace hc1 := Bool.eq_false_iff.2 hc1
  replace hF := bifF hc1 hF
  refine r_setF hc1 (t := 6) rfl (r_not rfl rfl rfl (r_not rfl rfl rfl (r_not rfl rfl rfl (rp rfl rfl (rp rfl rfl (r_not rfl rfl rfl (r_not rfl rfl rfl (r_not rfl rfl rfl (r_not rfl rfl rfl (r_not rfl rfl rfl (r_not rfl rfl rfl ?_)))))))))))
  refine r_not rfl rfl rfl (r_not rfl rfl rfl (r_not rfl rfl rfl (r_not rfl rfl rfl (r_not rfl rfl rfl (rp rfl rfl (rp rfl rfl (r_not rfl rfl rfl (r_not rfl rfl rfl (r_not rfl rfl rfl (rp rfl rfl (rp rfl rfl ?_)))))))))))
  exact r_nil (r_rB tabOk h hF ⟨rfl, trivial⟩)

def slices_Min_int64_L1 (x : (List Int)) : Nat → Int → Int → Option (Int × Int)
  | 0, _, _ => none
  | n + 1, i1, i2 =>
    bif decide (i2 < (x.length : Int)) then
      (idx x i2).bind fun y2 =>
      slices_Min_int64_L1 x n (if y2 < i1 then y2 else i1) (W64 (i2 + 1))
    else
      some (i1, i2)

def slices_Min_int64 (n : Nat) (x : (List Int)) : Option Int :=
  (
    bif decide ((x.length : Int) < 1) then
      none
    else
      some ()).bind fun _ =>
  (idx x 0).bind fun y1 =>
  (slices_Min_int64_L1 x n y1 1).bind fun o => match o with
  | (i1, _) =>
    some i1

theorem slices_Min_int64_ok {n : Nat} {w : World} {x : (List Int)} {cs1 : List Value} (ha1 : GoT.R w (old w) x cs1) {r : Int} (hF : slices_Min_int64 n x = some r) : RetV Tryz.prog 219 [GoT.v (List Int) cs1] w r := by
  obtain ⟨p1, k1, rfl, s1⟩ := ha1
  refine retV_of_run Tryz.func219 rfl (m := 25) rfl rfl (fun h => ?_)
  rw [slices_Min_int64] at hF
  refine r_seq (r_region (rp rfl rfl (r_nil (r_seq (r_seq (r_region (rp rfl rfl (rp rfl rfl (rp rfl rfl (r_nil ?_))))))))))
  obtain ⟨KF1, hKF1, o2, hF, hK2⟩ := bindE hF
  refine r_cut (fun e w' => KF1 () = some r ∧ e = [(0, .slice p1 x.length k1)] ∧ SH w w' []) ?_ ?_
  · refine r_if rfl hF (fun hF => ?_) (fun hF => ?_)
    · refine r_region ?_
      cases hF
    refine r_skip ?_
    obtain rfl := someI hF
    exact r_cutgoal [(0, _)] ⟨rfl, trivial⟩ ⟨hK2, rfl, h⟩
  rintro e2 w2 ⟨hF, rfl, h⟩
  subst hKF1
  refine r_seq (r_region (rp rfl rfl ?_))
  obtain ⟨y1, hy1, hF⟩ := bindS hF
  have he1 := idx_some hy1
  obtain ⟨b1, o_1, q1, cs2, hp1, hq1, -, hr1, hc1⟩ := s1.at hy1
  obtain rfl := hr1
  refine r_v (v_ix tabOk hp1 hq1 ⟨he1.1, he1.2.1⟩ rfl rfl rfl rfl rfl rfl) rfl (r_v (v_ld tabOk (hc1.below h.below) (j := 0) rfl rfl rfl) rfl (rp rfl rfl (r_nil (r_seq (r_seq (r_region (rp rfl rfl (r_nil ?_))))))))
  obtain ⟨o1, hF, hK1⟩ := bindS hF
  refine r_block (r_sub [(0, _), (3, _), (4, _)] ⟨rfl, rfl, rfl, trivial⟩ ?_)
  refine r_loop (fun m e w' => ∃ (i1 : Int) (i2 : Int), slices_Min_int64_L1 x m i1 i2 = some o1 ∧ e = [(0, .slice p1 x.length k1), (3, .int .i64 i1), (4, .int .i64 i2)] ∧ SH w w' []) n ⟨_, _, hF, rfl, h⟩ ?_
  rintro m1 e1 w1 ⟨i1, i2, hF, rfl, h⟩
  rcases m1 with _ | m1
  · rw [slices_Min_int64_L1] at hF
    cases hF
  rw [slices_Min_int64_L1] at hF
  refine r_seq (r_seq (r_region (rp rfl rfl (rp rfl rfl (rp rfl rfl (rp rfl rfl (r_nil ?_)))))))
  refine r_if rfl hF (fun hF => ?_) (fun hF => ?_)
  · refine r_skip (r_seq (r_block (r_region (rp rfl rfl (rp rfl rfl (rp rfl rfl ?_))))))
    obtain ⟨y2, hy2, hF⟩ := bindS hF
    have he2 := idx_some hy2
    obtain ⟨b2, o_2, q2, cs3, hp2, hq2, -, hr2, hc3⟩ := s1.at hy2
    obtain rfl := hr2
    exact r_v (v_ix tabOk hp2 hq2 ⟨he2.1, he2.2.1⟩ rfl rfl rfl rfl rfl rfl) rfl (r_v (v_ld tabOk (hc3.below h.below) (j := 0) rfl rfl rfl) rfl (rp rfl rfl (rp rfl rfl (r_nil (r_blk (r_region (rp rfl rfl (rp rfl rfl (rp rfl rfl (r_nil (r_back m1 [(0, _), (3, _), (4, _)] (Nat.lt_succ_self m1) ⟨rfl, rfl, rfl, trivial⟩ ⟨_, _, hF, rfl, h⟩)))))))))))
  refine r_exit rfl ?_
  obtain rfl := someI hF; replace hF := hK1
  exact r_seq (r_region (rp rfl rfl (rp rfl rfl (r_nil (r_rI tabOk h hF ⟨rfl, trivial⟩)))))

def impl_areTables_1 (n : Nat) (t : TTable) (v0 : Bool) : Option Bool :=
  (impl_IsTable n t).bind fun r1 =>
  bif (!r1) then
    some true
  else
    bif v0 then
      (slices_Min_int64 n t.Values).bind fun r2 =>
      some (decide (r2 < 0))
    else
      some false

theorem impl_areTables_1_ok {n : Nat} {w : World} {t : TTable} {v0 : Bool} {cs1 : List Value} (ha1 : GoT.R w (old w) t cs1) {p4 : Option Addr} (ha2 : GoT.R w (old w) (some v0) [.pointer p4]) {r : Bool} (hF : impl_areTables_1 n t v0 = some r) : RetV Tryz.prog 218 [GoT.v TTable cs1, .pointer p4] w r := by
  obtain ⟨p1, k1, p2, k2, p3, k3, rfl, s1, s2, s3⟩ := open_TTable ha1
  obtain ⟨b1, o_1, cs2, rfl, -, hr1, hc1⟩ := PtR.get ha2 rfl
  obtain rfl := hr1
  refine retV_of_run Tryz.func218 rfl (m := 16) rfl rfl (fun h => ?_)
  rw [impl_areTables_1] at hF
  refine r_seq (r_region (r_box h rfl rfl ?_))
  intro w1 bb1 h
  refine rp rfl rfl (r_nil (r_seq (r_region (r_v (v_ld tabOk (h.box 0 rfl) (j := 0) rfl rfl rfl) rfl ?_))))
  obtain ⟨r1, hr2, hF⟩ := bindS hF
  refine r_callB r1 h call83 (impl_IsTable_ok (h.old ha1) hr2) rfl rfl rfl rfl ?_
  intro w2 h
  refine rp rfl rfl (rp rfl rfl ?_)
  by_cases hc2 : (!r1) = true
  · replace hF := bifT hc2 hF
    exact r_setT hc2 (t := 7) rfl (r_not rfl rfl rfl (r_not rfl rfl rfl (r_not rfl rfl rfl (r_not rfl rfl rfl (r_not rfl rfl rfl (r_not rfl rfl rfl (r_not rfl rfl rfl (rp rfl rfl (rp rfl rfl (r_nil (r_rB tabOk h hF ⟨rfl, trivial⟩)))))))))))
  replace hc2 := Bool.eq_false_iff.2 hc2
  replace hF := bifF hc2 hF
  refine r_setF hc2 (t := 7) rfl (r_wanted rfl (r_v (v_ld tabOk (hc1.below h.below) (j := 0) rfl rfl rfl) rfl (r_wanted rfl (rp rfl rfl ?_))))
  by_cases hc3 : v0 = true
  · replace hF := bifT hc3 hF
    refine r_setT hc3 (t := 9) rfl (r_wanted rfl (rp rfl rfl (r_wanted rfl (r_v (v_ld tabOk (h.box 0 rfl) (j := 2) rfl rfl rfl) rfl (r_wanted rfl ?_)))))
    obtain ⟨r2, hr3, hF⟩ := bindS hF
    refine r_callI r2 h call219 (slices_Min_int64_ok ⟨_, _, rfl, (h.oldS s3)⟩ hr3) rfl rfl rfl rfl ?_
    intro w3 h
    exact r_wanted rfl (rp rfl rfl (r_wanted rfl (rp rfl rfl (rp rfl rfl (rp rfl rfl (r_nil (r_rB tabOk h hF ⟨rfl, trivial⟩)))))))
  replace hc3 := Bool.eq_false_iff.2 hc3
  replace hF := bifF hc3 hF
  exact r_setF hc3 (t := 9) rfl (r_not rfl rfl rfl (r_not rfl rfl rfl (r_not rfl rfl rfl (r_not rfl rfl rfl (r_wanted rfl (rp rfl rfl (rp rfl rfl (rp rfl rfl (r_nil (r_rB tabOk h hF ⟨rfl, trivial⟩))))))))))

def slices_IndexFunc_impl_Table_impl_areTables_1_L1 (s : (List TTable)) (f_0 : Bool) : Nat → Int → Option (Flow Int Int)
  | 0, _ => none
  | n + 1, i1 =>
    bif decide (i1 < (s.length : Int)) then
      (idx s i1).bind fun y1 =>
      (impl_areTables_1 n y1 f_0).bind fun r1 =>
      bif r1 then
        some (.ret i1)
      else
        slices_IndexFunc_impl_Table_impl_areTables_1_L1 s f_0 n (W64 (i1 + 1))
    else
      some (.nxt i1)

def slices_IndexFunc_impl_Table_impl_areTables_1 (n : Nat) (s : (List TTable)) (f_0 : Bool) : Option Int :=
  (slices_IndexFunc_impl_Table_impl_areTables_1_L1 s f_0 n 0).bind fun o => match o with
  | .ret r => some r
  | .nxt _ =>
    some (-1)

theorem slices_IndexFunc_impl_Table_impl_areTables_1_ok {n : Nat} {w : World} {s : (List TTable)} {f_0 : Bool} {cs1 : List Value} (ha1 : GoT.R w (old w) s cs1) {p2 : Option Addr} (ha2 : GoT.R w (old w) (some f_0) [.pointer p2]) {r : Int} (hF : slices_IndexFunc_impl_Table_impl_areTables_1 n s f_0 = some r) : RetV Tryz.prog 82 [GoT.v (List TTable) cs1, .func (.func 218) #[] #[.pointer p2]] w r := by
  obtain ⟨p1, k1, rfl, s1⟩ := ha1
  obtain ⟨b1, o_1, cs2, rfl, -, hr1, hc1⟩ := PtR.get ha2 rfl
  obtain rfl := hr1
  refine retV_of_run Tryz.func82 rfl (m := 19) rfl rfl (fun h => ?_)
  rw [slices_IndexFunc_impl_Table_impl_areTables_1] at hF
  refine r_seq (r_region (rp rfl rfl (r_nil (r_seq (r_seq (r_region (rp rfl rfl (rp rfl rfl (rp rfl rfl (r_nil ?_))))))))))
  obtain ⟨o1, hF, hK1⟩ := bindS hF
  refine r_block (r_sub [(0, _), (1, _), (7, _), (8, _)] ⟨rfl, rfl, rfl, rfl, trivial⟩ ?_)
  refine r_loop (fun m e w' => ∃ (i1 : Int), slices_IndexFunc_impl_Table_impl_areTables_1_L1 s f_0 m i1 = some o1 ∧ e = [(0, .slice p1 s.length k1), (1, .func (.func 218) #[] #[.pointer (some ⟨b1, o_1, none⟩)]), (7, .int .i64 (s.length : Int)), (8, .int .i64 i1)] ∧ SH w w' []) n ⟨_, hF, rfl, h⟩ ?_
  rintro m1 e1 w1 ⟨i1, hF, rfl, h⟩
  rcases m1 with _ | m1
  · rw [slices_IndexFunc_impl_Table_impl_areTables_1_L1] at hF
    cases hF
  rw [slices_IndexFunc_impl_Table_impl_areTables_1_L1] at hF
  refine r_seq (r_region (rp rfl rfl (r_nil (r_seq ?_))))
  refine r_if rfl hF (fun hF => ?_) (fun hF => ?_)
  · refine r_skip (r_seq (r_block (r_seq (r_region (rp rfl rfl (rp rfl rfl (r_nil (r_seq (r_region (rp rfl rfl (rp rfl rfl ?_)))))))))))
    refine rp rfl rfl ?_
    obtain ⟨y1, hy1, hF⟩ := bindS hF
    have he1 := idx_some hy1
    obtain ⟨b2, o_2, q1, cs3, hp1, hq1, -, hr2, hc3⟩ := s1.at hy1
    obtain ⟨p3, k2, p4, k3, p5, k4, rfl, s2, s3, s4⟩ := open_TTable hr2
    refine r_v (v_ix tabOk hp1 hq1 ⟨he1.1, he1.2.1⟩ rfl rfl rfl rfl rfl rfl) rfl (r_v (v_ld tabOk (hc3.below h.below) (j := 0) rfl rfl rfl) rfl ?_)
    obtain ⟨r1, hr3, hF⟩ := bindS hF
    refine r_callB r1 h call218 (impl_areTables_1_ok (mkR_TTable y1 (h.oldS s2) (h.oldS s3) (h.oldS s4)) (h.old ha2) hr3) rfl rfl rfl rfl ?_
    intro w2 h
    refine r_nil ?_
    refine r_if rfl hF (fun hF => ?_) (fun hF => ?_)
    · refine r_seq (r_region (rp rfl rfl (rp rfl rfl (r_nil ?_))))
      obtain rfl := someI hF; replace hF := hK1
      exact r_rI tabOk h hF ⟨rfl, trivial⟩
    exact r_skip (r_blk (r_region (rp rfl rfl (rp rfl rfl (r_nil (r_back m1 [(0, _), (1, _), (7, _), (8, _)] (Nat.lt_succ_self m1) ⟨rfl, rfl, rfl, rfl, trivial⟩ ⟨_, hF, rfl, h⟩))))))
  refine r_exit rfl ?_
  obtain rfl := someI hF; replace hF := hK1
  exact r_seq (r_region (rp rfl rfl (r_nil (r_rI tabOk h hF ⟨rfl, trivial⟩))))

def slices_ContainsFunc_impl_Table_impl_areTables_1 (n : Nat) (s : (List TTable)) (f_0 : Bool) : Option Bool :=
  (slices_IndexFunc_impl_Table_impl_areTables_1 n s f_0).bind fun r1 =>
  some (decide (r1 ≥ 0))

theorem slices_ContainsFunc_impl_Table_impl_areTables_1_ok {n : Nat} {w : World} {s : (List TTable)} {f_0 : Bool} {cs1 : List Value} (ha1 : GoT.R w (old w) s cs1) {p2 : Option Addr} (ha2 : GoT.R w (old w) (some f_0) [.pointer p2]) {r : Bool} (hF : slices_ContainsFunc_impl_Table_impl_areTables_1 n s f_0 = some r) : RetV Tryz.prog 40 [GoT.v (List TTable) cs1, .func (.func 218) #[] #[.pointer p2]] w r := by
  obtain ⟨p1, k1, rfl, s1⟩ := ha1
  obtain ⟨b1, o_1, cs2, rfl, -, hr1, hc1⟩ := PtR.get ha2 rfl
  obtain rfl := hr1
  refine retV_of_run Tryz.func40 rfl (m := 9) rfl rfl (fun h => ?_)
  rw [slices_ContainsFunc_impl_Table_impl_areTables_1] at hF
  refine r_seq (r_region (rp rfl rfl (r_nil (r_seq (r_region (rp rfl rfl (rp rfl rfl ?_)))))))
  obtain ⟨r1, hr2, hF⟩ := bindS hF
  refine r_callI r1 h call82 (slices_IndexFunc_impl_Table_impl_areTables_1_ok ⟨_, _, rfl, (h.oldS s1)⟩ (h.old ha2) hr2) rfl rfl rfl rfl ?_
  intro w1 h
  exact rp rfl rfl (rp rfl rfl (r_nil (r_rB tabOk h hF ⟨rfl, trivial⟩)))

def impl_areTables (n : Nat) (list : (List TTable)) (positive : Bool) : Option Bool :=
  bif ((list.length : Int) == 2) then
    (slices_ContainsFunc_impl_Table_impl_areTables_1 n list positive).bind fun r1 =>
    some (!r1)
  else
    some false

theorem impl_areTables_ok {n : Nat} {w : World} {list : (List TTable)} {positive : Bool} {cs1 : List Value} (ha1 : GoT.R w (old w) list cs1) {r : Bool} (hF : impl_areTables n list positive = some r) : RetV Tryz.prog 208 [GoT.v (List TTable) cs1, .bool positive] w r := by
  obtain ⟨p1, k1, rfl, s1⟩ := ha1
  refine retV_of_run Tryz.func208 rfl (m := 14) rfl rfl (fun h => ?_)
  rw [impl_areTables] at hF
  refine r_seq (r_region (r_box h rfl rfl ?_))
  intro w1 bb1 h
  refine rp rfl rfl (r_nil (r_seq (r_region (rp rfl rfl (rp rfl rfl (rp rfl rfl (rp rfl rfl ?_)))))))
  by_cases hc1 : ((list.length : Int) == 2) = true
  · replace hF := bifT hc1 hF
    refine r_setT hc1 (t := 8) rfl (r_wanted rfl (rp rfl rfl (r_wanted rfl (rp rfl rfl (r_wanted rfl ?_)))))
    obtain ⟨r1, hr1, hF⟩ := bindS hF
    refine r_callB r1 h call40 (slices_ContainsFunc_impl_Table_impl_areTables_1_ok ⟨_, _, rfl, (h.oldS s1)⟩ (ptr_boxB (x := positive) 0 h rfl rfl) hr1) rfl rfl rfl rfl ?_
    intro w2 h
    exact r_wanted rfl (rp rfl rfl (rp rfl rfl (rp rfl rfl (r_nil (r_rB tabOk h hF ⟨rfl, trivial⟩)))))
  replace hc1 := Bool.eq_false_iff.2 hc1
  replace hF := bifF hc1 hF
  exact r_setF hc1 (t := 8) rfl (r_not rfl rfl rfl (r_not rfl rfl rfl (r_not rfl rfl rfl (r_not rfl rfl rfl (rp rfl rfl (rp rfl rfl (r_nil (r_rB tabOk h hF ⟨rfl, trivial⟩))))))))

def impl_Cell_clock_1 (_ : Nat) (p : TPin) : Option Bool :=
  some p.Clock

theorem impl_Cell_clock_1_ok {n : Nat} {w : World} {p : TPin} {cs1 : List Value} (ha1 : GoT.R w (old w) p cs1) {r : Bool} (hF : impl_Cell_clock_1 n p = some r) : RetV Tryz.prog 221 [GoT.v TPin cs1] w r := by
  obtain rfl := open_TPin ha1
  refine retV_of_run Tryz.func221 rfl (m := 5) rfl rfl (fun h => ?_)
  rw [impl_Cell_clock_1] at hF
  refine r_seq (r_region (r_box h rfl rfl ?_))
  intro w1 bb1 h
  exact rp rfl rfl (r_nil (r_seq (r_region (rp rfl rfl (r_v (v_ld tabOk (h.box 0 rfl) (j := 3) rfl rfl rfl) rfl (rp rfl rfl (r_nil (r_rB tabOk h hF ⟨rfl, trivial⟩))))))))

def slices_IndexFunc_impl_Pin_impl_Cell_clock_1_L1 (s : (List TPin)) : Nat → Int → Option (Flow Int Int)
  | 0, _ => none
  | n + 1, i1 =>
    bif decide (i1 < (s.length : Int)) then
      (idx s i1).bind fun y1 =>
      (impl_Cell_clock_1 n y1).bind fun r1 =>
      bif r1 then
        some (.ret i1)
      else
        slices_IndexFunc_impl_Pin_impl_Cell_clock_1_L1 s n (W64 (i1 + 1))
    else
      some (.nxt i1)

def slices_IndexFunc_impl_Pin_impl_Cell_clock_1 (n : Nat) (s : (List TPin)) : Option Int :=
  (slices_IndexFunc_impl_Pin_impl_Cell_clock_1_L1 s n 0).bind fun o => match o with
  | .ret r => some r
  | .nxt _ =>
    some (-1)

theorem slices_IndexFunc_impl_Pin_impl_Cell_clock_1_ok {n : Nat} {w : World} {s : (List TPin)} {cs1 : List Value} (ha1 : GoT.R w (old w) s cs1) {r : Int} (hF : slices_IndexFunc_impl_Pin_impl_Cell_clock_1 n s = some r) : RetV Tryz.prog 220 [GoT.v (List TPin) cs1, .func (.func 221) #[] #[]] w r := by
  obtain ⟨p1, k1, rfl, s1⟩ := ha1
  refine retV_of_run Tryz.func220 rfl (m := 19) rfl rfl (fun h => ?_)
  rw [slices_IndexFunc_impl_Pin_impl_Cell_clock_1] at hF
  refine r_seq (r_region (rp rfl rfl (r_nil (r_seq (r_seq (r_region (rp rfl rfl (rp rfl rfl (rp rfl rfl (r_nil ?_))))))))))
  obtain ⟨o1, hF, hK1⟩ := bindS hF
  refine r_block (r_sub [(0, _), (1, _), (7, _), (8, _)] ⟨rfl, rfl, rfl, rfl, trivial⟩ ?_)
  refine r_loop (fun m e w' => ∃ (i1 : Int), slices_IndexFunc_impl_Pin_impl_Cell_clock_1_L1 s m i1 = some o1 ∧ e = [(0, .slice p1 s.length k1), (1, .func (.func 221) #[] #[]), (7, .int .i64 (s.length : Int)), (8, .int .i64 i1)] ∧ SH w w' []) n ⟨_, hF, rfl, h⟩ ?_
  rintro m1 e1 w1 ⟨i1, hF, rfl, h⟩
  rcases m1 with _ | m1
  · rw [slices_IndexFunc_impl_Pin_impl_Cell_clock_1_L1] at hF
    cases hF
  rw [slices_IndexFunc_impl_Pin_impl_Cell_clock_1_L1] at hF
  refine r_seq (r_region (rp rfl rfl (r_nil (r_seq ?_))))
  refine r_if rfl hF (fun hF => ?_) (fun hF => ?_)
  · refine r_skip (r_seq (r_block (r_seq (r_region (rp rfl rfl (rp rfl rfl (r_nil (r_seq (r_region (rp rfl rfl (rp rfl rfl ?_)))))))))))
    refine rp rfl rfl ?_
    obtain ⟨y1, hy1, hF⟩ := bindS hF
    have he1 := idx_some hy1
    obtain ⟨b1, o_1, q1, cs2, hp1, hq1, -, hr1, hc2⟩ := s1.at hy1
    obtain rfl := open_TPin hr1
    refine r_v (v_ix tabOk hp1 hq1 ⟨he1.1, he1.2.1⟩ rfl rfl rfl rfl rfl rfl) rfl (r_v (v_ld tabOk (hc2.below h.below) (j := 0) rfl rfl rfl) rfl ?_)
    obtain ⟨r1, hr2, hF⟩ := bindS hF
    refine r_callB r1 h call221 (impl_Cell_clock_1_ok (mkR_TPin y1) hr2) rfl rfl rfl rfl ?_
    intro w2 h
    refine r_nil ?_
    refine r_if rfl hF (fun hF => ?_) (fun hF => ?_)
    · refine r_seq (r_region (rp rfl rfl (rp rfl rfl (r_nil ?_))))
      obtain rfl := someI hF; replace hF := hK1
      exact r_rI tabOk h hF ⟨rfl, trivial⟩
    exact r_skip (r_blk (r_region (rp rfl rfl (rp rfl rfl (r_nil (r_back m1 [(0, _), (1, _), (7, _), (8, _)] (Nat.lt_succ_self m1) ⟨rfl, rfl, rfl, rfl, trivial⟩ ⟨_, hF, rfl, h⟩))))))
  refine r_exit rfl ?_
  obtain rfl := someI hF; replace hF := hK1
  exact r_seq (r_region (rp rfl rfl (r_nil (r_rI tabOk h hF ⟨rfl, trivial⟩))))

def impl_Cell_clock (n : Nat) (c : TCell) : Option Int :=
  (slices_IndexFunc_impl_Pin_impl_Cell_clock_1 n c.Pins).bind fun r1 =>
  some r1

theorem impl_Cell_clock_ok {n : Nat} {w : World} {c : TCell} {cs1 : List Value} (ha1 : GoT.R w (old w) c cs1) {r : Int} (hF : impl_Cell_clock n c = some r) : RetV Tryz.prog 209 [GoT.v TCell cs1] w r := by
  obtain ⟨p1, k1, p2, k2, p3, k3, rfl, s1, s2, s3⟩ := open_TCell ha1
  refine retV_of_run Tryz.func209 rfl (m := 6) rfl rfl (fun h => ?_)
  rw [impl_Cell_clock] at hF
  refine r_seq (r_region (r_box h rfl rfl ?_))
  intro w1 bb1 h
  refine rp rfl rfl (r_nil (r_seq (r_region (rp rfl rfl (r_v (v_ld tabOk (h.box 0 rfl) (j := 2) rfl rfl rfl) rfl ?_)))))
  obtain ⟨r1, hr1, hF⟩ := bindS hF
  refine r_callI r1 h call220 (slices_IndexFunc_impl_Pin_impl_Cell_clock_1_ok ⟨_, _, rfl, (h.oldS s1)⟩ hr1) rfl rfl rfl rfl ?_
  intro w2 h
  exact rp rfl rfl (r_nil (r_rI tabOk h hF ⟨rfl, trivial⟩))

def impl_Cell_isInput (n : Nat) (c : TCell) (pin : Int) : Option Bool :=
  (impl_Cell_output n c).bind fun r1 =>
  (impl_within n pin 0 (W64 (r1 - 1))).bind fun r2 =>
  some r2

theorem impl_Cell_isInput_ok {n : Nat} {w : World} {c : TCell} {pin : Int} {cs1 : List Value} (ha1 : GoT.R w (old w) c cs1) {r : Bool} (hF : impl_Cell_isInput n c pin = some r) : RetV Tryz.prog 210 [GoT.v TCell cs1, .int .i64 pin] w r := by
  obtain ⟨p1, k1, p2, k2, p3, k3, rfl, s1, s2, s3⟩ := open_TCell ha1
  refine retV_of_run Tryz.func210 rfl (m := 10) rfl rfl (fun h => ?_)
  rw [impl_Cell_isInput] at hF
  refine r_seq (r_region (r_box h rfl rfl ?_))
  intro w1 bb1 h
  refine rp rfl rfl (r_nil (r_seq (r_region (rp rfl rfl (r_v (v_ld tabOk (h.box 0 rfl) (j := 0) rfl rfl rfl) rfl ?_)))))
  obtain ⟨r1, hr1, hF⟩ := bindS hF
  refine r_callI r1 h call150 (impl_Cell_output_ok (h.old ha1) hr1) rfl rfl rfl rfl ?_
  intro w2 h
  refine rp rfl rfl ?_
  obtain ⟨r2, hr2, hF⟩ := bindS hF
  refine r_callB r2 h call90 (impl_within_ok hr2) rfl rfl rfl rfl ?_
  intro w3 h
  exact rp rfl rfl (r_nil (r_rB tabOk h hF ⟨rfl, trivial⟩))

def impl_Cell_isArc (n : Nat) (a_0 : TCell) (a_1 : TArc) : Option Bool :=
  (impl_isCheck n a_1.Kind).bind fun r1 =>
  bif r1 then
    (
      bif (a_1.Sense == 0) then
        bif ((a_1.Slew.length : Int) == 0) then
          (impl_areTables n a_1.Delay false).bind fun r2 =>
          bif r2 then
            (impl_Cell_clock n a_0).bind fun r3 =>
            bif (a_1.From == r3) then
              bif decide (a_1.From ≥ 0) then
                (impl_Cell_isInput n a_0 a_1.To).bind fun r4 =>
                bif r4 then
                  some (a_1.To != a_1.From)
                else
                  some false
              else
                some false
            else
              some false
          else
            some false
        else
          some false
      else
        some false).bind fun b1 =>
    some b1
  else
    (
      (impl_areTables n a_1.Delay true).bind fun r6 =>
      bif (!r6) then
        some true
      else
        (impl_areTables n a_1.Slew true).bind fun r7 =>
        bif (!r7) then
          some true
        else
          (impl_Cell_output n a_0).bind fun r8 =>
          bif (a_1.To != r8) then
            some true
          else
            (impl_Cell_isInput n a_0 a_1.From).bind fun r9 =>
            some (!r9)).bind fun b2 =>
    bif b2 then
      some false
    else
      bif (a_1.Kind == 1) then
        (idx a_0.Pins a_1.From).bind fun y1 =>
        bif (!y1.Clock) then
          (impl_within n a_1.Sense 1 3).bind fun r5 =>
          some r5
        else
          some false
      else
        (
          bif (a_1.Kind == 2) then
            some (a_1.Kind == 2)
          else
            some (a_1.Kind == 3)).bind fun b4 =>
        bif b4 then
          (idx a_0.Pins a_1.From).bind fun y2 =>
          bif y2.Clock then
            some (a_1.Sense == 0)
          else
            some false
        else
          some false

theorem impl_Cell_isArc_ok {n : Nat} {w : World} {a_0 : TCell} {a_1 : TArc} {cs1 : List Value} (ha1 : GoT.R w (old w) a_0 cs1) {cs2 : List Value} (ha2 : GoT.R w (old w) a_1 cs2) {r : Bool} (hF : impl_Cell_isArc n a_0 a_1 = some r) : RetV Tryz.prog 192 [GoT.v TCell cs1, GoT.v TArc cs2] w r := by
  obtain ⟨p1, k1, p2, k2, p3, k3, rfl, s1, s2, s3⟩ := open_TCell ha1
  obtain ⟨p4, k4, p5, k5, rfl, s4, s5⟩ := open_TArc ha2
  refine retV_of_run Tryz.func192 rfl (m := 103) rfl rfl (fun h => ?_)
  rw [impl_Cell_isArc] at hF
  refine r_seq (r_region (r_box h rfl rfl ?_))
  intro w1 bb1 h
  refine r_box h rfl rfl ?_
  intro w2 bb2 h
  refine rp rfl rfl (r_nil (r_seq (r_seq (r_region (rp rfl rfl (r_v (v_ld tabOk (h.box 0 rfl) (j := 0) rfl rfl rfl) rfl ?_))))))
  obtain ⟨r1, hr1, hF⟩ := bindS hF
  refine r_callB r1 h call39 (impl_isCheck_ok hr1) rfl rfl rfl rfl ?_
  intro w3 h
  refine r_nil ?_
  refine r_if rfl hF (fun hF => ?_) (fun hF => ?_)
  · refine r_seq ?_
    obtain ⟨KF1, hKF1, o1, hF, hK1⟩ := bindE hF
    refine r_cut (fun e w' => ∃ (b1 : Bool), KF1 b1 = some r ∧ e = [(4, .bool b1)] ∧ SH w w' []) ?_ ?_
    · refine r_draw rfl (by kernel_rfl) ?_
      refine dp rfl rfl ?_
      refine d_v (fun _ hb => v_ld tabOk ((h.box 0 rfl).below hb) (j := 3) rfl rfl rfl) rfl ?_
      refine dp rfl rfl (dp rfl rfl ?_)
      by_cases hc2 : (a_1.Sense == 0) = true
      · replace hF := bifT hc2 hF
        refine d_setT hc2 (t := 11) rfl (d_wanted rfl (dp rfl rfl (d_wanted rfl ?_)))
        refine d_v (fun _ hb => v_ld tabOk ((h.box 0 rfl).below hb) (j := 5) rfl rfl rfl) rfl ?_
        refine d_wanted rfl (dp rfl rfl (d_wanted rfl (dp rfl rfl (dp rfl rfl (dp rfl rfl ?_)))))
        by_cases hc3 : ((a_1.Slew.length : Int) == 0) = true
        · replace hF := bifT hc3 hF
          refine d_setT hc3 (t := 17) rfl (d_wanted rfl (dp rfl rfl (d_wanted rfl ?_)))
          refine d_v (fun _ hb => v_ld tabOk ((h.box 0 rfl).below hb) (j := 4) rfl rfl rfl) rfl ?_
          refine d_wanted rfl ?_
          obtain ⟨r2, hr2, hF⟩ := bindS hF
          refine d_call r2 (vsB _) call208 (fun _ hb => impl_areTables_ok ⟨_, _, rfl, ((h.ext hb).oldS s4)⟩ hr2) rfl rfl rfl rfl ?_
          refine dp rfl rfl (dp rfl rfl ?_)
          by_cases hc4 : r2 = true
          · replace hF := bifT hc4 hF
            refine d_setT hc4 (t := 22) rfl (d_wanted rfl (dp rfl rfl (d_wanted rfl ?_)))
            refine d_v (fun _ hb => v_ld tabOk ((h.box 0 rfl).below hb) (j := 1) rfl rfl rfl) rfl ?_
            refine d_wanted rfl ?_
            refine d_v (fun _ hb => v_ld tabOk ((h.box 1 rfl).below hb) (j := 0) rfl rfl rfl) rfl ?_
            refine d_wanted rfl ?_
            obtain ⟨r3, hr3, hF⟩ := bindS hF
            refine d_call r3 (vsI _) call209 (fun _ hb => impl_Cell_clock_ok ((h.ext hb).old ha1) hr3) rfl rfl rfl rfl ?_
            refine d_wanted rfl (dp rfl rfl (dp rfl rfl (dp rfl rfl ?_)))
            by_cases hc5 : (a_1.From == r3) = true
            · replace hF := bifT hc5 hF
              refine d_setT hc5 (t := 29) rfl (d_wanted rfl (dp rfl rfl (d_wanted rfl ?_)))
              refine d_v (fun _ hb => v_ld tabOk ((h.box 0 rfl).below hb) (j := 1) rfl rfl rfl) rfl ?_
              refine d_wanted rfl (dp rfl rfl (dp rfl rfl (dp rfl rfl ?_)))
              by_cases hc6 : (decide (a_1.From ≥ 0)) = true
              · replace hF := bifT hc6 hF
                refine d_setT hc6 (t := 34) rfl (d_wanted rfl ?_)
                refine d_v (fun _ hb => v_ld tabOk ((h.box 1 rfl).below hb) (j := 0) rfl rfl rfl) rfl ?_
                refine d_wanted rfl (dp rfl rfl (d_wanted rfl ?_))
                refine d_v (fun _ hb => v_ld tabOk ((h.box 0 rfl).below hb) (j := 2) rfl rfl rfl) rfl ?_
                refine d_wanted rfl ?_
                obtain ⟨r4, hr4, hF⟩ := bindS hF
                refine d_call r4 (vsB _) call210 (fun _ hb => impl_Cell_isInput_ok ((h.ext hb).old ha1) hr4) rfl rfl rfl rfl ?_
                refine dp rfl rfl (dp rfl rfl ?_)
                by_cases hc7 : r4 = true
                · replace hF := bifT hc7 hF
                  refine d_setT hc7 (t := 40) rfl (d_wanted rfl (dp rfl rfl (d_wanted rfl ?_)))
                  refine d_v (fun _ hb => v_ld tabOk ((h.box 0 rfl).below hb) (j := 2) rfl rfl rfl) rfl ?_
                  refine d_wanted rfl (dp rfl rfl (d_wanted rfl ?_))
                  refine d_v (fun _ hb => v_ld tabOk ((h.box 0 rfl).below hb) (j := 1) rfl rfl rfl) rfl ?_
                  refine d_wanted rfl (dp rfl rfl (dp rfl rfl (dp rfl rfl ?_)))
                  refine d_nil (fun w4 hb => ?_)
                  replace h := h.ext hb
                  clear hb
                  replace h := h.pick [] rfl
                  obtain rfl := someI hF
                  exact r_cutgoal [(4, _)] ⟨rfl, trivial⟩ ⟨_, hK1, rfl, h⟩
                replace hc7 := Bool.eq_false_iff.2 hc7
                replace hF := bifF hc7 hF
                refine d_setF hc7 (t := 40) rfl (d_not rfl rfl rfl (d_not rfl rfl rfl (d_not rfl rfl rfl (d_not rfl rfl rfl (d_not rfl rfl rfl (dp rfl rfl (dp rfl rfl ?_)))))))
                refine d_nil (fun w5 hb => ?_)
                replace h := h.ext hb
                clear hb
                replace h := h.pick [] rfl
                obtain rfl := someI hF
                exact r_cutgoal [(4, _)] ⟨rfl, trivial⟩ ⟨_, hK1, rfl, h⟩
              replace hc6 := Bool.eq_false_iff.2 hc6
              replace hF := bifF hc6 hF
              refine d_setF hc6 (t := 34) rfl (d_not rfl rfl rfl (d_not rfl rfl rfl (d_not rfl rfl rfl (d_not rfl rfl rfl (dp rfl rfl (dp rfl rfl (d_not rfl rfl rfl (d_not rfl rfl rfl (d_not rfl rfl rfl (d_not rfl rfl rfl (d_not rfl rfl rfl ?_)))))))))))
              refine dp rfl rfl (dp rfl rfl ?_)
              refine d_nil (fun w6 hb => ?_)
              replace h := h.ext hb
              clear hb
              replace h := h.pick [] rfl
              obtain rfl := someI hF
              exact r_cutgoal [(4, _)] ⟨rfl, trivial⟩ ⟨_, hK1, rfl, h⟩
            replace hc5 := Bool.eq_false_iff.2 hc5
            replace hF := bifF hc5 hF
            refine d_setF hc5 (t := 29) rfl (d_not rfl rfl rfl (d_not rfl rfl rfl (d_not rfl rfl rfl (dp rfl rfl (dp rfl rfl (d_not rfl rfl rfl (d_not rfl rfl rfl (d_not rfl rfl rfl (d_not rfl rfl rfl (dp rfl rfl (dp rfl rfl ?_)))))))))))
            refine d_not rfl rfl rfl (d_not rfl rfl rfl (d_not rfl rfl rfl (d_not rfl rfl rfl (d_not rfl rfl rfl (dp rfl rfl (dp rfl rfl ?_))))))
            refine d_nil (fun w7 hb => ?_)
            replace h := h.ext hb
            clear hb
            replace h := h.pick [] rfl
            obtain rfl := someI hF
            exact r_cutgoal [(4, _)] ⟨rfl, trivial⟩ ⟨_, hK1, rfl, h⟩
          replace hc4 := Bool.eq_false_iff.2 hc4
          replace hF := bifF hc4 hF
          refine d_setF hc4 (t := 22) rfl (d_not rfl rfl rfl (d_not rfl rfl rfl (d_not rfl rfl rfl (d_not rfl rfl rfl (d_not rfl rfl rfl (dp rfl rfl (dp rfl rfl (d_not rfl rfl rfl (d_not rfl rfl rfl (d_not rfl rfl rfl (dp rfl rfl ?_)))))))))))
          refine dp rfl rfl (d_not rfl rfl rfl (d_not rfl rfl rfl (d_not rfl rfl rfl (d_not rfl rfl rfl (dp rfl rfl (dp rfl rfl (d_not rfl rfl rfl (d_not rfl rfl rfl (d_not rfl rfl rfl (d_not rfl rfl rfl (d_not rfl rfl rfl ?_)))))))))))
          refine dp rfl rfl (dp rfl rfl ?_)
          refine d_nil (fun w8 hb => ?_)
          replace h := h.ext hb
          clear hb
          replace h := h.pick [] rfl
          obtain rfl := someI hF
          exact r_cutgoal [(4, _)] ⟨rfl, trivial⟩ ⟨_, hK1, rfl, h⟩
        replace hc3 := Bool.eq_false_iff.2 hc3
        replace hF := bifF hc3 hF
        refine d_setF hc3 (t := 17) rfl (d_not rfl rfl rfl (d_not rfl rfl rfl (d_not rfl rfl rfl (dp rfl rfl (dp rfl rfl (d_not rfl rfl rfl (d_not rfl rfl rfl (d_not rfl rfl rfl (d_not rfl rfl rfl (d_not rfl rfl rfl (dp rfl rfl ?_)))))))))))
        refine dp rfl rfl (d_not rfl rfl rfl (d_not rfl rfl rfl (d_not rfl rfl rfl (dp rfl rfl (dp rfl rfl (d_not rfl rfl rfl (d_not rfl rfl rfl (d_not rfl rfl rfl (d_not rfl rfl rfl (dp rfl rfl (dp rfl rfl ?_)))))))))))
        refine d_not rfl rfl rfl (d_not rfl rfl rfl (d_not rfl rfl rfl (d_not rfl rfl rfl (d_not rfl rfl rfl (dp rfl rfl (dp rfl rfl ?_))))))
        refine d_nil (fun w9 hb => ?_)
        replace h := h.ext hb
        clear hb
        replace h := h.pick [] rfl
        obtain rfl := someI hF
        exact r_cutgoal [(4, _)] ⟨rfl, trivial⟩ ⟨_, hK1, rfl, h⟩
      replace hc2 := Bool.eq_false_iff.2 hc2
      replace hF := bifF hc2 hF
      refine d_setF hc2 (t := 11) rfl (d_not rfl rfl rfl (d_not rfl rfl rfl (d_not rfl rfl rfl (d_not rfl rfl rfl (dp rfl rfl (dp rfl rfl (d_not rfl rfl rfl (d_not rfl rfl rfl (d_not rfl rfl rfl (dp rfl rfl (dp rfl rfl ?_)))))))))))
      refine d_not rfl rfl rfl (d_not rfl rfl rfl (d_not rfl rfl rfl (d_not rfl rfl rfl (d_not rfl rfl rfl (dp rfl rfl (dp rfl rfl (d_not rfl rfl rfl (d_not rfl rfl rfl (d_not rfl rfl rfl (dp rfl rfl (dp rfl rfl ?_)))))))))))
      refine d_not rfl rfl rfl (d_not rfl rfl rfl (d_not rfl rfl rfl (d_not rfl rfl rfl (dp rfl rfl (dp rfl rfl (d_not rfl rfl rfl (d_not rfl rfl rfl (d_not rfl rfl rfl (d_not rfl rfl rfl (d_not rfl rfl rfl (dp rfl rfl ?_)))))))))))
      refine dp rfl rfl ?_
      refine d_nil (fun w10 hb => ?_)
      replace h := h.ext hb
      clear hb
      replace h := h.pick [] rfl
      obtain rfl := someI hF
      exact r_cutgoal [(4, _)] ⟨rfl, trivial⟩ ⟨_, hK1, rfl, h⟩
    rintro e1 w11 ⟨b1, hF, rfl, h⟩
    subst hKF1
    exact r_rB tabOk h hF ⟨rfl, trivial⟩
  refine r_skip (r_seq (r_seq ?_))
  obtain ⟨KF3, hKF3, o3, hF, hK3⟩ := bindE hF
  refine r_cut (fun e w' => ∃ (b2 : Bool), KF3 b2 = some r ∧ e = [(2, .pointer (some ⟨bb1, 0, none⟩)), (3, .pointer (some ⟨bb2, 0, none⟩)), (70, .bool b2)] ∧ SH w w' [Ch.box bb2 [.int .i64 a_1.Kind, .int .i64 a_1.From, .int .i64 a_1.To, .int .i64 a_1.Sense, .slice p4 a_1.Delay.length k4, .slice p5 a_1.Slew.length k5] 73, Ch.box bb1 [.string a_0.Name, .int .i64 a_0.Kind, .slice p1 a_0.Pins.length k1, .slice p2 a_0.Arcs.length k2, .slice p3 a_0.Truth.length k3, .int .i64 a_0.Leak, .int .i64 a_0.Energy] 70]) ?_ ?_
  · refine r_draw rfl (by kernel_rfl) ?_
    refine dp rfl rfl ?_
    refine d_v (fun _ hb => v_ld tabOk ((h.box 0 rfl).below hb) (j := 4) rfl rfl rfl) rfl ?_
    obtain ⟨r6, hr8, hF⟩ := bindS hF
    refine d_call r6 (vsB _) call208 (fun _ hb => impl_areTables_ok ⟨_, _, rfl, ((h.ext hb).oldS s4)⟩ hr8) rfl rfl rfl rfl ?_
    refine dp rfl rfl (dp rfl rfl ?_)
    by_cases hc16 : (!r6) = true
    · replace hF := bifT hc16 hF
      refine d_setT hc16 (t := 51) rfl (d_not rfl rfl rfl (d_not rfl rfl rfl (d_not rfl rfl rfl (d_not rfl rfl rfl (dp rfl rfl (dp rfl rfl (d_not rfl rfl rfl (d_not rfl rfl rfl (d_not rfl rfl rfl (d_not rfl rfl rfl (d_not rfl rfl rfl ?_)))))))))))
      refine dp rfl rfl (dp rfl rfl (d_not rfl rfl rfl (d_not rfl rfl rfl (d_not rfl rfl rfl (d_not rfl rfl rfl (d_not rfl rfl rfl (dp rfl rfl ?_)))))))
      refine d_nil (fun w14 hb => ?_)
      replace h := h.ext hb
      clear hb
      obtain rfl := someI hF
      exact r_cutgoal [(2, _), (3, _), (70, _)] ⟨rfl, rfl, rfl, trivial⟩ ⟨_, hK3, rfl, h⟩
    replace hc16 := Bool.eq_false_iff.2 hc16
    replace hF := bifF hc16 hF
    refine d_setF hc16 (t := 51) rfl (d_wanted rfl (dp rfl rfl (d_wanted rfl ?_)))
    refine d_v (fun _ hb => v_ld tabOk ((h.box 0 rfl).below hb) (j := 5) rfl rfl rfl) rfl ?_
    refine d_wanted rfl ?_
    obtain ⟨r7, hr9, hF⟩ := bindS hF
    refine d_call r7 (vsB _) call208 (fun _ hb => impl_areTables_ok ⟨_, _, rfl, ((h.ext hb).oldS s5)⟩ hr9) rfl rfl rfl rfl ?_
    refine d_wanted rfl (dp rfl rfl (dp rfl rfl (dp rfl rfl ?_)))
    by_cases hc17 : (!r7) = true
    · replace hF := bifT hc17 hF
      refine d_setT hc17 (t := 57) rfl (d_not rfl rfl rfl (d_not rfl rfl rfl (d_not rfl rfl rfl (d_not rfl rfl rfl (d_not rfl rfl rfl (dp rfl rfl (dp rfl rfl (d_not rfl rfl rfl (d_not rfl rfl rfl (d_not rfl rfl rfl (d_not rfl rfl rfl ?_)))))))))))
      refine d_not rfl rfl rfl (dp rfl rfl ?_)
      refine d_nil (fun w15 hb => ?_)
      replace h := h.ext hb
      clear hb
      obtain rfl := someI hF
      exact r_cutgoal [(2, _), (3, _), (70, _)] ⟨rfl, rfl, rfl, trivial⟩ ⟨_, hK3, rfl, h⟩
    replace hc17 := Bool.eq_false_iff.2 hc17
    replace hF := bifF hc17 hF
    refine d_setF hc17 (t := 57) rfl (d_wanted rfl (dp rfl rfl (d_wanted rfl ?_)))
    refine d_v (fun _ hb => v_ld tabOk ((h.box 0 rfl).below hb) (j := 2) rfl rfl rfl) rfl ?_
    refine d_wanted rfl ?_
    refine d_v (fun _ hb => v_ld tabOk ((h.box 1 rfl).below hb) (j := 0) rfl rfl rfl) rfl ?_
    refine d_wanted rfl ?_
    obtain ⟨r8, hr10, hF⟩ := bindS hF
    refine d_call r8 (vsI _) call150 (fun _ hb => impl_Cell_output_ok ((h.ext hb).old ha1) hr10) rfl rfl rfl rfl ?_
    refine d_wanted rfl (dp rfl rfl (dp rfl rfl (dp rfl rfl ?_)))
    by_cases hc18 : (a_1.To != r8) = true
    · replace hF := bifT hc18 hF
      refine d_setT hc18 (t := 64) rfl (d_not rfl rfl rfl (d_not rfl rfl rfl (d_not rfl rfl rfl (d_not rfl rfl rfl (d_not rfl rfl rfl (dp rfl rfl ?_))))))
      refine d_nil (fun w16 hb => ?_)
      replace h := h.ext hb
      clear hb
      obtain rfl := someI hF
      exact r_cutgoal [(2, _), (3, _), (70, _)] ⟨rfl, rfl, rfl, trivial⟩ ⟨_, hK3, rfl, h⟩
    replace hc18 := Bool.eq_false_iff.2 hc18
    replace hF := bifF hc18 hF
    refine d_setF hc18 (t := 64) rfl (d_wanted rfl ?_)
    refine d_v (fun _ hb => v_ld tabOk ((h.box 1 rfl).below hb) (j := 0) rfl rfl rfl) rfl ?_
    refine d_wanted rfl (dp rfl rfl (d_wanted rfl ?_))
    refine d_v (fun _ hb => v_ld tabOk ((h.box 0 rfl).below hb) (j := 1) rfl rfl rfl) rfl ?_
    refine d_wanted rfl ?_
    obtain ⟨r9, hr11, hF⟩ := bindS hF
    refine d_call r9 (vsB _) call210 (fun _ hb => impl_Cell_isInput_ok ((h.ext hb).old ha1) hr11) rfl rfl rfl rfl ?_
    refine d_wanted rfl (dp rfl rfl (dp rfl rfl ?_))
    refine d_nil (fun w17 hb => ?_)
    replace h := h.ext hb
    clear hb
    obtain rfl := someI hF
    exact r_cutgoal [(2, _), (3, _), (70, _)] ⟨rfl, rfl, rfl, trivial⟩ ⟨_, hK3, rfl, h⟩
  rintro e3 w18 ⟨b2, hF, rfl, h⟩
  subst hKF3
  refine r_if rfl hF (fun hF => ?_) (fun hF => ?_)
  · exact r_seq (r_region (rp rfl rfl (r_nil (r_rB tabOk h hF ⟨rfl, trivial⟩))))
  refine r_skip (r_seq (r_seq (r_region (rp rfl rfl (r_v (v_ld tabOk (h.box 0 rfl) (j := 0) rfl rfl rfl) rfl (r_nil (r_block (r_seq (r_region (rp rfl rfl (rp rfl rfl ?_)))))))))))
  refine r_nil ?_
  refine r_if rfl hF (fun hF => ?_) (fun hF => ?_)
  · refine r_seq (r_region (rp rfl rfl (r_v (v_ld tabOk (h.box 1 rfl) (j := 2) rfl rfl rfl) rfl (rp rfl rfl (r_v (v_ld tabOk (h.box 0 rfl) (j := 1) rfl rfl rfl) rfl ?_)))))
    obtain ⟨y1, hy1, hF⟩ := bindS hF
    have he1 := idx_some hy1
    obtain ⟨b3, o_1, q1, cs3, hp1, hq1, -, hr5, hc10⟩ := s1.at hy1
    obtain rfl := open_TPin hr5
    refine r_v (v_ix tabOk hp1 hq1 ⟨he1.1, he1.2.1⟩ rfl rfl rfl rfl rfl rfl) rfl (rp rfl rfl (r_v (v_ld tabOk (hc10.below h.below) (j := 3) rfl rfl rfl) rfl (rp rfl rfl (rp rfl rfl ?_))))
    by_cases hc11 : (!y1.Clock) = true
    · replace hF := bifT hc11 hF
      refine r_setT hc11 (t := 83) rfl (r_wanted rfl (rp rfl rfl (r_wanted rfl (r_v (v_ld tabOk (h.box 0 rfl) (j := 3) rfl rfl rfl) rfl (r_wanted rfl ?_)))))
      obtain ⟨r5, hr6, hF⟩ := bindS hF
      refine r_callB r5 h call90 (impl_within_ok hr6) rfl rfl rfl rfl ?_
      intro w12 h
      exact rp rfl rfl (rp rfl rfl (r_nil (r_rB tabOk h hF ⟨rfl, trivial⟩)))
    replace hc11 := Bool.eq_false_iff.2 hc11
    replace hF := bifF hc11 hF
    exact r_setF hc11 (t := 83) rfl (r_not rfl rfl rfl (r_not rfl rfl rfl (r_not rfl rfl rfl (rp rfl rfl (rp rfl rfl (r_nil (r_rB tabOk h hF ⟨rfl, trivial⟩)))))))
  refine r_seq (r_seq (r_region (rp rfl rfl (rp rfl rfl (r_nil ?_)))))
  obtain ⟨KF2, hKF2, o2, hF, hK2⟩ := bindE hF
  refine r_cut (fun e w' => ∃ (b4 : Bool), KF2 b4 = some r ∧ e = [(2, .pointer (some ⟨bb1, 0, none⟩)), (3, .pointer (some ⟨bb2, 0, none⟩)), (88, .bool b4)] ∧ SH w w' [Ch.box bb2 [.int .i64 a_1.Kind, .int .i64 a_1.From, .int .i64 a_1.To, .int .i64 a_1.Sense, .slice p4 a_1.Delay.length k4, .slice p5 a_1.Slew.length k5] 73, Ch.box bb1 [.string a_0.Name, .int .i64 a_0.Kind, .slice p1 a_0.Pins.length k1, .slice p2 a_0.Arcs.length k2, .slice p3 a_0.Truth.length k3, .int .i64 a_0.Leak, .int .i64 a_0.Energy] 70]) ?_ ?_
  · refine r_if rfl hF (fun hF => ?_) (fun hF => ?_)
    · refine r_skip ?_
      obtain rfl := someI hF
      exact r_cutgoal [(2, _), (3, _), (88, _)] ⟨rfl, rfl, rfl, trivial⟩ ⟨_, hK2, rfl, h⟩
    refine r_region (rp rfl rfl (rp rfl rfl (r_nil ?_)))
    obtain rfl := someI hF
    exact r_cutgoal [(2, _), (3, _), (88, _)] ⟨rfl, rfl, rfl, trivial⟩ ⟨_, hK2, rfl, h⟩
  rintro e2 w13 ⟨b4, hF, rfl, h⟩
  subst hKF2
  refine r_if rfl hF (fun hF => ?_) (fun hF => ?_)
  · refine r_seq (r_region (rp rfl rfl (r_v (v_ld tabOk (h.box 1 rfl) (j := 2) rfl rfl rfl) rfl (rp rfl rfl (r_v (v_ld tabOk (h.box 0 rfl) (j := 1) rfl rfl rfl) rfl ?_)))))
    obtain ⟨y2, hy2, hF⟩ := bindS hF
    have he2 := idx_some hy2
    obtain ⟨b5, o_2, q2, cs4, hp2, hq2, -, hr7, hc13⟩ := s1.at hy2
    obtain rfl := open_TPin hr7
    refine r_v (v_ix tabOk hp2 hq2 ⟨he2.1, he2.2.1⟩ rfl rfl rfl rfl rfl rfl) rfl (rp rfl rfl (r_v (v_ld tabOk (hc13.below h.below) (j := 3) rfl rfl rfl) rfl (rp rfl rfl ?_)))
    by_cases hc14 : y2.Clock = true
    · replace hF := bifT hc14 hF
      exact r_setT hc14 (t := 98) rfl (r_wanted rfl (rp rfl rfl (r_wanted rfl (r_v (v_ld tabOk (h.box 0 rfl) (j := 3) rfl rfl rfl) rfl (r_wanted rfl (rp rfl rfl (rp rfl rfl (rp rfl rfl (r_nil (r_rB tabOk h hF ⟨rfl, trivial⟩))))))))))
    replace hc14 := Bool.eq_false_iff.2 hc14
    replace hF := bifF hc14 hF
    exact r_setF hc14 (t := 98) rfl (r_not rfl rfl rfl (r_not rfl rfl rfl (r_not rfl rfl rfl (rp rfl rfl (rp rfl rfl (r_nil (r_rB tabOk h hF ⟨rfl, trivial⟩)))))))
  exact r_skip (r_blk (r_seq (r_region (rp rfl rfl (r_nil (r_rB tabOk h hF ⟨rfl, trivial⟩))))))

def impl_Cell_areArcs_1 (_ : Nat) (a_o : TArc) (v0 : TArc) : Option Bool :=
  bif (a_o.Kind == v0.Kind) then
    bif (a_o.From == v0.From) then
      some (a_o.To == v0.To)
    else
      some false
  else
    some false

theorem impl_Cell_areArcs_1_ok {n : Nat} {w : World} {a_o : TArc} {v0 : TArc} {cs1 : List Value} (ha1 : GoT.R w (old w) a_o cs1) {p3 : Option Addr} (ha2 : GoT.R w (old w) (some v0) [.pointer p3]) {r : Bool} (hF : impl_Cell_areArcs_1 n a_o v0 = some r) : RetV Tryz.prog 193 [GoT.v TArc cs1, .pointer p3] w r := by
  obtain ⟨p1, k1, p2, k2, rfl, s1, s2⟩ := open_TArc ha1
  obtain ⟨b1, o_1, cs2, rfl, -, hr1, hc1⟩ := PtR.get ha2 rfl
  obtain ⟨p4, k3, p5, k4, rfl, s3, s4⟩ := open_TArc hr1
  refine retV_of_run Tryz.func193 rfl (m := 23) rfl rfl (fun h => ?_)
  rw [impl_Cell_areArcs_1] at hF
  refine r_seq (r_region (r_box h rfl rfl ?_))
  intro w1 bb1 h
  refine rp rfl rfl (r_nil (r_seq (r_region (rp rfl rfl (r_v (v_ld tabOk (h.box 0 rfl) (j := 0) rfl rfl rfl) rfl (rp rfl rfl (r_v (v_ld tabOk (hc1.below h.below) (j := 0) rfl rfl rfl) rfl (rp rfl rfl (rp rfl rfl ?_)))))))))
  by_cases hc2 : (a_o.Kind == v0.Kind) = true
  · replace hF := bifT hc2 hF
    refine r_setT hc2 (t := 9) rfl (r_wanted rfl (rp rfl rfl (r_wanted rfl (r_v (v_ld tabOk (h.box 0 rfl) (j := 1) rfl rfl rfl) rfl (r_wanted rfl (rp rfl rfl (r_wanted rfl (r_v (v_ld tabOk (hc1.below h.below) (j := 1) rfl rfl rfl) rfl (r_wanted rfl (rp rfl rfl (rp rfl rfl ?_)))))))))))
    refine rp rfl rfl ?_
    by_cases hc3 : (a_o.From == v0.From) = true
    · replace hF := bifT hc3 hF
      refine r_setT hc3 (t := 16) rfl (r_wanted rfl (rp rfl rfl (r_wanted rfl (r_v (v_ld tabOk (h.box 0 rfl) (j := 2) rfl rfl rfl) rfl (r_wanted rfl (rp rfl rfl (r_wanted rfl (r_v (v_ld tabOk (hc1.below h.below) (j := 2) rfl rfl rfl) rfl (r_wanted rfl (rp rfl rfl (rp rfl rfl ?_)))))))))))
      exact rp rfl rfl (r_nil (r_rB tabOk h hF ⟨rfl, trivial⟩))
    replace hc3 := Bool.eq_false_iff.2 hc3
    replace hF := bifF hc3 hF
    exact r_setF hc3 (t := 16) rfl (r_not rfl rfl rfl (r_not rfl rfl rfl (r_not rfl rfl rfl (r_not rfl rfl rfl (r_not rfl rfl rfl (rp rfl rfl (rp rfl rfl (r_nil (r_rB tabOk h hF ⟨rfl, trivial⟩)))))))))
  replace hc2 := Bool.eq_false_iff.2 hc2
  replace hF := bifF hc2 hF
  refine r_setF hc2 (t := 9) rfl (r_not rfl rfl rfl (r_not rfl rfl rfl (r_not rfl rfl rfl (r_not rfl rfl rfl (r_not rfl rfl rfl (rp rfl rfl (rp rfl rfl (r_not rfl rfl rfl (r_not rfl rfl rfl (r_not rfl rfl rfl (r_not rfl rfl rfl ?_)))))))))))
  exact r_not rfl rfl rfl (rp rfl rfl (rp rfl rfl (r_nil (r_rB tabOk h hF ⟨rfl, trivial⟩))))

def slices_IndexFunc_impl_Arc_impl_Cell_areArcs_1_L1 (s : (List TArc)) (f_0 : TArc) : Nat → Int → Option (Flow Int Int)
  | 0, _ => none
  | n + 1, i1 =>
    bif decide (i1 < (s.length : Int)) then
      (idx s i1).bind fun y1 =>
      (impl_Cell_areArcs_1 n y1 f_0).bind fun r1 =>
      bif r1 then
        some (.ret i1)
      else
        slices_IndexFunc_impl_Arc_impl_Cell_areArcs_1_L1 s f_0 n (W64 (i1 + 1))
    else
      some (.nxt i1)

def slices_IndexFunc_impl_Arc_impl_Cell_areArcs_1 (n : Nat) (s : (List TArc)) (f_0 : TArc) : Option Int :=
  (slices_IndexFunc_impl_Arc_impl_Cell_areArcs_1_L1 s f_0 n 0).bind fun o => match o with
  | .ret r => some r
  | .nxt _ =>
    some (-1)

theorem slices_IndexFunc_impl_Arc_impl_Cell_areArcs_1_ok {n : Nat} {w : World} {s : (List TArc)} {f_0 : TArc} {cs1 : List Value} (ha1 : GoT.R w (old w) s cs1) {p2 : Option Addr} (ha2 : GoT.R w (old w) (some f_0) [.pointer p2]) {r : Int} (hF : slices_IndexFunc_impl_Arc_impl_Cell_areArcs_1 n s f_0 = some r) : RetV Tryz.prog 154 [GoT.v (List TArc) cs1, .func (.func 193) #[] #[.pointer p2]] w r := by
  obtain ⟨p1, k1, rfl, s1⟩ := ha1
  obtain ⟨b1, o_1, cs2, rfl, -, hr1, hc1⟩ := PtR.get ha2 rfl
  obtain ⟨p3, k2, p4, k3, rfl, s2, s3⟩ := open_TArc hr1
  refine retV_of_run Tryz.func154 rfl (m := 19) rfl rfl (fun h => ?_)
  rw [slices_IndexFunc_impl_Arc_impl_Cell_areArcs_1] at hF
  refine r_seq (r_region (rp rfl rfl (r_nil (r_seq (r_seq (r_region (rp rfl rfl (rp rfl rfl (rp rfl rfl (r_nil ?_))))))))))
  obtain ⟨o1, hF, hK1⟩ := bindS hF
  refine r_block (r_sub [(0, _), (1, _), (7, _), (8, _)] ⟨rfl, rfl, rfl, rfl, trivial⟩ ?_)
  refine r_loop (fun m e w' => ∃ (i1 : Int), slices_IndexFunc_impl_Arc_impl_Cell_areArcs_1_L1 s f_0 m i1 = some o1 ∧ e = [(0, .slice p1 s.length k1), (1, .func (.func 193) #[] #[.pointer (some ⟨b1, o_1, none⟩)]), (7, .int .i64 (s.length : Int)), (8, .int .i64 i1)] ∧ SH w w' []) n ⟨_, hF, rfl, h⟩ ?_
  rintro m1 e1 w1 ⟨i1, hF, rfl, h⟩
  rcases m1 with _ | m1
  · rw [slices_IndexFunc_impl_Arc_impl_Cell_areArcs_1_L1] at hF
    cases hF
  rw [slices_IndexFunc_impl_Arc_impl_Cell_areArcs_1_L1] at hF
  refine r_seq (r_region (rp rfl rfl (r_nil (r_seq ?_))))
  refine r_if rfl hF (fun hF => ?_) (fun hF => ?_)
  · refine r_skip (r_seq (r_block (r_seq (r_region (rp rfl rfl (rp rfl rfl (r_nil (r_seq (r_region (rp rfl rfl (rp rfl rfl ?_)))))))))))
    refine rp rfl rfl ?_
    obtain ⟨y1, hy1, hF⟩ := bindS hF
    have he1 := idx_some hy1
    obtain ⟨b2, o_2, q1, cs3, hp1, hq1, -, hr2, hc3⟩ := s1.at hy1
    obtain ⟨p5, k4, p6, k5, rfl, s4, s5⟩ := open_TArc hr2
    refine r_v (v_ix tabOk hp1 hq1 ⟨he1.1, he1.2.1⟩ rfl rfl rfl rfl rfl rfl) rfl (r_v (v_ld tabOk (hc3.below h.below) (j := 0) rfl rfl rfl) rfl ?_)
    obtain ⟨r1, hr3, hF⟩ := bindS hF
    refine r_callB r1 h call193 (impl_Cell_areArcs_1_ok (mkR_TArc y1 (h.oldS s4) (h.oldS s5)) (h.old ha2) hr3) rfl rfl rfl rfl ?_
    intro w2 h
    refine r_nil ?_
    refine r_if rfl hF (fun hF => ?_) (fun hF => ?_)
    · refine r_seq (r_region (rp rfl rfl (rp rfl rfl (r_nil ?_))))
      obtain rfl := someI hF; replace hF := hK1
      exact r_rI tabOk h hF ⟨rfl, trivial⟩
    exact r_skip (r_blk (r_region (rp rfl rfl (rp rfl rfl (r_nil (r_back m1 [(0, _), (1, _), (7, _), (8, _)] (Nat.lt_succ_self m1) ⟨rfl, rfl, rfl, rfl, trivial⟩ ⟨_, hF, rfl, h⟩))))))
  refine r_exit rfl ?_
  obtain rfl := someI hF; replace hF := hK1
  exact r_seq (r_region (rp rfl rfl (r_nil (r_rI tabOk h hF ⟨rfl, trivial⟩))))

def slices_ContainsFunc_impl_Arc_impl_Cell_areArcs_1 (n : Nat) (s : (List TArc)) (f_0 : TArc) : Option Bool :=
  (slices_IndexFunc_impl_Arc_impl_Cell_areArcs_1 n s f_0).bind fun r1 =>
  some (decide (r1 ≥ 0))

theorem slices_ContainsFunc_impl_Arc_impl_Cell_areArcs_1_ok {n : Nat} {w : World} {s : (List TArc)} {f_0 : TArc} {cs1 : List Value} (ha1 : GoT.R w (old w) s cs1) {p2 : Option Addr} (ha2 : GoT.R w (old w) (some f_0) [.pointer p2]) {r : Bool} (hF : slices_ContainsFunc_impl_Arc_impl_Cell_areArcs_1 n s f_0 = some r) : RetV Tryz.prog 114 [GoT.v (List TArc) cs1, .func (.func 193) #[] #[.pointer p2]] w r := by
  obtain ⟨p1, k1, rfl, s1⟩ := ha1
  obtain ⟨b1, o_1, cs2, rfl, -, hr1, hc1⟩ := PtR.get ha2 rfl
  obtain ⟨p3, k2, p4, k3, rfl, s2, s3⟩ := open_TArc hr1
  refine retV_of_run Tryz.func114 rfl (m := 9) rfl rfl (fun h => ?_)
  rw [slices_ContainsFunc_impl_Arc_impl_Cell_areArcs_1] at hF
  refine r_seq (r_region (rp rfl rfl (r_nil (r_seq (r_region (rp rfl rfl (rp rfl rfl ?_)))))))
  obtain ⟨r1, hr2, hF⟩ := bindS hF
  refine r_callI r1 h call154 (slices_IndexFunc_impl_Arc_impl_Cell_areArcs_1_ok ⟨_, _, rfl, (h.oldS s1)⟩ (h.old ha2) hr2) rfl rfl rfl rfl ?_
  intro w1 h
  exact rp rfl rfl (rp rfl rfl (r_nil (r_rB tabOk h hF ⟨rfl, trivial⟩)))

def impl_Cell_areArcs_L1 (c : TCell) : Nat → Int → Option (Flow Bool Int)
  | 0, _ => none
  | n + 1, i1 =>
    bif decide (i1 < (c.Arcs.length : Int)) then
      (idx c.Arcs i1).bind fun y1 =>
      (impl_Cell_isArc n c y1).bind fun r1 =>
      bif (!r1) then
        some (.ret false)
      else
        (subS c.Arcs 0 i1).bind fun x1 =>
        (slices_ContainsFunc_impl_Arc_impl_Cell_areArcs_1 n x1 y1).bind fun r2 =>
        bif r2 then
          some (.ret false)
        else
          impl_Cell_areArcs_L1 c n (W64 (i1 + 1))
    else
      some (.nxt i1)

def impl_Cell_areArcs (n : Nat) (c : TCell) : Option Bool :=
  (impl_Cell_areArcs_L1 c n 0).bind fun o => match o with
  | .ret r => some r
  | .nxt _ =>
    some (decide ((c.Arcs.length : Int) ≤ 8))

theorem impl_Cell_areArcs_ok {n : Nat} {w : World} {c : TCell} {cs1 : List Value} (ha1 : GoT.R w (old w) c cs1) {r : Bool} (hF : impl_Cell_areArcs n c = some r) : RetV Tryz.prog 182 [GoT.v TCell cs1] w r := by
  obtain ⟨p1, k1, p2, k2, p3, k3, rfl, s1, s2, s3⟩ := open_TCell ha1
  refine retV_of_run Tryz.func182 rfl (m := 30) rfl rfl (fun h => ?_)
  rw [impl_Cell_areArcs] at hF
  refine r_seq (r_region (r_box h rfl rfl ?_))
  intro w1 bb1 h
  refine rp rfl rfl (r_nil (r_seq (r_seq (r_region (rp rfl rfl (r_v (v_ld tabOk (h.box 0 rfl) (j := 3) rfl rfl rfl) rfl (rp rfl rfl (rp rfl rfl (r_nil ?_)))))))))
  obtain ⟨o1, hF, hK1⟩ := bindS hF
  refine r_block (r_sub [(1, _), (6, _), (7, _), (8, _)] ⟨rfl, rfl, rfl, rfl, trivial⟩ ?_)
  refine r_loop (fun m e w' => ∃ (i1 : Int), impl_Cell_areArcs_L1 c m i1 = some o1 ∧ e = [(1, .pointer (some ⟨bb1, 0, none⟩)), (6, .slice p2 c.Arcs.length k2), (7, .int .i64 (c.Arcs.length : Int)), (8, .int .i64 i1)] ∧ SH w w' [Ch.box bb1 [.string c.Name, .int .i64 c.Kind, .slice p1 c.Pins.length k1, .slice p2 c.Arcs.length k2, .slice p3 c.Truth.length k3, .int .i64 c.Leak, .int .i64 c.Energy] 70]) n ⟨_, hF, rfl, h⟩ ?_
  rintro m1 e1 w2 ⟨i1, hF, rfl, h⟩
  rcases m1 with _ | m1
  · rw [impl_Cell_areArcs_L1] at hF
    cases hF
  rw [impl_Cell_areArcs_L1] at hF
  refine r_seq (r_region (rp rfl rfl (r_nil (r_seq ?_))))
  refine r_if rfl hF (fun hF => ?_) (fun hF => ?_)
  · refine r_skip (r_seq (r_block (r_seq (r_region (rp rfl rfl ?_)))))
    obtain ⟨y1, hy1, hF⟩ := bindS hF
    have he1 := idx_some hy1
    obtain ⟨b1, o_1, q1, cs2, hp1, hq1, -, hr1, hc2⟩ := s2.at hy1
    obtain ⟨p4, k4, p5, k5, rfl, s4, s5⟩ := open_TArc hr1
    refine r_v (v_ix tabOk hp1 hq1 ⟨he1.1, he1.2.1⟩ rfl rfl rfl rfl rfl rfl) rfl (r_v (v_ld tabOk (hc2.below h.below) (j := 0) rfl rfl rfl) rfl (r_alloc tabOk h rfl rfl rfl ?_))
    intro w3 bb2 h
    refine rp rfl rfl (r_stbox tabOk 0 h rfl rfl rfl rfl rfl rfl rfl ?_)
    intro w4 h
    refine r_nil (r_seq (r_region (r_v (v_ld tabOk (h.box 1 rfl) (j := 0) rfl rfl rfl) rfl (r_v (v_ld tabOk (h.box 0 rfl) (j := 0) rfl rfl rfl) rfl ?_))))
    obtain ⟨r1, hr2, hF⟩ := bindS hF
    refine r_callB r1 h call192 (impl_Cell_isArc_ok (h.old ha1) (mkR_TArc y1 (h.oldS s4) (h.oldS s5)) hr2) rfl rfl rfl rfl ?_
    intro w5 h
    refine rp rfl rfl (rp rfl rfl ?_)
    by_cases hc3 : (!r1) = true
    · replace hF := bifT hc3 hF
      refine r_setT hc3 (t := 17) rfl (r_not rfl rfl rfl (r_not rfl rfl rfl (r_not rfl rfl rfl (r_not rfl rfl rfl (r_not rfl rfl rfl (r_not rfl rfl rfl (rp rfl rfl (r_nil (r_condT rfl rfl (r_seq (r_region ?_)))))))))))
      refine rp rfl rfl (r_nil ?_)
      obtain rfl := someI hF; replace hF := hK1
      exact r_rB tabOk h hF ⟨rfl, trivial⟩
    replace hc3 := Bool.eq_false_iff.2 hc3
    replace hF := bifF hc3 hF
    refine r_setF hc3 (t := 17) rfl (r_wanted rfl (rp rfl rfl (r_wanted rfl (r_v (v_ld tabOk (h.box 1 rfl) (j := 3) rfl rfl rfl) rfl (r_wanted rfl (rp rfl rfl (r_wanted rfl ?_)))))))
    obtain ⟨x1, hx1, hF⟩ := bindS hF
    obtain ⟨p6, k6, hp2, hk1, hl1, g1⟩ := sub_of (h.oldS s2) hx1
    refine r_v (v_sliceE tabOk rfl rfl rfl (sub_ln g1 rfl) hp2 hk1 hl1 rfl rfl rfl rfl) rfl ?_
    have s6 := sub_at s2 hx1 hp2 hk1
    refine r_wanted rfl (rp rfl rfl (r_wanted rfl ?_))
    obtain ⟨r2, hr3, hF⟩ := bindS hF
    refine r_callB r2 h call114 (slices_ContainsFunc_impl_Arc_impl_Cell_areArcs_1_ok ⟨_, _, rfl, (h.oldS s6)⟩ (ptr_boxB (x := y1) 0 h rfl (mkR_TArc y1 (h.oldS s4) (h.oldS s5))) hr3) rfl rfl rfl rfl ?_
    intro w6 h
    refine rp rfl rfl (r_nil ?_)
    refine r_if rfl hF (fun hF => ?_) (fun hF => ?_)
    · refine r_seq (r_region (rp rfl rfl (r_nil ?_)))
      obtain rfl := someI hF; replace hF := hK1
      exact r_rB tabOk h hF ⟨rfl, trivial⟩
    refine r_skip (r_blk (r_region (rp rfl rfl (rp rfl rfl (r_nil ?_)))))
    replace h := h.pick [1] rfl
    exact r_back m1 [(1, _), (6, _), (7, _), (8, _)] (Nat.lt_succ_self m1) ⟨rfl, rfl, rfl, rfl, trivial⟩ ⟨_, hF, rfl, h⟩
  refine r_exit rfl ?_
  obtain rfl := someI hF; replace hF := hK1
  exact r_seq (r_region (rp rfl rfl (r_v (v_ld tabOk (h.box 0 rfl) (j := 3) rfl rfl rfl) rfl (rp rfl rfl (rp rfl rfl (rp rfl rfl (r_nil (r_rB tabOk h hF ⟨rfl, trivial⟩))))))))

def impl_Cell_has_1 (_ : Nat) (a : TArc) (v0 : Int) : Option Bool :=
  some (a.Kind == v0)

theorem impl_Cell_has_1_ok {n : Nat} {w : World} {a : TArc} {v0 : Int} {cs1 : List Value} (ha1 : GoT.R w (old w) a cs1) {p3 : Option Addr} (ha2 : GoT.R w (old w) (some v0) [.pointer p3]) {r : Bool} (hF : impl_Cell_has_1 n a v0 = some r) : RetV Tryz.prog 211 [GoT.v TArc cs1, .pointer p3] w r := by
  obtain ⟨p1, k1, p2, k2, rfl, s1, s2⟩ := open_TArc ha1
  obtain ⟨b1, o_1, cs2, rfl, -, hr1, hc1⟩ := PtR.get ha2 rfl
  obtain rfl := hr1
  refine retV_of_run Tryz.func211 rfl (m := 8) rfl rfl (fun h => ?_)
  rw [impl_Cell_has_1] at hF
  refine r_seq (r_region (r_box h rfl rfl ?_))
  intro w1 bb1 h
  exact rp rfl rfl (r_nil (r_seq (r_region (rp rfl rfl (r_v (v_ld tabOk (h.box 0 rfl) (j := 0) rfl rfl rfl) rfl (r_v (v_ld tabOk (hc1.below h.below) (j := 0) rfl rfl rfl) rfl (rp rfl rfl (rp rfl rfl (r_nil (r_rB tabOk h hF ⟨rfl, trivial⟩))))))))))

def slices_IndexFunc_impl_Arc_impl_Cell_has_1_L1 (s : (List TArc)) (f_0 : Int) : Nat → Int → Option (Flow Int Int)
  | 0, _ => none
  | n + 1, i1 =>
    bif decide (i1 < (s.length : Int)) then
      (idx s i1).bind fun y1 =>
      (impl_Cell_has_1 n y1 f_0).bind fun r1 =>
      bif r1 then
        some (.ret i1)
      else
        slices_IndexFunc_impl_Arc_impl_Cell_has_1_L1 s f_0 n (W64 (i1 + 1))
    else
      some (.nxt i1)

def slices_IndexFunc_impl_Arc_impl_Cell_has_1 (n : Nat) (s : (List TArc)) (f_0 : Int) : Option Int :=
  (slices_IndexFunc_impl_Arc_impl_Cell_has_1_L1 s f_0 n 0).bind fun o => match o with
  | .ret r => some r
  | .nxt _ =>
    some (-1)

theorem slices_IndexFunc_impl_Arc_impl_Cell_has_1_ok {n : Nat} {w : World} {s : (List TArc)} {f_0 : Int} {cs1 : List Value} (ha1 : GoT.R w (old w) s cs1) {p2 : Option Addr} (ha2 : GoT.R w (old w) (some f_0) [.pointer p2]) {r : Int} (hF : slices_IndexFunc_impl_Arc_impl_Cell_has_1 n s f_0 = some r) : RetV Tryz.prog 154 [GoT.v (List TArc) cs1, .func (.func 211) #[] #[.pointer p2]] w r := by
  obtain ⟨p1, k1, rfl, s1⟩ := ha1
  obtain ⟨b1, o_1, cs2, rfl, -, hr1, hc1⟩ := PtR.get ha2 rfl
  obtain rfl := hr1
  refine retV_of_run Tryz.func154 rfl (m := 19) rfl rfl (fun h => ?_)
  rw [slices_IndexFunc_impl_Arc_impl_Cell_has_1] at hF
  refine r_seq (r_region (rp rfl rfl (r_nil (r_seq (r_seq (r_region (rp rfl rfl (rp rfl rfl (rp rfl rfl (r_nil ?_))))))))))
  obtain ⟨o1, hF, hK1⟩ := bindS hF
  refine r_block (r_sub [(0, _), (1, _), (7, _), (8, _)] ⟨rfl, rfl, rfl, rfl, trivial⟩ ?_)
  refine r_loop (fun m e w' => ∃ (i1 : Int), slices_IndexFunc_impl_Arc_impl_Cell_has_1_L1 s f_0 m i1 = some o1 ∧ e = [(0, .slice p1 s.length k1), (1, .func (.func 211) #[] #[.pointer (some ⟨b1, o_1, none⟩)]), (7, .int .i64 (s.length : Int)), (8, .int .i64 i1)] ∧ SH w w' []) n ⟨_, hF, rfl, h⟩ ?_
  rintro m1 e1 w1 ⟨i1, hF, rfl, h⟩
  rcases m1 with _ | m1
  · rw [slices_IndexFunc_impl_Arc_impl_Cell_has_1_L1] at hF
    cases hF
  rw [slices_IndexFunc_impl_Arc_impl_Cell_has_1_L1] at hF
  refine r_seq (r_region (rp rfl rfl (r_nil (r_seq ?_))))
  refine r_if rfl hF (fun hF => ?_) (fun hF => ?_)
  · refine r_skip (r_seq (r_block (r_seq (r_region (rp rfl rfl (rp rfl rfl (r_nil (r_seq (r_region (rp rfl rfl (rp rfl rfl ?_)))))))))))
    refine rp rfl rfl ?_
    obtain ⟨y1, hy1, hF⟩ := bindS hF
    have he1 := idx_some hy1
    obtain ⟨b2, o_2, q1, cs3, hp1, hq1, -, hr2, hc3⟩ := s1.at hy1
    obtain ⟨p3, k2, p4, k3, rfl, s2, s3⟩ := open_TArc hr2
    refine r_v (v_ix tabOk hp1 hq1 ⟨he1.1, he1.2.1⟩ rfl rfl rfl rfl rfl rfl) rfl (r_v (v_ld tabOk (hc3.below h.below) (j := 0) rfl rfl rfl) rfl ?_)
    obtain ⟨r1, hr3, hF⟩ := bindS hF
    refine r_callB r1 h call211 (impl_Cell_has_1_ok (mkR_TArc y1 (h.oldS s2) (h.oldS s3)) (h.old ha2) hr3) rfl rfl rfl rfl ?_
    intro w2 h
    refine r_nil ?_
    refine r_if rfl hF (fun hF => ?_) (fun hF => ?_)
    · refine r_seq (r_region (rp rfl rfl (rp rfl rfl (r_nil ?_))))
      obtain rfl := someI hF; replace hF := hK1
      exact r_rI tabOk h hF ⟨rfl, trivial⟩
    exact r_skip (r_blk (r_region (rp rfl rfl (rp rfl rfl (r_nil (r_back m1 [(0, _), (1, _), (7, _), (8, _)] (Nat.lt_succ_self m1) ⟨rfl, rfl, rfl, rfl, trivial⟩ ⟨_, hF, rfl, h⟩))))))
  refine r_exit rfl ?_
  obtain rfl := someI hF; replace hF := hK1
  exact r_seq (r_region (rp rfl rfl (r_nil (r_rI tabOk h hF ⟨rfl, trivial⟩))))

def slices_ContainsFunc_impl_Arc_impl_Cell_has_1 (n : Nat) (s : (List TArc)) (f_0 : Int) : Option Bool :=
  (slices_IndexFunc_impl_Arc_impl_Cell_has_1 n s f_0).bind fun r1 =>
  some (decide (r1 ≥ 0))

theorem slices_ContainsFunc_impl_Arc_impl_Cell_has_1_ok {n : Nat} {w : World} {s : (List TArc)} {f_0 : Int} {cs1 : List Value} (ha1 : GoT.R w (old w) s cs1) {p2 : Option Addr} (ha2 : GoT.R w (old w) (some f_0) [.pointer p2]) {r : Bool} (hF : slices_ContainsFunc_impl_Arc_impl_Cell_has_1 n s f_0 = some r) : RetV Tryz.prog 114 [GoT.v (List TArc) cs1, .func (.func 211) #[] #[.pointer p2]] w r := by
  obtain ⟨p1, k1, rfl, s1⟩ := ha1
  obtain ⟨b1, o_1, cs2, rfl, -, hr1, hc1⟩ := PtR.get ha2 rfl
  obtain rfl := hr1
  refine retV_of_run Tryz.func114 rfl (m := 9) rfl rfl (fun h => ?_)
  rw [slices_ContainsFunc_impl_Arc_impl_Cell_has_1] at hF
  refine r_seq (r_region (rp rfl rfl (r_nil (r_seq (r_region (rp rfl rfl (rp rfl rfl ?_)))))))
  obtain ⟨r1, hr2, hF⟩ := bindS hF
  refine r_callI r1 h call154 (slices_IndexFunc_impl_Arc_impl_Cell_has_1_ok ⟨_, _, rfl, (h.oldS s1)⟩ (h.old ha2) hr2) rfl rfl rfl rfl ?_
  intro w1 h
  exact rp rfl rfl (rp rfl rfl (r_nil (r_rB tabOk h hF ⟨rfl, trivial⟩)))

def impl_Cell_has (n : Nat) (c : TCell) (kind : Int) : Option Bool :=
  (slices_ContainsFunc_impl_Arc_impl_Cell_has_1 n c.Arcs kind).bind fun r1 =>
  some r1

theorem impl_Cell_has_ok {n : Nat} {w : World} {c : TCell} {kind : Int} {cs1 : List Value} (ha1 : GoT.R w (old w) c cs1) {r : Bool} (hF : impl_Cell_has n c kind = some r) : RetV Tryz.prog 194 [GoT.v TCell cs1, .int .i64 kind] w r := by
  obtain ⟨p1, k1, p2, k2, p3, k3, rfl, s1, s2, s3⟩ := open_TCell ha1
  refine retV_of_run Tryz.func194 rfl (m := 9) rfl rfl (fun h => ?_)
  rw [impl_Cell_has] at hF
  refine r_seq (r_region (r_box h rfl rfl ?_))
  intro w1 bb1 h
  refine r_box h rfl rfl ?_
  intro w2 bb2 h
  refine rp rfl rfl (r_nil (r_seq (r_region (rp rfl rfl (r_v (v_ld tabOk (h.box 1 rfl) (j := 3) rfl rfl rfl) rfl (rp rfl rfl ?_))))))
  obtain ⟨r1, hr1, hF⟩ := bindS hF
  refine r_callB r1 h call114 (slices_ContainsFunc_impl_Arc_impl_Cell_has_1_ok ⟨_, _, rfl, (h.oldS s2)⟩ (ptr_boxB (x := kind) 0 h rfl rfl) hr1) rfl rfl rfl rfl ?_
  intro w3 h
  exact rp rfl rfl (r_nil (r_rB tabOk h hF ⟨rfl, trivial⟩))

def impl_Cell_isOfKind_L1 (a_0 : TCell) : Nat → Int → Int → Option (Int × Int)
  | 0, _, _ => none
  | n + 1, i1, i2 =>
    bif decide (i2 < (a_0.Pins.length : Int)) then
      (idx a_0.Pins i2).bind fun y1 =>
      bif y1.Clock then
        impl_Cell_isOfKind_L1 a_0 n (W64 (i1 + 1)) (W64 (i2 + 1))
      else
        impl_Cell_isOfKind_L1 a_0 n i1 (W64 (i2 + 1))
    else
      some (i1, i2)

def impl_Cell_isOfKind (n : Nat) (a_0 : TCell) : Option Bool :=
  (impl_Cell_isOfKind_L1 a_0 n 0 0).bind fun o => match o with
  | (i1, _) =>
    bif (a_0.Kind == 1) then
      bif (i1 == 0) then
        (impl_Cell_output n a_0).bind fun r1 =>
        (shlS 1 r1).bind fun y2 =>
        bif ((a_0.Truth.length : Int) == y2) then
          (impl_areWithin n a_0.Truth 0 1).bind fun r2 =>
          some r2
        else
          some false
      else
        some false
    else
      bif (a_0.Kind == 2) then
        bif (i1 == 1) then
          bif ((a_0.Truth.length : Int) == 0) then
            (impl_Cell_has n a_0 1).bind fun r3 =>
            bif (!r3) then
              (impl_Cell_has n a_0 2).bind fun r4 =>
              (impl_Cell_has n a_0 3).bind fun r5 =>
              some (!(r4 == r5))
            else
              some false
          else
            some false
        else
          some false
      else
        bif (a_0.Kind == 3) then
          bif (i1 == 1) then
            bif ((a_0.Truth.length : Int) == 0) then
              (impl_Cell_has n a_0 1).bind fun r6 =>
              bif r6 then
                (impl_Cell_has n a_0 2).bind fun r7 =>
                bif r7 then
                  (impl_Cell_has n a_0 3).bind fun r8 =>
                  some (!r8)
                else
                  some false
              else
                some false
            else
              some false
          else
            some false
        else
          some false

theorem impl_Cell_isOfKind_ok {n : Nat} {w : World} {a_0 : TCell} {cs1 : List Value} (ha1 : GoT.R w (old w) a_0 cs1) {r : Bool} (hF : impl_Cell_isOfKind n a_0 = some r) : RetV Tryz.prog 183 [GoT.v TCell cs1] w r := by
  obtain ⟨p1, k1, p2, k2, p3, k3, rfl, s1, s2, s3⟩ := open_TCell ha1
  refine retV_of_run Tryz.func183 rfl (m := 83) rfl rfl (fun h => ?_)
  rw [impl_Cell_isOfKind] at hF
  refine r_seq (r_region (r_box h rfl rfl ?_))
  intro w1 bb1 h
  refine rp rfl rfl (r_nil (r_seq (r_region (rp rfl rfl (r_nil (r_seq (r_seq (r_region (rp rfl rfl (r_v (v_ld tabOk (h.box 0 rfl) (j := 2) rfl rfl rfl) rfl (rp rfl rfl ?_)))))))))))
  refine rp rfl rfl (r_nil ?_)
  obtain ⟨o1, hF, hK1⟩ := bindS hF
  refine r_block (r_sub [(1, _), (3, _), (7, _), (8, _), (9, _)] ⟨rfl, rfl, rfl, rfl, rfl, trivial⟩ ?_)
  refine r_loop (fun m e w' => ∃ (i1 : Int) (i2 : Int), impl_Cell_isOfKind_L1 a_0 m i1 i2 = some o1 ∧ e = [(1, .pointer (some ⟨bb1, 0, none⟩)), (3, .int .i64 i1), (7, .slice p1 a_0.Pins.length k1), (8, .int .i64 (a_0.Pins.length : Int)), (9, .int .i64 i2)] ∧ SH w w' [Ch.box bb1 [.string a_0.Name, .int .i64 a_0.Kind, .slice p1 a_0.Pins.length k1, .slice p2 a_0.Arcs.length k2, .slice p3 a_0.Truth.length k3, .int .i64 a_0.Leak, .int .i64 a_0.Energy] 70]) n ⟨_, _, hF, rfl, h⟩ ?_
  rintro m1 e1 w2 ⟨i1, i2, hF, rfl, h⟩
  rcases m1 with _ | m1
  · rw [impl_Cell_isOfKind_L1] at hF
    cases hF
  rw [impl_Cell_isOfKind_L1] at hF
  refine r_seq (r_region (rp rfl rfl (r_nil (r_seq ?_))))
  refine r_if rfl hF (fun hF => ?_) (fun hF => ?_)
  · refine r_skip (r_seq (r_block (r_seq (r_region ?_))))
    obtain ⟨y1, hy1, hF⟩ := bindS hF
    have he1 := idx_some hy1
    obtain ⟨b1, o_1, q1, cs2, hp1, hq1, -, hr1, hc2⟩ := s1.at hy1
    obtain rfl := open_TPin hr1
    refine r_v (v_ix tabOk hp1 hq1 ⟨he1.1, he1.2.1⟩ rfl rfl rfl rfl rfl rfl) rfl (r_v (v_ld tabOk (hc2.below h.below) (j := 0) rfl rfl rfl) rfl (r_alloc tabOk h rfl rfl rfl ?_))
    intro w3 bb2 h
    refine r_stbox tabOk 0 h rfl rfl rfl rfl rfl rfl rfl ?_
    intro w4 h
    refine r_nil (r_seq (r_region (rp rfl rfl (r_v (v_ld tabOk (h.box 0 rfl) (j := 3) rfl rfl rfl) rfl (r_nil ?_)))))
    refine r_if rfl hF (fun hF => ?_) (fun hF => ?_)
    · refine r_region (rp rfl rfl (rp rfl rfl (rp rfl rfl (r_nil (r_blk (r_region (rp rfl rfl (rp rfl rfl (r_nil ?_)))))))))
      replace h := h.pick [1] rfl
      exact r_back m1 [(1, _), (3, _), (7, _), (8, _), (9, _)] (Nat.lt_succ_self m1) ⟨rfl, rfl, rfl, rfl, rfl, trivial⟩ ⟨_, _, hF, rfl, h⟩
    refine r_skip (r_blk (r_region (rp rfl rfl (rp rfl rfl (r_nil ?_)))))
    replace h := h.pick [1] rfl
    exact r_back m1 [(1, _), (3, _), (7, _), (8, _), (9, _)] (Nat.lt_succ_self m1) ⟨rfl, rfl, rfl, rfl, rfl, trivial⟩ ⟨_, _, hF, rfl, h⟩
  refine r_exit rfl ?_
  obtain rfl := someI hF; replace hF := hK1
  refine r_seq (r_seq (r_region (rp rfl rfl (r_v (v_ld tabOk (h.box 0 rfl) (j := 1) rfl rfl rfl) rfl (r_nil (r_block (r_seq (r_region (rp rfl rfl (rp rfl rfl (r_nil ?_)))))))))))
  refine r_if rfl hF (fun hF => ?_) (fun hF => ?_)
  · refine r_seq ?_
    refine r_draw rfl (by kernel_rfl) ?_
    refine dp rfl rfl (dp rfl rfl (dp rfl rfl ?_))
    by_cases hc5 : (i1 == 0) = true
    · replace hF := bifT hc5 hF
      refine d_setT hc5 (t := 24) rfl (d_wanted rfl (dp rfl rfl (d_wanted rfl ?_)))
      refine d_v (fun _ hb => v_ld tabOk ((h.box 0 rfl).below hb) (j := 4) rfl rfl rfl) rfl ?_
      refine d_wanted rfl (dp rfl rfl (d_wanted rfl ?_))
      refine d_v (fun _ hb => v_ld tabOk ((h.box 0 rfl).below hb) (j := 0) rfl rfl rfl) rfl ?_
      refine d_wanted rfl ?_
      obtain ⟨r1, hr2, hF⟩ := bindS hF
      refine d_call r1 (vsI _) call150 (fun _ hb => impl_Cell_output_ok ((h.ext hb).old ha1) hr2) rfl rfl rfl rfl ?_
      refine d_wanted rfl ?_
      obtain ⟨y2, hx1, hF⟩ := bindS hF
      obtain ⟨g1, hx1⟩ := shlS_some hx1
      refine d_v (fun _ hb => v_shl g1 rfl rfl) rfl ?_
      rw [hx1]
      refine d_wanted rfl (dp rfl rfl (dp rfl rfl (dp rfl rfl ?_)))
      by_cases hc6 : ((a_0.Truth.length : Int) == y2) = true
      · replace hF := bifT hc6 hF
        refine d_setT hc6 (t := 33) rfl (d_wanted rfl (dp rfl rfl (d_wanted rfl ?_)))
        refine d_v (fun _ hb => v_ld tabOk ((h.box 0 rfl).below hb) (j := 4) rfl rfl rfl) rfl ?_
        refine d_wanted rfl ?_
        obtain ⟨r2, hr3, hF⟩ := bindS hF
        refine d_call r2 (vsB _) call104 (fun _ hb => impl_areWithin_ok ⟨_, _, rfl, ((h.ext hb).oldS s3)⟩ hr3) rfl rfl rfl rfl ?_
        refine dp rfl rfl (dp rfl rfl ?_)
        refine d_nil (fun w5 hb => ?_)
        replace h := h.ext hb
        clear hb
        exact r_rB tabOk h hF ⟨rfl, trivial⟩
      replace hc6 := Bool.eq_false_iff.2 hc6
      replace hF := bifF hc6 hF
      refine d_setF hc6 (t := 33) rfl (d_not rfl rfl rfl (d_not rfl rfl rfl (d_not rfl rfl rfl (dp rfl rfl (dp rfl rfl ?_)))))
      refine d_nil (fun w6 hb => ?_)
      replace h := h.ext hb
      clear hb
      exact r_rB tabOk h hF ⟨rfl, trivial⟩
    replace hc5 := Bool.eq_false_iff.2 hc5
    replace hF := bifF hc5 hF
    refine d_setF hc5 (t := 24) rfl (d_not rfl rfl rfl (d_not rfl rfl rfl (d_not rfl rfl rfl (d_not rfl rfl rfl (d_not rfl rfl rfl (d_not rfl rfl rfl (d_not rfl rfl rfl (dp rfl rfl (dp rfl rfl (d_not rfl rfl rfl (d_not rfl rfl rfl ?_)))))))))))
    refine d_not rfl rfl rfl (dp rfl rfl (dp rfl rfl ?_))
    refine d_nil (fun w7 hb => ?_)
    replace h := h.ext hb
    clear hb
    exact r_rB tabOk h hF ⟨rfl, trivial⟩
  refine r_seq (r_region (rp rfl rfl (rp rfl rfl (r_nil ?_))))
  refine r_if rfl hF (fun hF => ?_) (fun hF => ?_)
  · refine r_seq ?_
    refine r_draw rfl (by kernel_rfl) ?_
    refine dp rfl rfl (dp rfl rfl (dp rfl rfl ?_))
    by_cases hc8 : (i1 == 1) = true
    · replace hF := bifT hc8 hF
      refine d_setT hc8 (t := 42) rfl (d_wanted rfl (dp rfl rfl (d_wanted rfl ?_)))
      refine d_v (fun _ hb => v_ld tabOk ((h.box 0 rfl).below hb) (j := 4) rfl rfl rfl) rfl ?_
      refine d_wanted rfl (dp rfl rfl (d_wanted rfl (dp rfl rfl (dp rfl rfl (dp rfl rfl ?_)))))
      by_cases hc9 : ((a_0.Truth.length : Int) == 0) = true
      · replace hF := bifT hc9 hF
        refine d_setT hc9 (t := 48) rfl (d_wanted rfl ?_)
        refine d_v (fun _ hb => v_ld tabOk ((h.box 0 rfl).below hb) (j := 0) rfl rfl rfl) rfl ?_
        refine d_wanted rfl ?_
        obtain ⟨r3, hr4, hF⟩ := bindS hF
        refine d_call r3 (vsB _) call194 (fun _ hb => impl_Cell_has_ok ((h.ext hb).old ha1) hr4) rfl rfl rfl rfl ?_
        refine d_wanted rfl (dp rfl rfl (dp rfl rfl (dp rfl rfl ?_)))
        by_cases hc10 : (!r3) = true
        · replace hF := bifT hc10 hF
          refine d_setT hc10 (t := 53) rfl (d_wanted rfl ?_)
          refine d_v (fun _ hb => v_ld tabOk ((h.box 0 rfl).below hb) (j := 0) rfl rfl rfl) rfl ?_
          refine d_wanted rfl ?_
          obtain ⟨r4, hr5, hF⟩ := bindS hF
          refine d_call r4 (vsB _) call194 (fun _ hb => impl_Cell_has_ok ((h.ext hb).old ha1) hr5) rfl rfl rfl rfl ?_
          refine d_wanted rfl ?_
          refine d_v (fun _ hb => v_ld tabOk ((h.box 0 rfl).below hb) (j := 0) rfl rfl rfl) rfl ?_
          refine d_wanted rfl ?_
          obtain ⟨r5, hr6, hF⟩ := bindS hF
          refine d_call r5 (vsB _) call194 (fun _ hb => impl_Cell_has_ok ((h.ext hb).old ha1) hr6) rfl rfl rfl rfl ?_
          refine d_wanted rfl (dp rfl rfl (dp rfl rfl (dp rfl rfl ?_)))
          refine d_nil (fun w8 hb => ?_)
          replace h := h.ext hb
          clear hb
          exact r_rB tabOk h hF ⟨rfl, trivial⟩
        replace hc10 := Bool.eq_false_iff.2 hc10
        replace hF := bifF hc10 hF
        refine d_setF hc10 (t := 53) rfl (d_not rfl rfl rfl (d_not rfl rfl rfl (d_not rfl rfl rfl (d_not rfl rfl rfl (d_not rfl rfl rfl (dp rfl rfl (dp rfl rfl ?_)))))))
        refine d_nil (fun w9 hb => ?_)
        replace h := h.ext hb
        clear hb
        exact r_rB tabOk h hF ⟨rfl, trivial⟩
      replace hc9 := Bool.eq_false_iff.2 hc9
      replace hF := bifF hc9 hF
      refine d_setF hc9 (t := 48) rfl (d_not rfl rfl rfl (d_not rfl rfl rfl (d_not rfl rfl rfl (dp rfl rfl (dp rfl rfl (d_not rfl rfl rfl (d_not rfl rfl rfl (d_not rfl rfl rfl (d_not rfl rfl rfl (d_not rfl rfl rfl (dp rfl rfl ?_)))))))))))
      refine dp rfl rfl ?_
      refine d_nil (fun w10 hb => ?_)
      replace h := h.ext hb
      clear hb
      exact r_rB tabOk h hF ⟨rfl, trivial⟩
    replace hc8 := Bool.eq_false_iff.2 hc8
    replace hF := bifF hc8 hF
    refine d_setF hc8 (t := 42) rfl (d_not rfl rfl rfl (d_not rfl rfl rfl (d_not rfl rfl rfl (d_not rfl rfl rfl (dp rfl rfl (dp rfl rfl (d_not rfl rfl rfl (d_not rfl rfl rfl (d_not rfl rfl rfl (dp rfl rfl (dp rfl rfl ?_)))))))))))
    refine d_not rfl rfl rfl (d_not rfl rfl rfl (d_not rfl rfl rfl (d_not rfl rfl rfl (d_not rfl rfl rfl (dp rfl rfl (dp rfl rfl ?_))))))
    refine d_nil (fun w11 hb => ?_)
    replace h := h.ext hb
    clear hb
    exact r_rB tabOk h hF ⟨rfl, trivial⟩
  refine r_seq (r_region (rp rfl rfl (rp rfl rfl (r_nil ?_))))
  refine r_if rfl hF (fun hF => ?_) (fun hF => ?_)
  · refine r_seq (r_region (rp rfl rfl (rp rfl rfl (rp rfl rfl ?_))))
    by_cases hc12 : (i1 == 1) = true
    · replace hF := bifT hc12 hF
      refine r_setT hc12 (t := 64) rfl (r_wanted rfl (rp rfl rfl (r_wanted rfl (r_v (v_ld tabOk (h.box 0 rfl) (j := 4) rfl rfl rfl) rfl (r_wanted rfl (rp rfl rfl (r_wanted rfl (rp rfl rfl (rp rfl rfl (rp rfl rfl ?_))))))))))
      by_cases hc13 : ((a_0.Truth.length : Int) == 0) = true
      · replace hF := bifT hc13 hF
        refine r_setT hc13 (t := 70) rfl (r_wanted rfl (r_v (v_ld tabOk (h.box 0 rfl) (j := 0) rfl rfl rfl) rfl (r_wanted rfl ?_)))
        obtain ⟨r6, hr7, hF⟩ := bindS hF
        refine r_callB r6 h call194 (impl_Cell_has_ok (h.old ha1) hr7) rfl rfl rfl rfl ?_
        intro w12 h
        refine rp rfl rfl (rp rfl rfl ?_)
        by_cases hc14 : r6 = true
        · replace hF := bifT hc14 hF
          refine r_setT hc14 (t := 74) rfl (r_wanted rfl (r_v (v_ld tabOk (h.box 0 rfl) (j := 0) rfl rfl rfl) rfl (r_wanted rfl ?_)))
          obtain ⟨r7, hr8, hF⟩ := bindS hF
          refine r_callB r7 h call194 (impl_Cell_has_ok (h.old ha1) hr8) rfl rfl rfl rfl ?_
          intro w13 h
          refine rp rfl rfl (rp rfl rfl ?_)
          by_cases hc15 : r7 = true
          · replace hF := bifT hc15 hF
            refine r_setT hc15 (t := 78) rfl (r_wanted rfl (r_v (v_ld tabOk (h.box 0 rfl) (j := 0) rfl rfl rfl) rfl (r_wanted rfl ?_)))
            obtain ⟨r8, hr9, hF⟩ := bindS hF
            refine r_callB r8 h call194 (impl_Cell_has_ok (h.old ha1) hr9) rfl rfl rfl rfl ?_
            intro w14 h
            exact r_wanted rfl (rp rfl rfl (rp rfl rfl (rp rfl rfl (r_nil (r_rB tabOk h hF ⟨rfl, trivial⟩)))))
          replace hc15 := Bool.eq_false_iff.2 hc15
          replace hF := bifF hc15 hF
          exact r_setF hc15 (t := 78) rfl (r_not rfl rfl rfl (r_not rfl rfl rfl (r_not rfl rfl rfl (rp rfl rfl (rp rfl rfl (r_nil (r_rB tabOk h hF ⟨rfl, trivial⟩)))))))
        replace hc14 := Bool.eq_false_iff.2 hc14
        replace hF := bifF hc14 hF
        exact r_setF hc14 (t := 74) rfl (r_not rfl rfl rfl (r_not rfl rfl rfl (rp rfl rfl (rp rfl rfl (r_not rfl rfl rfl (r_not rfl rfl rfl (r_not rfl rfl rfl (rp rfl rfl (rp rfl rfl (r_nil (r_rB tabOk h hF ⟨rfl, trivial⟩)))))))))))
      replace hc13 := Bool.eq_false_iff.2 hc13
      replace hF := bifF hc13 hF
      refine r_setF hc13 (t := 70) rfl (r_not rfl rfl rfl (r_not rfl rfl rfl (rp rfl rfl (rp rfl rfl (r_not rfl rfl rfl (r_not rfl rfl rfl (rp rfl rfl (rp rfl rfl (r_not rfl rfl rfl (r_not rfl rfl rfl (r_not rfl rfl rfl ?_)))))))))))
      exact rp rfl rfl (rp rfl rfl (r_nil (r_rB tabOk h hF ⟨rfl, trivial⟩)))
    replace hc12 := Bool.eq_false_iff.2 hc12
    replace hF := bifF hc12 hF
    refine r_setF hc12 (t := 64) rfl (r_not rfl rfl rfl (r_not rfl rfl rfl (r_not rfl rfl rfl (r_not rfl rfl rfl (rp rfl rfl (rp rfl rfl (r_not rfl rfl rfl (r_not rfl rfl rfl (rp rfl rfl (rp rfl rfl (r_not rfl rfl rfl ?_)))))))))))
    exact r_not rfl rfl rfl (rp rfl rfl (rp rfl rfl (r_not rfl rfl rfl (r_not rfl rfl rfl (r_not rfl rfl rfl (rp rfl rfl (rp rfl rfl (r_nil (r_rB tabOk h hF ⟨rfl, trivial⟩)))))))))
  exact r_skip (r_blk (r_seq (r_region (rp rfl rfl (r_nil (r_rB tabOk h hF ⟨rfl, trivial⟩))))))

def impl_IsCell (n : Nat) (c : TCell) : Option Bool :=
  (impl_isName n c.Name).bind fun r1 =>
  bif r1 then
    (impl_arePins n c.Pins).bind fun r2 =>
    bif r2 then
      (impl_Cell_areArcs n c).bind fun r3 =>
      bif r3 then
        (impl_within n c.Leak 0 100000).bind fun r4 =>
        bif r4 then
          (impl_within n c.Energy 0 100000).bind fun r5 =>
          bif r5 then
            (impl_Cell_isOfKind n c).bind fun r6 =>
            some r6
          else
            some false
        else
          some false
      else
        some false
    else
      some false
  else
    some false

theorem impl_IsCell_ok {n : Nat} {w : World} {c : TCell} {cs1 : List Value} (ha1 : GoT.R w (old w) c cs1) {r : Bool} (hF : impl_IsCell n c = some r) : RetV Tryz.prog 162 [GoT.v TCell cs1] w r := by
  obtain ⟨p1, k1, p2, k2, p3, k3, rfl, s1, s2, s3⟩ := open_TCell ha1
  refine retV_of_run Tryz.func162 rfl (m := 29) rfl rfl (fun h => ?_)
  rw [impl_IsCell] at hF
  refine r_seq (r_region (r_box h rfl rfl ?_))
  intro w1 bb1 h
  refine rp rfl rfl (r_nil (r_seq (r_region (rp rfl rfl (r_v (v_ld tabOk (h.box 0 rfl) (j := 0) rfl rfl rfl) rfl ?_)))))
  obtain ⟨r1, hr1, hF⟩ := bindS hF
  refine r_callB r1 h call180 (impl_isName_ok hr1) rfl rfl rfl rfl ?_
  intro w2 h
  refine rp rfl rfl ?_
  by_cases hc1 : r1 = true
  · replace hF := bifT hc1 hF
    refine r_setT hc1 (t := 6) rfl (r_wanted rfl (rp rfl rfl (r_wanted rfl (r_v (v_ld tabOk (h.box 0 rfl) (j := 2) rfl rfl rfl) rfl (r_wanted rfl ?_)))))
    obtain ⟨r2, hr2, hF⟩ := bindS hF
    refine r_callB r2 h call181 (impl_arePins_ok ⟨_, _, rfl, (h.oldS s1)⟩ hr2) rfl rfl rfl rfl ?_
    intro w3 h
    refine rp rfl rfl (rp rfl rfl ?_)
    by_cases hc2 : r2 = true
    · replace hF := bifT hc2 hF
      refine r_setT hc2 (t := 11) rfl (r_wanted rfl (r_v (v_ld tabOk (h.box 0 rfl) (j := 0) rfl rfl rfl) rfl (r_wanted rfl ?_)))
      obtain ⟨r3, hr3, hF⟩ := bindS hF
      refine r_callB r3 h call182 (impl_Cell_areArcs_ok (h.old ha1) hr3) rfl rfl rfl rfl ?_
      intro w4 h
      refine rp rfl rfl (rp rfl rfl ?_)
      by_cases hc3 : r3 = true
      · replace hF := bifT hc3 hF
        refine r_setT hc3 (t := 15) rfl (r_wanted rfl (rp rfl rfl (r_wanted rfl (r_v (v_ld tabOk (h.box 0 rfl) (j := 5) rfl rfl rfl) rfl (r_wanted rfl ?_)))))
        obtain ⟨r4, hr4, hF⟩ := bindS hF
        refine r_callB r4 h call90 (impl_within_ok hr4) rfl rfl rfl rfl ?_
        intro w5 h
        refine rp rfl rfl (rp rfl rfl ?_)
        by_cases hc4 : r4 = true
        · replace hF := bifT hc4 hF
          refine r_setT hc4 (t := 20) rfl (r_wanted rfl (rp rfl rfl (r_wanted rfl (r_v (v_ld tabOk (h.box 0 rfl) (j := 6) rfl rfl rfl) rfl (r_wanted rfl ?_)))))
          obtain ⟨r5, hr5, hF⟩ := bindS hF
          refine r_callB r5 h call90 (impl_within_ok hr5) rfl rfl rfl rfl ?_
          intro w6 h
          refine rp rfl rfl (rp rfl rfl ?_)
          by_cases hc5 : r5 = true
          · replace hF := bifT hc5 hF
            refine r_setT hc5 (t := 25) rfl (r_wanted rfl (r_v (v_ld tabOk (h.box 0 rfl) (j := 0) rfl rfl rfl) rfl (r_wanted rfl ?_)))
            obtain ⟨r6, hr6, hF⟩ := bindS hF
            refine r_callB r6 h call183 (impl_Cell_isOfKind_ok (h.old ha1) hr6) rfl rfl rfl rfl ?_
            intro w7 h
            exact rp rfl rfl (rp rfl rfl (r_nil (r_rB tabOk h hF ⟨rfl, trivial⟩)))
          replace hc5 := Bool.eq_false_iff.2 hc5
          replace hF := bifF hc5 hF
          exact r_setF hc5 (t := 25) rfl (r_not rfl rfl rfl (r_not rfl rfl rfl (rp rfl rfl (rp rfl rfl (r_nil (r_rB tabOk h hF ⟨rfl, trivial⟩))))))
        replace hc4 := Bool.eq_false_iff.2 hc4
        replace hF := bifF hc4 hF
        exact r_setF hc4 (t := 20) rfl (r_not rfl rfl rfl (r_not rfl rfl rfl (r_not rfl rfl rfl (rp rfl rfl (rp rfl rfl (r_not rfl rfl rfl (r_not rfl rfl rfl (rp rfl rfl (rp rfl rfl (r_nil (r_rB tabOk h hF ⟨rfl, trivial⟩)))))))))))
      replace hc3 := Bool.eq_false_iff.2 hc3
      replace hF := bifF hc3 hF
      refine r_setF hc3 (t := 15) rfl (r_not rfl rfl rfl (r_not rfl rfl rfl (r_not rfl rfl rfl (rp rfl rfl (rp rfl rfl (r_not rfl rfl rfl (r_not rfl rfl rfl (r_not rfl rfl rfl (rp rfl rfl (rp rfl rfl (r_not rfl rfl rfl ?_)))))))))))
      exact r_not rfl rfl rfl (rp rfl rfl (rp rfl rfl (r_nil (r_rB tabOk h hF ⟨rfl, trivial⟩))))
    replace hc2 := Bool.eq_false_iff.2 hc2
    replace hF := bifF hc2 hF
    refine r_setF hc2 (t := 11) rfl (r_not rfl rfl rfl (r_not rfl rfl rfl (rp rfl rfl (rp rfl rfl (r_not rfl rfl rfl (r_not rfl rfl rfl (r_not rfl rfl rfl (rp rfl rfl (rp rfl rfl (r_not rfl rfl rfl (r_not rfl rfl rfl ?_)))))))))))
    exact r_not rfl rfl rfl (rp rfl rfl (rp rfl rfl (r_not rfl rfl rfl (r_not rfl rfl rfl (rp rfl rfl (rp rfl rfl (r_nil (r_rB tabOk h hF ⟨rfl, trivial⟩))))))))
  replace hc1 := Bool.eq_false_iff.2 hc1
  replace hF := bifF hc1 hF
  refine r_setF hc1 (t := 6) rfl (r_not rfl rfl rfl (r_not rfl rfl rfl (r_not rfl rfl rfl (rp rfl rfl (rp rfl rfl (r_not rfl rfl rfl (r_not rfl rfl rfl (rp rfl rfl (rp rfl rfl (r_not rfl rfl rfl (r_not rfl rfl rfl ?_)))))))))))
  refine r_not rfl rfl rfl (rp rfl rfl (rp rfl rfl (r_not rfl rfl rfl (r_not rfl rfl rfl (r_not rfl rfl rfl (rp rfl rfl (rp rfl rfl (r_not rfl rfl rfl (r_not rfl rfl rfl (rp rfl rfl (rp rfl rfl ?_)))))))))))
  exact r_nil (r_rB tabOk h hF ⟨rfl, trivial⟩)

def impl_IsLibrary_L1 (l : TLibrary) : Nat → (List ByteArray) → Int → Option (Flow Bool ((List ByteArray) × Int))
  | 0, _, _ => none
  | n + 1, x1, i1 =>
    bif decide (i1 < (l.Cells.length : Int)) then
      (idx l.Cells i1).bind fun y1 =>
      (impl_IsCell n y1).bind fun r1 =>
      bif (!r1) then
        some (.ret false)
      else
        (appS x1 ([y1.Name] : List ByteArray)).bind fun x2 =>
        impl_IsLibrary_L1 l n x2 (W64 (i1 + 1))
    else
      some (.nxt (x1, i1))

def impl_IsLibrary (n : Nat) (l : TLibrary) : Option Bool :=
  (impl_IsLibrary_L1 l n ([] : List ByteArray) 0).bind fun o => match o with
  | .ret r => some r
  | .nxt (x1, _) =>
    bif decide ((l.Cells.length : Int) ≤ 8) then
      (impl_areNames n x1).bind fun r2 =>
      some r2
    else
      some false

theorem impl_IsLibrary_ok {n : Nat} {w : World} {l : TLibrary} {cs1 : List Value} (ha1 : GoT.R w (old w) l cs1) {r : Bool} (hF : impl_IsLibrary n l = some r) : RetV Tryz.prog 128 [GoT.v TLibrary cs1] w r := by
  obtain ⟨p1, k1, rfl, s1⟩ := open_TLibrary ha1
  refine retV_of_run Tryz.func128 rfl (m := 30) rfl rfl (fun h => ?_)
  rw [impl_IsLibrary] at hF
  refine r_seq (r_region (r_box h rfl rfl ?_))
  intro w1 bb1 h
  refine rp rfl rfl (r_nil (r_seq (r_region (rp rfl rfl (r_nil (r_seq (r_seq (r_region (rp rfl rfl (r_v (v_ld tabOk (h.box 0 rfl) (j := 0) rfl rfl rfl) rfl (rp rfl rfl ?_)))))))))))
  refine rp rfl rfl (r_nil ?_)
  replace h := h.nil (α := ByteArray)
  obtain ⟨o1, hF, hK1⟩ := bindS hF
  refine r_block (r_sub [(1, _), (3, _), (7, _), (8, _), (9, _)] ⟨rfl, rfl, rfl, rfl, rfl, trivial⟩ ?_)
  refine r_loop (fun m e w' => ∃ (S1 : Nat → Prop) (p2 : Option Addr) (ln1 : Nat) (k2 : Nat) (x1 : (List ByteArray)) (i1 : Int), impl_IsLibrary_L1 l m x1 i1 = some o1 ∧ e = [(1, .pointer (some ⟨bb1, 0, none⟩)), (3, .slice p2 ln1 k2), (7, .slice p1 l.Cells.length k1), (8, .int .i64 (l.Cells.length : Int)), (9, .int .i64 i1)] ∧ SH w w' [Ch.own S1 (x1 : List ByteArray) [.slice p2 ln1 k2], Ch.box bb1 [.slice p1 l.Cells.length k1] 37]) n ⟨_, _, _, _, _, _, hF, rfl, h⟩ ?_
  rintro m1 e1 w2 ⟨S1, p2, ln1, k2, x1, i1, hF, rfl, h⟩
  obtain rfl := (h.sl 0 rfl).2
  rcases m1 with _ | m1
  · rw [impl_IsLibrary_L1] at hF
    cases hF
  rw [impl_IsLibrary_L1] at hF
  refine r_seq (r_region (rp rfl rfl (r_nil (r_seq ?_))))
  refine r_if rfl hF (fun hF => ?_) (fun hF => ?_)
  · refine r_skip (r_seq (r_block (r_seq (r_region ?_))))
    obtain ⟨y1, hy1, hF⟩ := bindS hF
    have he1 := idx_some hy1
    obtain ⟨b1, o_1, q1, cs2, hp1, hq1, -, hr1, hc2⟩ := s1.at hy1
    obtain ⟨p3, k3, p4, k4, p5, k5, rfl, s2, s3, s4⟩ := open_TCell hr1
    refine r_v (v_ix tabOk hp1 hq1 ⟨he1.1, he1.2.1⟩ rfl rfl rfl rfl rfl rfl) rfl (r_v (v_ld tabOk (hc2.below h.below) (j := 0) rfl rfl rfl) rfl (r_alloc tabOk h rfl rfl rfl ?_))
    intro w3 bb2 h
    refine r_stbox tabOk 0 h rfl rfl rfl rfl rfl rfl rfl ?_
    intro w4 h
    replace h : SH _ _ [Ch.box bb2 [.string y1.Name, .int .i64 y1.Kind, .slice p3 y1.Pins.length k3, .slice p4 y1.Arcs.length k4, .slice p5 y1.Truth.length k5, .int .i64 y1.Leak, .int .i64 y1.Energy] 70, Ch.own S1 (x1 : List ByteArray) [.slice p2 x1.length k2], Ch.box bb1 [.slice p1 l.Cells.length k1] 37] := h
    refine r_nil (r_seq (r_seq (r_region (r_v (v_ld tabOk (h.box 0 rfl) (j := 0) rfl rfl rfl) rfl ?_))))
    obtain ⟨r1, hr2, hF⟩ := bindS hF
    refine r_callB r1 h call162 (impl_IsCell_ok (mkR_TCell y1 (h.oldS s2) (h.oldS s3) (h.oldS s4)) hr2) rfl rfl rfl rfl ?_
    intro w5 h
    refine rp rfl rfl (r_nil ?_)
    refine r_if rfl hF (fun hF => ?_) (fun hF => ?_)
    · refine r_seq (r_region (rp rfl rfl (r_nil ?_)))
      obtain rfl := someI hF; replace hF := hK1
      exact r_rB tabOk h hF ⟨rfl, trivial⟩
    refine r_skip (r_region (rp rfl rfl (rp rfl rfl (r_v (v_ld tabOk (h.box 0 rfl) (j := 0) rfl rfl rfl) rfl (r_bslice tabOk [.tmp 18] _ ([y1.Name] : List ByteArray) h rfl rfl rfl rfl rfl rfl rfl rfl rfl ⟨rfl, trivial⟩ rfl ?_)))))
    intro w6 p6 S2 h
    obtain ⟨x2, hx1, hF⟩ := bindS hF
    obtain ⟨g1, hx1⟩ := appS_some hx1
    refine r_appE tabOk 2 h rfl (h.sl 0 rfl).1 (h.sl 0 rfl).2 rfl rfl rfl rfl rfl rfl rfl rfl rfl g1 hx1 rfl ?_
    intro w7 p7 k6 S3 h
    refine rp rfl rfl (r_nil (r_blk (r_region (rp rfl rfl (rp rfl rfl (r_nil ?_))))))
    replace h := h.pick [2, 3] rfl
    exact r_back m1 [(1, _), (3, _), (7, _), (8, _), (9, _)] (Nat.lt_succ_self m1) ⟨rfl, rfl, rfl, rfl, rfl, trivial⟩ ⟨_, _, _, _, _, _, hF, rfl, h⟩
  refine r_exit rfl ?_
  obtain rfl := someI hF; replace hF := hK1
  refine r_seq (r_region (rp rfl rfl (r_v (v_ld tabOk (h.box 1 rfl) (j := 0) rfl rfl rfl) rfl (rp rfl rfl (rp rfl rfl (rp rfl rfl ?_))))))
  by_cases hc4 : (decide ((l.Cells.length : Int) ≤ 8)) = true
  · replace hF := bifT hc4 hF
    refine r_setT hc4 (t := 26) rfl (r_wanted rfl (rp rfl rfl (r_wanted rfl ?_)))
    obtain ⟨r2, hr3, hF⟩ := bindS hF
    refine r_callB r2 h call163 (impl_areNames_ok (h.own 0 rfl) hr3) rfl rfl rfl rfl ?_
    intro w8 h
    exact rp rfl rfl (rp rfl rfl (r_nil (r_rB tabOk h hF ⟨rfl, trivial⟩)))
  replace hc4 := Bool.eq_false_iff.2 hc4
  replace hF := bifF hc4 hF
  exact r_setF hc4 (t := 26) rfl (r_not rfl rfl rfl (r_not rfl rfl rfl (rp rfl rfl (rp rfl rfl (r_nil (r_rB tabOk h hF ⟨rfl, trivial⟩))))))

def impl_Design_hasNames_L2 (d : TDesign) : Nat → (List ByteArray) → Int → Option ((List ByteArray) × Int)
  | 0, _, _ => none
  | n + 1, x3, i2 =>
    bif decide (i2 < (d.Ports.length : Int)) then
      (idx d.Ports i2).bind fun y2 =>
      (appS x3 ([y2.Name] : List ByteArray)).bind fun x4 =>
      impl_Design_hasNames_L2 d n x4 (W64 (i2 + 1))
    else
      some (x3, i2)

def impl_Design_hasNames_L1 (d : TDesign) : Nat → (List ByteArray) → Int → Option ((List ByteArray) × Int)
  | 0, _, _ => none
  | n + 1, x1, i1 =>
    bif decide (i1 < (d.Instances.length : Int)) then
      (idx d.Instances i1).bind fun y1 =>
      (appS x1 ([y1.Name] : List ByteArray)).bind fun x2 =>
      impl_Design_hasNames_L1 d n x2 (W64 (i1 + 1))
    else
      some (x1, i1)

def impl_Design_hasNames (n : Nat) (d : TDesign) : Option Bool :=
  (impl_Design_hasNames_L1 d n ([] : List ByteArray) 0).bind fun o => match o with
  | (x1, _) =>
    (impl_Design_hasNames_L2 d n ([] : List ByteArray) 0).bind fun o => match o with
    | (x3, _) =>
      bif decide ((x1.length : Int) ≤ 14) then
        bif decide ((d.Nets.length : Int) ≤ 30) then
          bif decide ((x3.length : Int) ≤ 8) then
            (impl_areNames n x1).bind fun r1 =>
            bif r1 then
              (impl_areNames n d.Nets).bind fun r2 =>
              bif r2 then
                (impl_areNames n x3).bind fun r3 =>
                some r3
              else
                some false
            else
              some false
          else
            some false
        else
          some false
      else
        some false

theorem impl_Design_hasNames_ok {n : Nat} {w : World} {d : TDesign} {cs1 : List Value} (ha1 : GoT.R w (old w) d cs1) {r : Bool} (hF : impl_Design_hasNames n d = some r) : RetV Tryz.prog 129 [GoT.v TDesign cs1] w r := by
  obtain ⟨p1, k1, p2, k2, p3, k3, rfl, s1, s2, s3⟩ := open_TDesign ha1
  refine retV_of_run Tryz.func129 rfl (m := 62) rfl rfl (fun h => ?_)
  rw [impl_Design_hasNames] at hF
  refine r_seq (r_region (r_box h rfl rfl ?_))
  intro w1 bb1 h
  refine rp rfl rfl (r_nil (r_seq (r_region (rp rfl rfl (rp rfl rfl (r_nil (r_seq (r_seq (r_region (rp rfl rfl (r_v (v_ld tabOk (h.box 0 rfl) (j := 0) rfl rfl rfl) rfl ?_)))))))))))
  refine rp rfl rfl (rp rfl rfl (r_nil ?_))
  replace h := h.nil (α := ByteArray)
  obtain ⟨o1, hF, hK1⟩ := bindS hF
  refine r_block (r_sub [(1, _), (3, _), (4, _), (10, _), (11, _), (12, _)] ⟨rfl, rfl, rfl, rfl, rfl, rfl, trivial⟩ ?_)
  refine r_loop (fun m e w' => ∃ (S1 : Nat → Prop) (p4 : Option Addr) (ln1 : Nat) (k4 : Nat) (x1 : (List ByteArray)) (i1 : Int), impl_Design_hasNames_L1 d m x1 i1 = some o1 ∧ e = [(1, .pointer (some ⟨bb1, 0, none⟩)), (3, .slice p4 ln1 k4), (4, .slice none 0 0), (10, .slice p1 d.Instances.length k1), (11, .int .i64 (d.Instances.length : Int)), (12, .int .i64 i1)] ∧ SH w w' [Ch.own S1 (x1 : List ByteArray) [.slice p4 ln1 k4], Ch.box bb1 [.slice p1 d.Instances.length k1, .slice p2 d.Nets.length k2, .slice p3 d.Ports.length k3] 41]) n ⟨_, _, _, _, _, _, hF, rfl, h⟩ ?_
  rintro m1 e1 w2 ⟨S1, p4, ln1, k4, x1, i1, hF, rfl, h⟩
  obtain rfl := (h.sl 0 rfl).2
  rcases m1 with _ | m1
  · rw [impl_Design_hasNames_L1] at hF
    cases hF
  rw [impl_Design_hasNames_L1] at hF
  refine r_seq (r_region (rp rfl rfl (r_nil (r_seq ?_))))
  refine r_if rfl hF (fun hF => ?_) (fun hF => ?_)
  · refine r_skip (r_seq (r_block (r_seq (r_region ?_))))
    obtain ⟨y1, hy1, hF⟩ := bindS hF
    have he1 := idx_some hy1
    obtain ⟨b1, o_1, q1, cs2, hp1, hq1, -, hr1, hc2⟩ := s1.at hy1
    obtain ⟨p5, k5, rfl, s4⟩ := open_TInstance hr1
    refine r_v (v_ix tabOk hp1 hq1 ⟨he1.1, he1.2.1⟩ rfl rfl rfl rfl rfl rfl) rfl (r_v (v_ld tabOk (hc2.below h.below) (j := 0) rfl rfl rfl) rfl (r_alloc tabOk h rfl rfl rfl ?_))
    intro w3 bb2 h
    refine r_stbox tabOk 0 h rfl rfl rfl rfl rfl rfl rfl ?_
    intro w4 h
    replace h : SH _ _ [Ch.box bb2 [.string y1.Name, .int .i64 y1.Cell, .slice p5 y1.Nets.length k5] 153, Ch.own S1 (x1 : List ByteArray) [.slice p4 x1.length k4], Ch.box bb1 [.slice p1 d.Instances.length k1, .slice p2 d.Nets.length k2, .slice p3 d.Ports.length k3] 41] := h
    refine r_nil (r_region (rp rfl rfl (rp rfl rfl (r_v (v_ld tabOk (h.box 0 rfl) (j := 0) rfl rfl rfl) rfl (r_bslice tabOk [.tmp 18] _ ([y1.Name] : List ByteArray) h rfl rfl rfl rfl rfl rfl rfl rfl rfl ⟨rfl, trivial⟩ rfl ?_)))))
    intro w5 p6 S2 h
    obtain ⟨x2, hx1, hF⟩ := bindS hF
    obtain ⟨g1, hx1⟩ := appS_some hx1
    refine r_appE tabOk 2 h rfl (h.sl 0 rfl).1 (h.sl 0 rfl).2 rfl rfl rfl rfl rfl rfl rfl rfl rfl g1 hx1 rfl ?_
    intro w6 p7 k6 S3 h
    refine rp rfl rfl (r_nil (r_blk (r_region (rp rfl rfl (rp rfl rfl (r_nil ?_))))))
    replace h := h.pick [2, 3] rfl
    exact r_back m1 [(1, _), (3, _), (4, _), (10, _), (11, _), (12, _)] (Nat.lt_succ_self m1) ⟨rfl, rfl, rfl, rfl, rfl, rfl, trivial⟩ ⟨_, _, _, _, _, _, hF, rfl, h⟩
  refine r_exit rfl ?_
  obtain rfl := someI hF; replace hF := hK1
  refine r_seq (r_seq (r_region (rp rfl rfl (r_v (v_ld tabOk (h.box 1 rfl) (j := 2) rfl rfl rfl) rfl (rp rfl rfl (rp rfl rfl (r_nil ?_)))))))
  replace h := h.nil (α := ByteArray)
  obtain ⟨o2, hF, hK2⟩ := bindS hF
  refine r_block (r_sub [(1, _), (3, _), (4, _), (23, _), (24, _), (25, _)] ⟨rfl, rfl, rfl, rfl, rfl, rfl, trivial⟩ ?_)
  refine r_loop (fun m e w' => ∃ (S4 : Nat → Prop) (p8 : Option Addr) (ln2 : Nat) (k7 : Nat) (x3 : (List ByteArray)) (i2 : Int), impl_Design_hasNames_L2 d m x3 i2 = some o2 ∧ e = [(1, .pointer (some ⟨bb1, 0, none⟩)), (3, .slice p4 x1.length k4), (4, .slice p8 ln2 k7), (23, .slice p3 d.Ports.length k3), (24, .int .i64 (d.Ports.length : Int)), (25, .int .i64 i2)] ∧ SH w w' [Ch.own S4 (x3 : List ByteArray) [.slice p8 ln2 k7], Ch.own S1 (x1 : List ByteArray) [.slice p4 x1.length k4], Ch.box bb1 [.slice p1 d.Instances.length k1, .slice p2 d.Nets.length k2, .slice p3 d.Ports.length k3] 41]) n ⟨_, _, _, _, _, _, hF, rfl, h⟩ ?_
  rintro m2 e2 w7 ⟨S4, p8, ln2, k7, x3, i2, hF, rfl, h⟩
  obtain rfl := (h.sl 0 rfl).2
  rcases m2 with _ | m2
  · rw [impl_Design_hasNames_L2] at hF
    cases hF
  rw [impl_Design_hasNames_L2] at hF
  refine r_seq (r_region (rp rfl rfl (r_nil (r_seq ?_))))
  refine r_if rfl hF (fun hF => ?_) (fun hF => ?_)
  · refine r_skip (r_seq (r_block (r_seq (r_region ?_))))
    obtain ⟨y2, hy2, hF⟩ := bindS hF
    have he2 := idx_some hy2
    obtain ⟨b2, o_2, q2, cs3, hp2, hq2, -, hr2, hc4⟩ := s3.at hy2
    obtain rfl := open_TPort hr2
    refine r_v (v_ix tabOk hp2 hq2 ⟨he2.1, he2.2.1⟩ rfl rfl rfl rfl rfl rfl) rfl (r_v (v_ld tabOk (hc4.below h.below) (j := 0) rfl rfl rfl) rfl (r_alloc tabOk h rfl rfl rfl ?_))
    intro w8 bb3 h
    refine r_stbox tabOk 0 h rfl rfl rfl rfl rfl rfl rfl ?_
    intro w9 h
    replace h : SH _ _ [Ch.box bb3 [.string y2.Name, .int .i64 y2.Dir, .int .i64 y2.Net] 163, Ch.own S4 (x3 : List ByteArray) [.slice p8 x3.length k7], Ch.own S1 (x1 : List ByteArray) [.slice p4 x1.length k4], Ch.box bb1 [.slice p1 d.Instances.length k1, .slice p2 d.Nets.length k2, .slice p3 d.Ports.length k3] 41] := h
    refine r_nil (r_region (rp rfl rfl (rp rfl rfl (r_v (v_ld tabOk (h.box 0 rfl) (j := 0) rfl rfl rfl) rfl (r_bslice tabOk [.tmp 31] _ ([y2.Name] : List ByteArray) h rfl rfl rfl rfl rfl rfl rfl rfl rfl ⟨rfl, trivial⟩ rfl ?_)))))
    intro w10 p9 S5 h
    obtain ⟨x4, hx2, hF⟩ := bindS hF
    obtain ⟨g2, hx2⟩ := appS_some hx2
    refine r_appE tabOk 2 h rfl (h.sl 0 rfl).1 (h.sl 0 rfl).2 rfl rfl rfl rfl rfl rfl rfl rfl rfl g2 hx2 rfl ?_
    intro w11 p10 k8 S6 h
    refine rp rfl rfl (r_nil (r_blk (r_region (rp rfl rfl (rp rfl rfl (r_nil ?_))))))
    replace h := h.pick [2, 3, 4] rfl
    exact r_back m2 [(1, _), (3, _), (4, _), (23, _), (24, _), (25, _)] (Nat.lt_succ_self m2) ⟨rfl, rfl, rfl, rfl, rfl, rfl, trivial⟩ ⟨_, _, _, _, _, _, hF, rfl, h⟩
  refine r_exit rfl ?_
  obtain rfl := someI hF; replace hF := hK2
  refine r_seq (r_region (rp rfl rfl (rp rfl rfl (rp rfl rfl (rp rfl rfl ?_)))))
  by_cases hc5 : (decide ((x1.length : Int) ≤ 14)) = true
  · replace hF := bifT hc5 hF
    refine r_setT hc5 (t := 38) rfl (r_wanted rfl (rp rfl rfl (r_wanted rfl (r_v (v_ld tabOk (h.box 2 rfl) (j := 1) rfl rfl rfl) rfl (r_wanted rfl (rp rfl rfl (r_wanted rfl (rp rfl rfl (rp rfl rfl (rp rfl rfl ?_))))))))))
    by_cases hc6 : (decide ((d.Nets.length : Int) ≤ 30)) = true
    · replace hF := bifT hc6 hF
      refine r_setT hc6 (t := 44) rfl (r_wanted rfl (rp rfl rfl (r_wanted rfl (rp rfl rfl (r_wanted rfl (rp rfl rfl (rp rfl rfl (rp rfl rfl ?_))))))))
      by_cases hc7 : (decide ((x3.length : Int) ≤ 8)) = true
      · replace hF := bifT hc7 hF
        refine r_setT hc7 (t := 49) rfl (r_wanted rfl (rp rfl rfl (r_wanted rfl ?_)))
        obtain ⟨r1, hr3, hF⟩ := bindS hF
        refine r_callB r1 h call163 (impl_areNames_ok (h.own 1 rfl) hr3) rfl rfl rfl rfl ?_
        intro w12 h
        refine rp rfl rfl (rp rfl rfl ?_)
        by_cases hc8 : r1 = true
        · replace hF := bifT hc8 hF
          refine r_setT hc8 (t := 53) rfl (r_wanted rfl (rp rfl rfl (r_wanted rfl (r_v (v_ld tabOk (h.box 2 rfl) (j := 1) rfl rfl rfl) rfl (r_wanted rfl ?_)))))
          obtain ⟨r2, hr4, hF⟩ := bindS hF
          refine r_callB r2 h call163 (impl_areNames_ok ⟨_, _, rfl, (h.oldS s2)⟩ hr4) rfl rfl rfl rfl ?_
          intro w13 h
          refine rp rfl rfl (rp rfl rfl ?_)
          by_cases hc9 : r2 = true
          · replace hF := bifT hc9 hF
            refine r_setT hc9 (t := 58) rfl (r_wanted rfl (rp rfl rfl (r_wanted rfl ?_)))
            obtain ⟨r3, hr5, hF⟩ := bindS hF
            refine r_callB r3 h call163 (impl_areNames_ok (h.own 0 rfl) hr5) rfl rfl rfl rfl ?_
            intro w14 h
            exact rp rfl rfl (rp rfl rfl (r_nil (r_rB tabOk h hF ⟨rfl, trivial⟩)))
          replace hc9 := Bool.eq_false_iff.2 hc9
          replace hF := bifF hc9 hF
          exact r_setF hc9 (t := 58) rfl (r_not rfl rfl rfl (r_not rfl rfl rfl (rp rfl rfl (rp rfl rfl (r_nil (r_rB tabOk h hF ⟨rfl, trivial⟩))))))
        replace hc8 := Bool.eq_false_iff.2 hc8
        replace hF := bifF hc8 hF
        exact r_setF hc8 (t := 53) rfl (r_not rfl rfl rfl (r_not rfl rfl rfl (r_not rfl rfl rfl (rp rfl rfl (rp rfl rfl (r_not rfl rfl rfl (r_not rfl rfl rfl (rp rfl rfl (rp rfl rfl (r_nil (r_rB tabOk h hF ⟨rfl, trivial⟩)))))))))))
      replace hc7 := Bool.eq_false_iff.2 hc7
      replace hF := bifF hc7 hF
      refine r_setF hc7 (t := 49) rfl (r_not rfl rfl rfl (r_not rfl rfl rfl (rp rfl rfl (rp rfl rfl (r_not rfl rfl rfl (r_not rfl rfl rfl (r_not rfl rfl rfl (rp rfl rfl (rp rfl rfl (r_not rfl rfl rfl (r_not rfl rfl rfl ?_)))))))))))
      exact rp rfl rfl (rp rfl rfl (r_nil (r_rB tabOk h hF ⟨rfl, trivial⟩)))
    replace hc6 := Bool.eq_false_iff.2 hc6
    replace hF := bifF hc6 hF
    refine r_setF hc6 (t := 44) rfl (r_not rfl rfl rfl (r_not rfl rfl rfl (r_not rfl rfl rfl (rp rfl rfl (rp rfl rfl (r_not rfl rfl rfl (r_not rfl rfl rfl (rp rfl rfl (rp rfl rfl (r_not rfl rfl rfl (r_not rfl rfl rfl ?_)))))))))))
    exact r_not rfl rfl rfl (rp rfl rfl (rp rfl rfl (r_not rfl rfl rfl (r_not rfl rfl rfl (rp rfl rfl (rp rfl rfl (r_nil (r_rB tabOk h hF ⟨rfl, trivial⟩))))))))
  replace hc5 := Bool.eq_false_iff.2 hc5
  replace hF := bifF hc5 hF
  refine r_setF hc5 (t := 38) rfl (r_not rfl rfl rfl (r_not rfl rfl rfl (r_not rfl rfl rfl (r_not rfl rfl rfl (rp rfl rfl (rp rfl rfl (r_not rfl rfl rfl (r_not rfl rfl rfl (r_not rfl rfl rfl (rp rfl rfl (rp rfl rfl ?_)))))))))))
  refine r_not rfl rfl rfl (r_not rfl rfl rfl (rp rfl rfl (rp rfl rfl (r_not rfl rfl rfl (r_not rfl rfl rfl (r_not rfl rfl rfl (rp rfl rfl (rp rfl rfl (r_not rfl rfl rfl (r_not rfl rfl rfl (rp rfl rfl ?_)))))))))))
  exact rp rfl rfl (r_nil (r_rB tabOk h hF ⟨rfl, trivial⟩))

def impl_length_impl_Cell (_ : Nat) (list : (List TCell)) : Option Int :=
  some (list.length : Int)

theorem impl_length_impl_Cell_ok {n : Nat} {w : World} {list : (List TCell)} {cs1 : List Value} (ha1 : GoT.R w (old w) list cs1) {r : Int} (hF : impl_length_impl_Cell n list = some r) : RetV Tryz.prog 164 [GoT.v (List TCell) cs1] w r := by
  obtain ⟨p1, k1, rfl, s1⟩ := ha1
  refine retV_of_run Tryz.func164 rfl (m := 5) rfl rfl (fun h => ?_)
  rw [impl_length_impl_Cell] at hF
  exact r_seq (r_region (rp rfl rfl (r_nil (r_seq (r_region (rp rfl rfl (rp rfl rfl (rp rfl rfl (r_nil (r_rI tabOk h hF ⟨rfl, trivial⟩))))))))))

def impl_Design_isInstance_1 (n : Nat) (net : Int) (v0 : TDesign) : Option Bool :=
  (impl_Design_isNet n v0 net).bind fun r1 =>
  some (!r1)

theorem impl_Design_isInstance_1_ok {n : Nat} {w : World} {net : Int} {v0 : TDesign} {p1 : Option Addr} (ha1 : GoT.R w (old w) (some v0) [.pointer p1]) {r : Bool} (hF : impl_Design_isInstance_1 n net v0 = some r) : RetV Tryz.prog 165 [.int .i64 net, .pointer p1] w r := by
  obtain ⟨b1, o_1, cs1, rfl, -, hr1, hc1⟩ := PtR.get ha1 rfl
  obtain ⟨p2, k1, p3, k2, p4, k3, rfl, s1, s2, s3⟩ := open_TDesign hr1
  refine retV_of_run Tryz.func165 rfl (m := 8) rfl rfl (fun h => ?_)
  rw [impl_Design_isInstance_1] at hF
  refine r_seq (r_region (rp rfl rfl (r_nil (r_seq (r_region (r_v (v_ld tabOk (hc1.below h.below) (j := 0) rfl rfl rfl) rfl (rp rfl rfl ?_)))))))
  obtain ⟨r1, hr2, hF⟩ := bindS hF
  refine r_callB r1 h call89 (impl_Design_isNet_ok (mkR_TDesign v0 (h.oldS s1) (h.oldS s2) (h.oldS s3)) hr2) rfl rfl rfl rfl ?_
  intro w1 h
  exact rp rfl rfl (rp rfl rfl (r_nil (r_rB tabOk h hF ⟨rfl, trivial⟩)))

def slices_IndexFunc_int64_impl_Design_isInstance_1_L1 (s : (List Int)) (f_0 : TDesign) : Nat → Int → Option (Flow Int Int)
  | 0, _ => none
  | n + 1, i1 =>
    bif decide (i1 < (s.length : Int)) then
      (idx s i1).bind fun y1 =>
      (impl_Design_isInstance_1 n y1 f_0).bind fun r1 =>
      bif r1 then
        some (.ret i1)
      else
        slices_IndexFunc_int64_impl_Design_isInstance_1_L1 s f_0 n (W64 (i1 + 1))
    else
      some (.nxt i1)

def slices_IndexFunc_int64_impl_Design_isInstance_1 (n : Nat) (s : (List Int)) (f_0 : TDesign) : Option Int :=
  (slices_IndexFunc_int64_impl_Design_isInstance_1_L1 s f_0 n 0).bind fun o => match o with
  | .ret r => some r
  | .nxt _ =>
    some (-1)

theorem slices_IndexFunc_int64_impl_Design_isInstance_1_ok {n : Nat} {w : World} {s : (List Int)} {f_0 : TDesign} {cs1 : List Value} (ha1 : GoT.R w (old w) s cs1) {p2 : Option Addr} (ha2 : GoT.R w (old w) (some f_0) [.pointer p2]) {r : Int} (hF : slices_IndexFunc_int64_impl_Design_isInstance_1 n s f_0 = some r) : RetV Tryz.prog 170 [GoT.v (List Int) cs1, .func (.func 165) #[] #[.pointer p2]] w r := by
  obtain ⟨p1, k1, rfl, s1⟩ := ha1
  obtain ⟨b1, o_1, cs2, rfl, -, hr1, hc1⟩ := PtR.get ha2 rfl
  obtain ⟨p3, k2, p4, k3, p5, k4, rfl, s2, s3, s4⟩ := open_TDesign hr1
  refine retV_of_run Tryz.func170 rfl (m := 19) rfl rfl (fun h => ?_)
  rw [slices_IndexFunc_int64_impl_Design_isInstance_1] at hF
  refine r_seq (r_region (rp rfl rfl (r_nil (r_seq (r_seq (r_region (rp rfl rfl (rp rfl rfl (rp rfl rfl (r_nil ?_))))))))))
  obtain ⟨o1, hF, hK1⟩ := bindS hF
  refine r_block (r_sub [(0, _), (1, _), (7, _), (8, _)] ⟨rfl, rfl, rfl, rfl, trivial⟩ ?_)
  refine r_loop (fun m e w' => ∃ (i1 : Int), slices_IndexFunc_int64_impl_Design_isInstance_1_L1 s f_0 m i1 = some o1 ∧ e = [(0, .slice p1 s.length k1), (1, .func (.func 165) #[] #[.pointer (some ⟨b1, o_1, none⟩)]), (7, .int .i64 (s.length : Int)), (8, .int .i64 i1)] ∧ SH w w' []) n ⟨_, hF, rfl, h⟩ ?_
  rintro m1 e1 w1 ⟨i1, hF, rfl, h⟩
  rcases m1 with _ | m1
  · rw [slices_IndexFunc_int64_impl_Design_isInstance_1_L1] at hF
    cases hF
  rw [slices_IndexFunc_int64_impl_Design_isInstance_1_L1] at hF
  refine r_seq (r_region (rp rfl rfl (r_nil (r_seq ?_))))
  refine r_if rfl hF (fun hF => ?_) (fun hF => ?_)
  · refine r_skip (r_seq (r_block (r_seq (r_region (rp rfl rfl (rp rfl rfl (r_nil (r_seq (r_region (rp rfl rfl (rp rfl rfl ?_)))))))))))
    refine rp rfl rfl ?_
    obtain ⟨y1, hy1, hF⟩ := bindS hF
    have he1 := idx_some hy1
    obtain ⟨b2, o_2, q1, cs3, hp1, hq1, -, hr2, hc3⟩ := s1.at hy1
    obtain rfl := hr2
    refine r_v (v_ix tabOk hp1 hq1 ⟨he1.1, he1.2.1⟩ rfl rfl rfl rfl rfl rfl) rfl (r_v (v_ld tabOk (hc3.below h.below) (j := 0) rfl rfl rfl) rfl ?_)
    obtain ⟨r1, hr3, hF⟩ := bindS hF
    refine r_callB r1 h call165 (impl_Design_isInstance_1_ok (h.old ha2) hr3) rfl rfl rfl rfl ?_
    intro w2 h
    refine r_nil ?_
    refine r_if rfl hF (fun hF => ?_) (fun hF => ?_)
    · refine r_seq (r_region (rp rfl rfl (rp rfl rfl (r_nil ?_))))
      obtain rfl := someI hF; replace hF := hK1
      exact r_rI tabOk h hF ⟨rfl, trivial⟩
    exact r_skip (r_blk (r_region (rp rfl rfl (rp rfl rfl (r_nil (r_back m1 [(0, _), (1, _), (7, _), (8, _)] (Nat.lt_succ_self m1) ⟨rfl, rfl, rfl, rfl, trivial⟩ ⟨_, hF, rfl, h⟩))))))
  refine r_exit rfl ?_
  obtain rfl := someI hF; replace hF := hK1
  exact r_seq (r_region (rp rfl rfl (r_nil (r_rI tabOk h hF ⟨rfl, trivial⟩))))

def slices_ContainsFunc_int64_impl_Design_isInstance_1 (n : Nat) (s : (List Int)) (f_0 : TDesign) : Option Bool :=
  (slices_IndexFunc_int64_impl_Design_isInstance_1 n s f_0).bind fun r1 =>
  some (decide (r1 ≥ 0))

theorem slices_ContainsFunc_int64_impl_Design_isInstance_1_ok {n : Nat} {w : World} {s : (List Int)} {f_0 : TDesign} {cs1 : List Value} (ha1 : GoT.R w (old w) s cs1) {p2 : Option Addr} (ha2 : GoT.R w (old w) (some f_0) [.pointer p2]) {r : Bool} (hF : slices_ContainsFunc_int64_impl_Design_isInstance_1 n s f_0 = some r) : RetV Tryz.prog 145 [GoT.v (List Int) cs1, .func (.func 165) #[] #[.pointer p2]] w r := by
  obtain ⟨p1, k1, rfl, s1⟩ := ha1
  obtain ⟨b1, o_1, cs2, rfl, -, hr1, hc1⟩ := PtR.get ha2 rfl
  obtain ⟨p3, k2, p4, k3, p5, k4, rfl, s2, s3, s4⟩ := open_TDesign hr1
  refine retV_of_run Tryz.func145 rfl (m := 9) rfl rfl (fun h => ?_)
  rw [slices_ContainsFunc_int64_impl_Design_isInstance_1] at hF
  refine r_seq (r_region (rp rfl rfl (r_nil (r_seq (r_region (rp rfl rfl (rp rfl rfl ?_)))))))
  obtain ⟨r1, hr2, hF⟩ := bindS hF
  refine r_callI r1 h call170 (slices_IndexFunc_int64_impl_Design_isInstance_1_ok ⟨_, _, rfl, (h.oldS s1)⟩ (h.old ha2) hr2) rfl rfl rfl rfl ?_
  intro w1 h
  exact rp rfl rfl (rp rfl rfl (r_nil (r_rB tabOk h hF ⟨rfl, trivial⟩)))

def impl_Design_isInstance (n : Nat) (d : TDesign) (l : TLibrary) (x : TInstance) : Option Bool :=
  (impl_length_impl_Cell n l.Cells).bind fun r1 =>
  (impl_within n x.Cell 0 (W64 (r1 - 1))).bind fun r2 =>
  bif r2 then
    (idx l.Cells x.Cell).bind fun y1 =>
    bif ((x.Nets.length : Int) == (y1.Pins.length : Int)) then
      (slices_ContainsFunc_int64_impl_Design_isInstance_1 n x.Nets d).bind fun r3 =>
      some (!r3)
    else
      some false
  else
    some false

theorem impl_Design_isInstance_ok {n : Nat} {w : World} {d : TDesign} {l : TLibrary} {x : TInstance} {cs1 : List Value} (ha1 : GoT.R w (old w) d cs1) {cs2 : List Value} (ha2 : GoT.R w (old w) l cs2) {cs3 : List Value} (ha3 : GoT.R w (old w) x cs3) {r : Bool} (hF : impl_Design_isInstance n d l x = some r) : RetV Tryz.prog 130 [GoT.v TDesign cs1, GoT.v TLibrary cs2, GoT.v TInstance cs3] w r := by
  obtain ⟨p1, k1, p2, k2, p3, k3, rfl, s1, s2, s3⟩ := open_TDesign ha1
  obtain ⟨p4, k4, rfl, s4⟩ := open_TLibrary ha2
  obtain ⟨p5, k5, rfl, s5⟩ := open_TInstance ha3
  refine retV_of_run Tryz.func130 rfl (m := 35) rfl rfl (fun h => ?_)
  rw [impl_Design_isInstance] at hF
  refine r_seq (r_region (r_box h rfl rfl ?_))
  intro w1 bb1 h
  refine r_box h rfl rfl ?_
  intro w2 bb2 h
  refine r_box h rfl rfl ?_
  intro w3 bb3 h
  refine rp rfl rfl (r_nil (r_seq ?_))
  refine r_draw rfl (by kernel_rfl) ?_
  refine dp rfl rfl ?_
  refine d_v (fun _ hb => v_ld tabOk ((h.box 0 rfl).below hb) (j := 1) rfl rfl rfl) rfl ?_
  refine dp rfl rfl ?_
  refine d_v (fun _ hb => v_ld tabOk ((h.box 1 rfl).below hb) (j := 0) rfl rfl rfl) rfl ?_
  obtain ⟨r1, hr1, hF⟩ := bindS hF
  refine d_call r1 (vsI _) call164 (fun _ hb => impl_length_impl_Cell_ok ⟨_, _, rfl, ((h.ext hb).oldS s4)⟩ hr1) rfl rfl rfl rfl ?_
  refine dp rfl rfl ?_
  obtain ⟨r2, hr2, hF⟩ := bindS hF
  refine d_call r2 (vsB _) call90 (fun _ hb => impl_within_ok  hr2) rfl rfl rfl rfl ?_
  refine dp rfl rfl ?_
  by_cases hc1 : r2 = true
  · replace hF := bifT hc1 hF
    refine d_setT hc1 (t := 14) rfl (d_wanted rfl (dp rfl rfl (d_wanted rfl ?_)))
    refine d_v (fun _ hb => v_ld tabOk ((h.box 0 rfl).below hb) (j := 2) rfl rfl rfl) rfl ?_
    refine d_wanted rfl (dp rfl rfl (d_wanted rfl (dp rfl rfl (d_wanted rfl ?_))))
    refine d_v (fun _ hb => v_ld tabOk ((h.box 1 rfl).below hb) (j := 0) rfl rfl rfl) rfl ?_
    refine d_wanted rfl (dp rfl rfl (d_wanted rfl ?_))
    refine d_v (fun _ hb => v_ld tabOk ((h.box 0 rfl).below hb) (j := 1) rfl rfl rfl) rfl ?_
    refine d_wanted rfl ?_
    obtain ⟨y1, hy1, hF⟩ := bindS hF
    have he1 := idx_some hy1
    obtain ⟨b1, o_1, q1, cs4, hp1, hq1, -, hr3, hc2⟩ := s4.at hy1
    obtain ⟨p6, k6, p7, k7, p8, k8, rfl, s6, s7, s8⟩ := open_TCell hr3
    refine d_v (fun _ hb => v_ix tabOk hp1 hq1 ⟨he1.1, he1.2.1⟩ rfl rfl rfl rfl rfl rfl) rfl ?_
    refine d_wanted rfl (dp rfl rfl (d_wanted rfl ?_))
    refine d_v (fun _ hb => v_ld tabOk ((hc2.below h.below).below hb) (j := 2) rfl rfl rfl) rfl ?_
    refine d_wanted rfl (dp rfl rfl (d_wanted rfl (dp rfl rfl (dp rfl rfl (dp rfl rfl ?_)))))
    by_cases hc3 : ((x.Nets.length : Int) == (y1.Pins.length : Int)) = true
    · replace hF := bifT hc3 hF
      refine d_setT hc3 (t := 28) rfl (d_wanted rfl (dp rfl rfl (d_wanted rfl ?_)))
      refine d_v (fun _ hb => v_ld tabOk ((h.box 0 rfl).below hb) (j := 2) rfl rfl rfl) rfl ?_
      refine d_wanted rfl (dp rfl rfl (d_wanted rfl ?_))
      obtain ⟨r3, hr4, hF⟩ := bindS hF
      refine d_call r3 (vsB _) call145 (fun _ hb => slices_ContainsFunc_int64_impl_Design_isInstance_1_ok ⟨_, _, rfl, ((h.ext hb).oldS s5)⟩ (ptr_boxB (x := d) 2 (h.ext hb) rfl ((h.ext hb).old ha1)) hr4) rfl rfl rfl rfl ?_
      refine d_wanted rfl (dp rfl rfl (dp rfl rfl (dp rfl rfl ?_)))
      refine d_nil (fun w4 hb => ?_)
      replace h := h.ext hb
      clear hb
      exact r_rB tabOk h hF ⟨rfl, trivial⟩
    replace hc3 := Bool.eq_false_iff.2 hc3
    replace hF := bifF hc3 hF
    refine d_setF hc3 (t := 28) rfl (d_not rfl rfl rfl (d_not rfl rfl rfl (d_not rfl rfl rfl (d_not rfl rfl rfl (d_not rfl rfl rfl (dp rfl rfl (dp rfl rfl ?_)))))))
    refine d_nil (fun w5 hb => ?_)
    replace h := h.ext hb
    clear hb
    exact r_rB tabOk h hF ⟨rfl, trivial⟩
  replace hc1 := Bool.eq_false_iff.2 hc1
  replace hF := bifF hc1 hF
  refine d_setF hc1 (t := 14) rfl (d_not rfl rfl rfl (d_not rfl rfl rfl (d_not rfl rfl rfl (d_not rfl rfl rfl (d_not rfl rfl rfl (d_not rfl rfl rfl (d_not rfl rfl rfl (d_not rfl rfl rfl (d_not rfl rfl rfl (d_not rfl rfl rfl (d_not rfl rfl rfl ?_)))))))))))
  refine d_not rfl rfl rfl (dp rfl rfl (dp rfl rfl (d_not rfl rfl rfl (d_not rfl rfl rfl (d_not rfl rfl rfl (d_not rfl rfl rfl (d_not rfl rfl rfl (dp rfl rfl (dp rfl rfl ?_)))))))))
  refine d_nil (fun w6 hb => ?_)
  replace h := h.ext hb
  clear hb
  exact r_rB tabOk h hF ⟨rfl, trivial⟩

def impl_IsDesign_1 (_ : Nat) (a_n : Int) : Option Bool :=
  some (a_n != 1)

theorem impl_IsDesign_1_ok {n : Nat} {w : World} {a_n : Int}  {r : Bool} (hF : impl_IsDesign_1 n a_n = some r) : RetV Tryz.prog 132 [.int .i64 a_n] w r := by
  refine retV_of_run Tryz.func132 rfl (m := 5) rfl rfl (fun h => ?_)
  rw [impl_IsDesign_1] at hF
  exact r_seq (r_region (rp rfl rfl (r_nil (r_seq (r_region (rp rfl rfl (rp rfl rfl (rp rfl rfl (r_nil (r_rB tabOk h hF ⟨rfl, trivial⟩))))))))))

def slices_IndexFunc_int_impl_IsDesign_1_L1 (s : (List Int)) : Nat → Int → Option (Flow Int Int)
  | 0, _ => none
  | n + 1, i1 =>
    bif decide (i1 < (s.length : Int)) then
      (idx s i1).bind fun y1 =>
      (impl_IsDesign_1 n y1).bind fun r1 =>
      bif r1 then
        some (.ret i1)
      else
        slices_IndexFunc_int_impl_IsDesign_1_L1 s n (W64 (i1 + 1))
    else
      some (.nxt i1)

def slices_IndexFunc_int_impl_IsDesign_1 (n : Nat) (s : (List Int)) : Option Int :=
  (slices_IndexFunc_int_impl_IsDesign_1_L1 s n 0).bind fun o => match o with
  | .ret r => some r
  | .nxt _ =>
    some (-1)

theorem slices_IndexFunc_int_impl_IsDesign_1_ok {n : Nat} {w : World} {s : (List Int)} {cs1 : List Value} (ha1 : GoT.R w (old w) s cs1) {r : Int} (hF : slices_IndexFunc_int_impl_IsDesign_1 n s = some r) : RetV Tryz.prog 166 [GoT.v (List Int) cs1, .func (.func 132) #[] #[]] w r := by
  obtain ⟨p1, k1, rfl, s1⟩ := ha1
  refine retV_of_run Tryz.func166 rfl (m := 19) rfl rfl (fun h => ?_)
  rw [slices_IndexFunc_int_impl_IsDesign_1] at hF
  refine r_seq (r_region (rp rfl rfl (r_nil (r_seq (r_seq (r_region (rp rfl rfl (rp rfl rfl (rp rfl rfl (r_nil ?_))))))))))
  obtain ⟨o1, hF, hK1⟩ := bindS hF
  refine r_block (r_sub [(0, _), (1, _), (7, _), (8, _)] ⟨rfl, rfl, rfl, rfl, trivial⟩ ?_)
  refine r_loop (fun m e w' => ∃ (i1 : Int), slices_IndexFunc_int_impl_IsDesign_1_L1 s m i1 = some o1 ∧ e = [(0, .slice p1 s.length k1), (1, .func (.func 132) #[] #[]), (7, .int .i64 (s.length : Int)), (8, .int .i64 i1)] ∧ SH w w' []) n ⟨_, hF, rfl, h⟩ ?_
  rintro m1 e1 w1 ⟨i1, hF, rfl, h⟩
  rcases m1 with _ | m1
  · rw [slices_IndexFunc_int_impl_IsDesign_1_L1] at hF
    cases hF
  rw [slices_IndexFunc_int_impl_IsDesign_1_L1] at hF
  refine r_seq (r_region (rp rfl rfl (r_nil (r_seq ?_))))
  refine r_if rfl hF (fun hF => ?_) (fun hF => ?_)
  · refine r_skip (r_seq (r_block (r_seq (r_region (rp rfl rfl (rp rfl rfl (r_nil (r_seq (r_region (rp rfl rfl (rp rfl rfl ?_)))))))))))
    refine rp rfl rfl ?_
    obtain ⟨y1, hy1, hF⟩ := bindS hF
    have he1 := idx_some hy1
    obtain ⟨b1, o_1, q1, cs2, hp1, hq1, -, hr1, hc2⟩ := s1.at hy1
    obtain rfl := hr1
    refine r_v (v_ix tabOk hp1 hq1 ⟨he1.1, he1.2.1⟩ rfl rfl rfl rfl rfl rfl) rfl (r_v (v_ld tabOk (hc2.below h.below) (j := 0) rfl rfl rfl) rfl ?_)
    obtain ⟨r1, hr2, hF⟩ := bindS hF
    refine r_callB r1 h call132 (impl_IsDesign_1_ok hr2) rfl rfl rfl rfl ?_
    intro w2 h
    refine r_nil ?_
    refine r_if rfl hF (fun hF => ?_) (fun hF => ?_)
    · refine r_seq (r_region (rp rfl rfl (rp rfl rfl (r_nil ?_))))
      obtain rfl := someI hF; replace hF := hK1
      exact r_rI tabOk h hF ⟨rfl, trivial⟩
    exact r_skip (r_blk (r_region (rp rfl rfl (rp rfl rfl (r_nil (r_back m1 [(0, _), (1, _), (7, _), (8, _)] (Nat.lt_succ_self m1) ⟨rfl, rfl, rfl, rfl, trivial⟩ ⟨_, hF, rfl, h⟩))))))
  refine r_exit rfl ?_
  obtain rfl := someI hF; replace hF := hK1
  exact r_seq (r_region (rp rfl rfl (r_nil (r_rI tabOk h hF ⟨rfl, trivial⟩))))

def slices_ContainsFunc_int_impl_IsDesign_1 (n : Nat) (s : (List Int)) : Option Bool :=
  (slices_IndexFunc_int_impl_IsDesign_1 n s).bind fun r1 =>
  some (decide (r1 ≥ 0))

theorem slices_ContainsFunc_int_impl_IsDesign_1_ok {n : Nat} {w : World} {s : (List Int)} {cs1 : List Value} (ha1 : GoT.R w (old w) s cs1) {r : Bool} (hF : slices_ContainsFunc_int_impl_IsDesign_1 n s = some r) : RetV Tryz.prog 131 [GoT.v (List Int) cs1, .func (.func 132) #[] #[]] w r := by
  obtain ⟨p1, k1, rfl, s1⟩ := ha1
  refine retV_of_run Tryz.func131 rfl (m := 9) rfl rfl (fun h => ?_)
  rw [slices_ContainsFunc_int_impl_IsDesign_1] at hF
  refine r_seq (r_region (rp rfl rfl (r_nil (r_seq (r_region (rp rfl rfl (rp rfl rfl ?_)))))))
  obtain ⟨r1, hr1, hF⟩ := bindS hF
  refine r_callI r1 h call166 (slices_IndexFunc_int_impl_IsDesign_1_ok ⟨_, _, rfl, (h.oldS s1)⟩ hr1) rfl rfl rfl rfl ?_
  intro w1 h
  exact rp rfl rfl (rp rfl rfl (r_nil (r_rB tabOk h hF ⟨rfl, trivial⟩)))

def impl_IsDesign_L2 (a_1 : TDesign) : Nat → (List Int) → Int → Option (Flow Bool ((List Int) × Int))
  | 0, _, _ => none
  | n + 1, x3, i2 =>
    bif decide (i2 < (a_1.Ports.length : Int)) then
      (idx a_1.Ports i2).bind fun y5 =>
      (
        bif (y5.Dir != 1) then
          bif (y5.Dir != 2) then
            some true
          else
            (impl_Design_isNet n a_1 y5.Net).bind fun r2 =>
            some (!r2)
        else
          (impl_Design_isNet n a_1 y5.Net).bind fun r3 =>
          some (!r3)).bind fun b7 =>
      bif b7 then
        some (.ret false)
      else
        bif (y5.Dir == 1) then
          (idx x3 y5.Net).bind fun y6 =>
          (idx x3 y5.Net).bind fun _ =>
          impl_IsDesign_L2 a_1 n (setS x3 y5.Net (W64 (y6 + 1))) (W64 (i2 + 1))
        else
          impl_IsDesign_L2 a_1 n x3 (W64 (i2 + 1))
    else
      some (.nxt (x3, i2))

def impl_IsDesign_L1 (a_0 : TLibrary) (a_1 : TDesign) : Nat → (List Int) → Int → Option (Flow Bool ((List Int) × Int))
  | 0, _, _ => none
  | n + 1, x2, i1 =>
    bif decide (i1 < (a_1.Instances.length : Int)) then
      (idx a_1.Instances i1).bind fun y1 =>
      (impl_Design_isInstance n a_1 a_0 y1).bind fun r1 =>
      bif (!r1) then
        some (.ret false)
      else
        (idx y1.Nets (W64 ((y1.Nets.length : Int) - 1))).bind fun y2 =>
        (idx x2 y2).bind fun y3 =>
        (idx x2 y2).bind fun _ =>
        impl_IsDesign_L1 a_0 a_1 n (setS x2 y2 (W64 (y3 + 1))) (W64 (i1 + 1))
    else
      some (.nxt (x2, i1))

def impl_IsDesign (n : Nat) (a_0 : TLibrary) (a_1 : TDesign) : Option Bool :=
  (
    (impl_IsLibrary n a_0).bind fun r5 =>
    bif (!r5) then
      some true
    else
      (impl_Design_hasNames n a_1).bind fun r6 =>
      some (!r6)).bind fun b1 =>
  bif b1 then
    some false
  else
    (mkS (a_1.Nets.length : Int) (0 : Int)).bind fun x1 =>
    (impl_IsDesign_L1 a_0 a_1 n x1 0).bind fun o => match o with
    | .ret r => some r
    | .nxt (x2, _) =>
      (impl_IsDesign_L2 a_1 n x2 0).bind fun o => match o with
      | .ret r => some r
      | .nxt (x3, _) =>
        (slices_ContainsFunc_int_impl_IsDesign_1 n x3).bind fun r4 =>
        some (!r4)

theorem impl_IsDesign_ok {n : Nat} {w : World} {a_0 : TLibrary} {a_1 : TDesign} {cs1 : List Value} (ha1 : GoT.R w (old w) a_0 cs1) {cs2 : List Value} (ha2 : GoT.R w (old w) a_1 cs2) {r : Bool} (hF : impl_IsDesign n a_0 a_1 = some r) : RetV Tryz.prog 78 [GoT.v TLibrary cs1, GoT.v TDesign cs2] w r := by
  obtain ⟨p1, k1, rfl, s1⟩ := open_TLibrary ha1
  obtain ⟨p2, k2, p3, k3, p4, k4, rfl, s2, s3, s4⟩ := open_TDesign ha2
  refine retV_of_run Tryz.func78 rfl (m := 84) rfl rfl (fun h => ?_)
  rw [impl_IsDesign] at hF
  refine r_seq (r_region (r_box h rfl rfl ?_))
  intro w1 bb1 h
  refine r_box h rfl rfl ?_
  intro w2 bb2 h
  refine rp rfl rfl (r_nil (r_seq (r_seq ?_)))
  obtain ⟨KF2, hKF2, o4, hF, hK4⟩ := bindE hF
  refine r_cut (fun e w' => ∃ (b1 : Bool), KF2 b1 = some r ∧ e = [(2, .pointer (some ⟨bb1, 0, none⟩)), (3, .pointer (some ⟨bb2, 0, none⟩)), (17, .bool b1)] ∧ SH w w' [Ch.box bb2 [.slice p2 a_1.Instances.length k2, .slice p3 a_1.Nets.length k3, .slice p4 a_1.Ports.length k4] 41, Ch.box bb1 [.slice p1 a_0.Cells.length k1] 37]) ?_ ?_
  · refine r_region (r_v (v_ld tabOk (h.box 1 rfl) (j := 0) rfl rfl rfl) rfl ?_)
    obtain ⟨r5, hr12, hF⟩ := bindS hF
    refine r_callB r5 h call128 (impl_IsLibrary_ok (h.old ha1) hr12) rfl rfl rfl rfl ?_
    intro w17 h
    refine rp rfl rfl (rp rfl rfl ?_)
    by_cases hc16 : (!r5) = true
    · replace hF := bifT hc16 hF
      refine r_setT hc16 (t := 13) rfl (r_not rfl rfl rfl (r_not rfl rfl rfl (r_not rfl rfl rfl (rp rfl rfl (r_nil ?_)))))
      obtain rfl := someI hF
      exact r_cutgoal [(2, _), (3, _), (17, _)] ⟨rfl, rfl, rfl, trivial⟩ ⟨_, hK4, rfl, h⟩
    replace hc16 := Bool.eq_false_iff.2 hc16
    replace hF := bifF hc16 hF
    refine r_setF hc16 (t := 13) rfl (r_wanted rfl (r_v (v_ld tabOk (h.box 0 rfl) (j := 0) rfl rfl rfl) rfl (r_wanted rfl ?_)))
    obtain ⟨r6, hr13, hF⟩ := bindS hF
    refine r_callB r6 h call129 (impl_Design_hasNames_ok (h.old ha2) hr13) rfl rfl rfl rfl ?_
    intro w18 h
    refine r_wanted rfl (rp rfl rfl (rp rfl rfl (r_nil ?_)))
    obtain rfl := someI hF
    exact r_cutgoal [(2, _), (3, _), (17, _)] ⟨rfl, rfl, rfl, trivial⟩ ⟨_, hK4, rfl, h⟩
  rintro e4 w19 ⟨b1, hF, rfl, h⟩
  subst hKF2
  refine r_if rfl hF (fun hF => ?_) (fun hF => ?_)
  · exact r_seq (r_region (rp rfl rfl (r_nil (r_rB tabOk h hF ⟨rfl, trivial⟩))))
  refine r_skip (r_seq (r_region (rp rfl rfl (r_v (v_ld tabOk (h.box 0 rfl) (j := 1) rfl rfl rfl) rfl (rp rfl rfl ?_)))))
  obtain ⟨x1, hx1, hF⟩ := bindS hF
  obtain ⟨g1, g2, hx1⟩ := mkS_some hx1
  refine r_makeE tabOk Int h rfl rfl rfl rfl rfl rfl rfl rfl rfl g1 g2 hx1 rfl ?_
  intro w3 S1 p5 h
  refine rp rfl rfl (r_nil (r_seq (r_seq (r_region (rp rfl rfl (r_v (v_ld tabOk (h.box 1 rfl) (j := 0) rfl rfl rfl) rfl (rp rfl rfl (rp rfl rfl (r_nil ?_)))))))))
  obtain ⟨o1, hF, hK1⟩ := bindS hF
  refine r_block (r_sub [(2, _), (3, _), (5, _), (23, _), (24, _), (25, _)] ⟨rfl, rfl, rfl, rfl, rfl, rfl, trivial⟩ ?_)
  refine r_loop (fun m e w' => ∃ (x2 : (List Int)) (i1 : Int), impl_IsDesign_L1 a_0 a_1 m x2 i1 = some o1 ∧ e = [(2, .pointer (some ⟨bb1, 0, none⟩)), (3, .pointer (some ⟨bb2, 0, none⟩)), (5, .slice p5 x1.length x1.length), (23, .slice p2 a_1.Instances.length k2), (24, .int .i64 (a_1.Instances.length : Int)), (25, .int .i64 i1)] ∧ SH w w' [Ch.own S1 (x2 : List Int) [.slice p5 x1.length x1.length], Ch.box bb2 [.slice p2 a_1.Instances.length k2, .slice p3 a_1.Nets.length k3, .slice p4 a_1.Ports.length k4] 41, Ch.box bb1 [.slice p1 a_0.Cells.length k1] 37]) n ⟨_, _, hF, rfl, h⟩ ?_
  rintro m1 e1 w4 ⟨x2, i1, hF, rfl, h⟩
  rcases m1 with _ | m1
  · rw [impl_IsDesign_L1] at hF
    cases hF
  rw [impl_IsDesign_L1] at hF
  refine r_seq (r_region (rp rfl rfl (r_nil (r_seq ?_))))
  refine r_if rfl hF (fun hF => ?_) (fun hF => ?_)
  · refine r_skip (r_seq (r_block (r_seq (r_region ?_))))
    obtain ⟨y1, hy1, hF⟩ := bindS hF
    have he1 := idx_some hy1
    obtain ⟨b2, o_1, q1, cs3, hp1, hq1, -, hr1, hc3⟩ := s2.at hy1
    obtain ⟨p6, k5, rfl, s5⟩ := open_TInstance hr1
    refine r_v (v_ix tabOk hp1 hq1 ⟨he1.1, he1.2.1⟩ rfl rfl rfl rfl rfl rfl) rfl (r_v (v_ld tabOk (hc3.below h.below) (j := 0) rfl rfl rfl) rfl (r_alloc tabOk h rfl rfl rfl ?_))
    intro w5 bb3 h
    refine r_stbox tabOk 0 h rfl rfl rfl rfl rfl rfl rfl ?_
    intro w6 h
    refine r_nil (r_seq (r_seq (r_region (r_v (v_ld tabOk (h.box 2 rfl) (j := 0) rfl rfl rfl) rfl (r_v (v_ld tabOk (h.box 3 rfl) (j := 0) rfl rfl rfl) rfl (r_v (v_ld tabOk (h.box 0 rfl) (j := 0) rfl rfl rfl) rfl ?_))))))
    obtain ⟨r1, hr2, hF⟩ := bindS hF
    refine r_callB r1 h call130 (impl_Design_isInstance_ok (h.old ha2) (h.old ha1) (mkR_TInstance y1 (h.oldS s5)) hr2) rfl rfl rfl rfl ?_
    intro w7 h
    refine rp rfl rfl (r_nil ?_)
    refine r_if rfl hF (fun hF => ?_) (fun hF => ?_)
    · refine r_seq (r_region (rp rfl rfl (r_nil ?_)))
      obtain rfl := someI hF; replace hF := hK1
      exact r_rB tabOk h hF ⟨rfl, trivial⟩
    refine r_skip (r_region (rp rfl rfl (rp rfl rfl (r_v (v_ld tabOk (h.box 0 rfl) (j := 2) rfl rfl rfl) rfl (rp rfl rfl (r_v (v_ld tabOk (h.box 0 rfl) (j := 2) rfl rfl rfl) rfl (rp rfl rfl (rp rfl rfl ?_))))))))
    obtain ⟨y2, hy2, hF⟩ := bindS hF
    have he2 := idx_some hy2
    obtain ⟨b3, o_2, q2, cs4, hp2, hq2, -, hr3, hc5⟩ := s5.at hy2
    obtain rfl := hr3
    refine r_v (v_ix tabOk hp2 hq2 ⟨he2.1, he2.2.1⟩ rfl rfl rfl rfl rfl rfl) rfl (r_v (v_ld tabOk (hc5.below h.below) (j := 0) rfl rfl rfl) rfl ?_)
    obtain ⟨y3, hy3, hF⟩ := bindS hF
    have he3 := idx_some hy3
    obtain ⟨b4, o_3, q3, cs5, hp3, hq3, -, hr4, hc6⟩ := (h.sl 1 rfl).1.at hy3
    obtain rfl := hr4
    refine r_v (v_ix tabOk hp3 hq3 ⟨he3.1, lt_ln he3.2.1 (h.sl 1 rfl).2⟩ rfl rfl rfl rfl rfl rfl) rfl (r_v (v_ld tabOk hc6 (j := 0) rfl rfl rfl) rfl (rp rfl rfl ?_))
    obtain ⟨y4, hy4, hF⟩ := bindS hF
    have he4 := idx_some hy4
    obtain ⟨b5, o_4, q4, cs6, hp4, hq4, -, hr5, hc7⟩ := (h.sl 1 rfl).1.at hy4
    obtain rfl := hr5
    refine r_v (v_ix tabOk hp4 hq4 ⟨he4.1, lt_ln he4.2.1 (h.sl 1 rfl).2⟩ rfl rfl rfl rfl rfl rfl) rfl (r_stown tabOk 1 0 (W64 (y3 + 1)) h rfl hy4 hp4 hq4 rfl hc7 rfl rfl rfl rfl rfl rfl rfl ?_)
    intro w8 h
    refine r_nil (r_blk (r_region (rp rfl rfl (rp rfl rfl (r_nil ?_)))))
    replace h := h.pick [1, 2, 3] rfl
    exact r_back m1 [(2, _), (3, _), (5, _), (23, _), (24, _), (25, _)] (Nat.lt_succ_self m1) ⟨rfl, rfl, rfl, rfl, rfl, rfl, trivial⟩ ⟨_, _, hF, rfl, h⟩
  refine r_exit rfl ?_
  obtain rfl := someI hF; replace hF := hK1
  refine r_seq (r_seq (r_region (rp rfl rfl (r_v (v_ld tabOk (h.box 1 rfl) (j := 2) rfl rfl rfl) rfl (rp rfl rfl (rp rfl rfl (r_nil ?_)))))))
  obtain ⟨o2, hF, hK2⟩ := bindS hF
  refine r_block ?_
  replace h := h.pick [0, 1] rfl
  refine r_sub [(3, _), (5, _), (49, _), (50, _), (51, _)] ⟨rfl, rfl, rfl, rfl, rfl, trivial⟩ ?_
  refine r_loop (fun m e w' => ∃ (x3 : (List Int)) (i2 : Int), impl_IsDesign_L2 a_1 m x3 i2 = some o2 ∧ e = [(3, .pointer (some ⟨bb2, 0, none⟩)), (5, .slice p5 x1.length x1.length), (49, .slice p4 a_1.Ports.length k4), (50, .int .i64 (a_1.Ports.length : Int)), (51, .int .i64 i2)] ∧ SH w w' [Ch.own S1 (x3 : List Int) [.slice p5 x1.length x1.length], Ch.box bb2 [.slice p2 a_1.Instances.length k2, .slice p3 a_1.Nets.length k3, .slice p4 a_1.Ports.length k4] 41]) n ⟨_, _, hF, rfl, h⟩ ?_
  rintro m2 e2 w9 ⟨x3, i2, hF, rfl, h⟩
  rcases m2 with _ | m2
  · rw [impl_IsDesign_L2] at hF
    cases hF
  rw [impl_IsDesign_L2] at hF
  refine r_seq (r_region (rp rfl rfl (r_nil (r_seq ?_))))
  refine r_if rfl hF (fun hF => ?_) (fun hF => ?_)
  · refine r_skip (r_seq (r_block (r_seq (r_region ?_))))
    obtain ⟨y5, hy5, hF⟩ := bindS hF
    have he5 := idx_some hy5
    obtain ⟨b6, o_5, q5, cs7, hp5, hq5, -, hr6, hc9⟩ := s4.at hy5
    obtain rfl := open_TPort hr6
    refine r_v (v_ix tabOk hp5 hq5 ⟨he5.1, he5.2.1⟩ rfl rfl rfl rfl rfl rfl) rfl (r_v (v_ld tabOk (hc9.below h.below) (j := 0) rfl rfl rfl) rfl (r_alloc tabOk h rfl rfl rfl ?_))
    intro w10 bb4 h
    refine r_stbox tabOk 0 h rfl rfl rfl rfl rfl rfl rfl ?_
    intro w11 h
    replace h : SH _ _ [Ch.box bb4 [.string y5.Name, .int .i64 y5.Dir, .int .i64 y5.Net] 163, Ch.own S1 (x3 : List Int) [.slice p5 x1.length x1.length], Ch.box bb2 [.slice p2 a_1.Instances.length k2, .slice p3 a_1.Nets.length k3, .slice p4 a_1.Ports.length k4] 41] := h
    refine r_nil (r_seq (r_seq ?_))
    obtain ⟨KF1, hKF1, o3, hF, hK3⟩ := bindE hF
    refine r_cut (fun e w' => ∃ (b7 : Bool), KF1 b7 = some o2 ∧ e = [(3, .pointer (some ⟨bb2, 0, none⟩)), (5, .slice p5 x1.length x1.length), (9, .pointer (some ⟨bb4, 0, none⟩)), (49, .slice p4 a_1.Ports.length k4), (50, .int .i64 (a_1.Ports.length : Int)), (51, .int .i64 i2), (69, .bool b7)] ∧ SH w w' [Ch.box bb4 [.string y5.Name, .int .i64 y5.Dir, .int .i64 y5.Net] 163, Ch.own S1 (x3 : List Int) [.slice p5 x1.length x1.length], Ch.box bb2 [.slice p2 a_1.Instances.length k2, .slice p3 a_1.Nets.length k3, .slice p4 a_1.Ports.length k4] 41]) ?_ ?_
    · refine r_region (rp rfl rfl (r_v (v_ld tabOk (h.box 0 rfl) (j := 1) rfl rfl rfl) rfl (rp rfl rfl (rp rfl rfl ?_))))
      by_cases hc14 : (y5.Dir != 1) = true
      · replace hF := bifT hc14 hF
        refine r_setT hc14 (t := 58) rfl (r_wanted rfl (rp rfl rfl (r_wanted rfl (r_v (v_ld tabOk (h.box 0 rfl) (j := 1) rfl rfl rfl) rfl (r_wanted rfl (rp rfl rfl (rp rfl rfl (rp rfl rfl ?_))))))))
        by_cases hc15 : (y5.Dir != 2) = true
        · replace hF := bifT hc15 hF
          refine r_setT hc15 (t := 63) rfl (r_not rfl rfl rfl (r_not rfl rfl rfl (r_not rfl rfl rfl (r_not rfl rfl rfl (r_not rfl rfl rfl (rp rfl rfl (r_nil ?_)))))))
          obtain rfl := someI hF
          exact r_cutgoal [(3, _), (5, _), (9, _), (49, _), (50, _), (51, _), (69, _)] ⟨rfl, rfl, rfl, rfl, rfl, rfl, rfl, trivial⟩ ⟨_, hK3, rfl, h⟩
        replace hc15 := Bool.eq_false_iff.2 hc15
        replace hF := bifF hc15 hF
        refine r_setF hc15 (t := 63) rfl (r_wanted rfl (r_v (v_ld tabOk (h.box 2 rfl) (j := 0) rfl rfl rfl) rfl (r_wanted rfl (rp rfl rfl (r_wanted rfl (r_v (v_ld tabOk (h.box 0 rfl) (j := 2) rfl rfl rfl) rfl (r_wanted rfl ?_)))))))
        obtain ⟨r2, hr9, hF⟩ := bindS hF
        refine r_callB r2 h call89 (impl_Design_isNet_ok (h.old ha2) hr9) rfl rfl rfl rfl ?_
        intro w13 h
        refine r_wanted rfl (rp rfl rfl (rp rfl rfl (r_nil ?_)))
        obtain rfl := someI hF
        exact r_cutgoal [(3, _), (5, _), (9, _), (49, _), (50, _), (51, _), (69, _)] ⟨rfl, rfl, rfl, rfl, rfl, rfl, rfl, trivial⟩ ⟨_, hK3, rfl, h⟩
      replace hc14 := Bool.eq_false_iff.2 hc14
      replace hF := bifF hc14 hF
      refine r_setF hc14 (t := 58) rfl (r_not rfl rfl rfl (r_not rfl rfl rfl (r_not rfl rfl rfl (rp rfl rfl (rp rfl rfl (r_wanted rfl (r_v (v_ld tabOk (h.box 2 rfl) (j := 0) rfl rfl rfl) rfl (r_wanted rfl (rp rfl rfl (r_wanted rfl (r_v (v_ld tabOk (h.box 0 rfl) (j := 2) rfl rfl rfl) rfl ?_)))))))))))
      refine r_wanted rfl ?_
      obtain ⟨r3, hr10, hF⟩ := bindS hF
      refine r_callB r3 h call89 (impl_Design_isNet_ok (h.old ha2) hr10) rfl rfl rfl rfl ?_
      intro w14 h
      refine r_wanted rfl (rp rfl rfl (rp rfl rfl (r_nil ?_)))
      obtain rfl := someI hF
      exact r_cutgoal [(3, _), (5, _), (9, _), (49, _), (50, _), (51, _), (69, _)] ⟨rfl, rfl, rfl, rfl, rfl, rfl, rfl, trivial⟩ ⟨_, hK3, rfl, h⟩
    rintro e3 w15 ⟨b7, hF, rfl, h⟩
    subst hKF1
    refine r_if rfl hF (fun hF => ?_) (fun hF => ?_)
    · refine r_seq (r_region (rp rfl rfl (r_nil ?_)))
      obtain rfl := someI hF; replace hF := hK2
      exact r_rB tabOk h hF ⟨rfl, trivial⟩
    refine r_skip (r_seq (r_region (rp rfl rfl (r_v (v_ld tabOk (h.box 0 rfl) (j := 1) rfl rfl rfl) rfl (rp rfl rfl (r_nil ?_))))))
    refine r_if rfl hF (fun hF => ?_) (fun hF => ?_)
    · refine r_region (rp rfl rfl (rp rfl rfl (r_v (v_ld tabOk (h.box 0 rfl) (j := 2) rfl rfl rfl) rfl ?_)))
      obtain ⟨y6, hy6, hF⟩ := bindS hF
      have he6 := idx_some hy6
      obtain ⟨b8, o_6, q6, cs8, hp6, hq6, -, hr7, hc12⟩ := (h.sl 1 rfl).1.at hy6
      obtain rfl := hr7
      refine r_v (v_ix tabOk hp6 hq6 ⟨he6.1, lt_ln he6.2.1 (h.sl 1 rfl).2⟩ rfl rfl rfl rfl rfl rfl) rfl (r_v (v_ld tabOk hc12 (j := 0) rfl rfl rfl) rfl (rp rfl rfl ?_))
      obtain ⟨y7, hy7, hF⟩ := bindS hF
      have he7 := idx_some hy7
      obtain ⟨b9, o_7, q7, cs9, hp7, hq7, -, hr8, hc13⟩ := (h.sl 1 rfl).1.at hy7
      obtain rfl := hr8
      refine r_v (v_ix tabOk hp7 hq7 ⟨he7.1, lt_ln he7.2.1 (h.sl 1 rfl).2⟩ rfl rfl rfl rfl rfl rfl) rfl (r_stown tabOk 1 0 (W64 (y6 + 1)) h rfl hy7 hp7 hq7 rfl hc13 rfl rfl rfl rfl rfl rfl rfl ?_)
      intro w12 h
      refine r_nil (r_blk (r_region (rp rfl rfl (rp rfl rfl (r_nil ?_)))))
      replace h := h.pick [1, 2] rfl
      exact r_back m2 [(3, _), (5, _), (49, _), (50, _), (51, _)] (Nat.lt_succ_self m2) ⟨rfl, rfl, rfl, rfl, rfl, trivial⟩ ⟨_, _, hF, rfl, h⟩
    refine r_skip (r_blk (r_region (rp rfl rfl (rp rfl rfl (r_nil ?_)))))
    replace h := h.pick [1, 2] rfl
    exact r_back m2 [(3, _), (5, _), (49, _), (50, _), (51, _)] (Nat.lt_succ_self m2) ⟨rfl, rfl, rfl, rfl, rfl, trivial⟩ ⟨_, _, hF, rfl, h⟩
  refine r_exit rfl ?_
  obtain rfl := someI hF; replace hF := hK2
  refine r_seq (r_region (rp rfl rfl ?_))
  obtain ⟨r4, hr11, hF⟩ := bindS hF
  refine r_callB r4 h call131 (slices_ContainsFunc_int_impl_IsDesign_1_ok (h.own 0 rfl) hr11) rfl rfl rfl rfl ?_
  intro w16 h
  exact rp rfl rfl (rp rfl rfl (r_nil (r_rB tabOk h hF ⟨rfl, trivial⟩)))

def impl_Design_places_L2 (i1 : Int) (y1 : TInstance) : Nat → (List Tplace) → Int → Option ((List Tplace) × Int)
  | 0, _, _ => none
  | n + 1, x2, i2 =>
    bif decide (i2 < (y1.Nets.length : Int)) then
      (idx y1.Nets i2).bind fun y2 =>
      (appS x2 ([(⟨i1, i2, y2, (i2 == (W64 ((y1.Nets.length : Int) - 1)))⟩ : Tplace)] : List Tplace)).bind fun x3 =>
      impl_Design_places_L2 i1 y1 n x3 (W64 (i2 + 1))
    else
      some (x2, i2)

def impl_Design_places_L3 (d : TDesign) : Nat → (List Tplace) → Int → Option ((List Tplace) × Int)
  | 0, _, _ => none
  | n + 1, x4, i3 =>
    bif decide (i3 < (d.Ports.length : Int)) then
      (idx d.Ports i3).bind fun y3 =>
      (appS x4 ([(⟨(-1), i3, y3.Net, (y3.Dir == 1)⟩ : Tplace)] : List Tplace)).bind fun x5 =>
      impl_Design_places_L3 d n x5 (W64 (i3 + 1))
    else
      some (x4, i3)

def impl_Design_places_L1 (d : TDesign) : Nat → (List Tplace) → Int → Option ((List Tplace) × Int)
  | 0, _, _ => none
  | n + 1, x1, i1 =>
    bif decide (i1 < (d.Instances.length : Int)) then
      (idx d.Instances i1).bind fun y1 =>
      (impl_Design_places_L2 i1 y1 n x1 0).bind fun o => match o with
      | (x2, _) =>
        impl_Design_places_L1 d n x2 (W64 (i1 + 1))
    else
      some (x1, i1)

def impl_Design_places (n : Nat) (d : TDesign) : Option (List Tplace) :=
  (impl_Design_places_L1 d n ([] : List Tplace) 0).bind fun o => match o with
  | (x1, _) =>
    (impl_Design_places_L3 d n x1 0).bind fun o => match o with
    | (x4, _) =>
      some x4

theorem impl_Design_places_ok {n : Nat} {w : World} {d : TDesign} {cs1 : List Value} (ha1 : GoT.R w (old w) d cs1) {r : (List Tplace)} (hF : impl_Design_places n d = some r) : RetV Tryz.prog 79 [GoT.v TDesign cs1] w r := by
  obtain ⟨p1, k1, p2, k2, p3, k3, rfl, s1, s2, s3⟩ := open_TDesign ha1
  refine retV_of_run Tryz.func79 rfl (m := 61) rfl rfl (fun h => ?_)
  rw [impl_Design_places] at hF
  refine r_seq (r_region (r_box h rfl rfl ?_))
  intro w1 bb1 h
  refine rp rfl rfl (r_nil (r_seq (r_region (rp rfl rfl (r_nil (r_seq (r_seq (r_region (rp rfl rfl (r_v (v_ld tabOk (h.box 0 rfl) (j := 0) rfl rfl rfl) rfl (rp rfl rfl ?_)))))))))))
  refine rp rfl rfl (r_nil ?_)
  replace h := h.nil (α := Tplace)
  obtain ⟨o1, hF, hK1⟩ := bindS hF
  refine r_block (r_sub [(1, _), (3, _), (11, _), (12, _), (13, _)] ⟨rfl, rfl, rfl, rfl, rfl, trivial⟩ ?_)
  refine r_loop (fun m e w' => ∃ (S1 : Nat → Prop) (p4 : Option Addr) (ln1 : Nat) (k4 : Nat) (x1 : (List Tplace)) (i1 : Int), impl_Design_places_L1 d m x1 i1 = some o1 ∧ e = [(1, .pointer (some ⟨bb1, 0, none⟩)), (3, .slice p4 ln1 k4), (11, .slice p1 d.Instances.length k1), (12, .int .i64 (d.Instances.length : Int)), (13, .int .i64 i1)] ∧ SH w w' [Ch.own S1 (x1 : List Tplace) [.slice p4 ln1 k4], Ch.box bb1 [.slice p1 d.Instances.length k1, .slice p2 d.Nets.length k2, .slice p3 d.Ports.length k3] 41]) n ⟨_, _, _, _, _, _, hF, rfl, h⟩ ?_
  rintro m1 e1 w2 ⟨S1, p4, ln1, k4, x1, i1, hF, rfl, h⟩
  obtain rfl := (h.sl 0 rfl).2
  rcases m1 with _ | m1
  · rw [impl_Design_places_L1] at hF
    cases hF
  rw [impl_Design_places_L1] at hF
  refine r_seq (r_region (rp rfl rfl (r_nil (r_seq ?_))))
  refine r_if rfl hF (fun hF => ?_) (fun hF => ?_)
  · refine r_skip (r_seq (r_block (r_seq (r_region (rp rfl rfl ?_)))))
    obtain ⟨y1, hy1, hF⟩ := bindS hF
    have he1 := idx_some hy1
    obtain ⟨b1, o_1, q1, cs2, hp1, hq1, -, hr1, hc2⟩ := s1.at hy1
    obtain ⟨p5, k5, rfl, s4⟩ := open_TInstance hr1
    refine r_v (v_ix tabOk hp1 hq1 ⟨he1.1, he1.2.1⟩ rfl rfl rfl rfl rfl rfl) rfl (r_v (v_ld tabOk (hc2.below h.below) (j := 0) rfl rfl rfl) rfl (r_alloc tabOk h rfl rfl rfl ?_))
    intro w3 bb2 h
    refine rp rfl rfl (r_stbox tabOk 0 h rfl rfl rfl rfl rfl rfl rfl ?_)
    intro w4 h
    replace h : SH _ _ [Ch.box bb2 [.string y1.Name, .int .i64 y1.Cell, .slice p5 y1.Nets.length k5] 153, Ch.own S1 (x1 : List Tplace) [.slice p4 x1.length k4], Ch.box bb1 [.slice p1 d.Instances.length k1, .slice p2 d.Nets.length k2, .slice p3 d.Ports.length k3] 41] := h
    refine r_nil (r_seq (r_region (rp rfl rfl (r_v (v_ld tabOk (h.box 0 rfl) (j := 2) rfl rfl rfl) rfl (rp rfl rfl (rp rfl rfl (r_nil ?_)))))))
    obtain ⟨o2, hF, hK2⟩ := bindS hF
    refine r_block (r_sub [(1, _), (3, _), (4, _), (5, _), (11, _), (12, _), (13, _), (19, _), (20, _), (21, _)] ⟨rfl, rfl, rfl, rfl, rfl, rfl, rfl, rfl, rfl, rfl, trivial⟩ ?_)
    refine r_loop (fun m e w' => ∃ (S2 : Nat → Prop) (p6 : Option Addr) (ln2 : Nat) (k6 : Nat) (x2 : (List Tplace)) (i2 : Int), impl_Design_places_L2 i1 y1 m x2 i2 = some o2 ∧ e = [(1, .pointer (some ⟨bb1, 0, none⟩)), (3, .slice p6 ln2 k6), (4, .int .i64 i1), (5, .pointer (some ⟨bb2, 0, none⟩)), (11, .slice p1 d.Instances.length k1), (12, .int .i64 (d.Instances.length : Int)), (13, .int .i64 i1), (19, .slice p5 y1.Nets.length k5), (20, .int .i64 (y1.Nets.length : Int)), (21, .int .i64 i2)] ∧ SH w w' [Ch.box bb2 [.string y1.Name, .int .i64 y1.Cell, .slice p5 y1.Nets.length k5] 153, Ch.own S2 (x2 : List Tplace) [.slice p6 ln2 k6], Ch.box bb1 [.slice p1 d.Instances.length k1, .slice p2 d.Nets.length k2, .slice p3 d.Ports.length k3] 41]) m1 ⟨_, _, _, _, _, _, hF, rfl, h⟩ ?_
    rintro m2 e2 w5 ⟨S2, p6, ln2, k6, x2, i2, hF, rfl, h⟩
    obtain rfl := (h.sl 1 rfl).2
    rcases m2 with _ | m2
    · rw [impl_Design_places_L2] at hF
      cases hF
    rw [impl_Design_places_L2] at hF
    refine r_seq (r_region (rp rfl rfl (r_nil (r_seq ?_))))
    refine r_if rfl hF (fun hF => ?_) (fun hF => ?_)
    · refine r_skip (r_seq (r_block (r_seq (r_region (rp rfl rfl ?_)))))
      obtain ⟨y2, hy2, hF⟩ := bindS hF
      have he2 := idx_some hy2
      obtain ⟨b2, o_2, q2, cs3, hp2, hq2, -, hr2, hc4⟩ := s4.at hy2
      obtain rfl := hr2
      refine r_v (v_ix tabOk hp2 hq2 ⟨he2.1, he2.2.1⟩ rfl rfl rfl rfl rfl rfl) rfl (r_v (v_ld tabOk (hc4.below h.below) (j := 0) rfl rfl rfl) rfl (rp rfl rfl (rp rfl rfl (r_nil (r_region (rp rfl rfl (rp rfl rfl (rp rfl rfl (rp rfl rfl (rp rfl rfl (rp rfl rfl ?_)))))))))))
      refine r_v (v_ld tabOk (h.box 0 rfl) (j := 2) rfl rfl rfl) rfl (rp rfl rfl (rp rfl rfl (rp rfl rfl (r_v (v_build tabOk [0, 1, 2, 3] [.tmp 27, .tmp 28, .tmp 29, .tmp 35] rfl rfl rfl rfl rfl rfl rfl rfl) rfl (r_bslice tabOk [.tmp 36] _ ([(⟨i1, i2, y2, (i2 == (W64 ((y1.Nets.length : Int) - 1)))⟩ : Tplace)] : List Tplace) h rfl rfl rfl rfl rfl rfl rfl rfl rfl ⟨(mkR_Tplace (⟨i1, i2, y2, (i2 == (W64 ((y1.Nets.length : Int) - 1)))⟩ : Tplace)), trivial⟩ rfl ?_)))))
      intro w6 p7 S3 h
      obtain ⟨x3, hx1, hF⟩ := bindS hF
      obtain ⟨g1, hx1⟩ := appS_some hx1
      refine r_appE tabOk 2 h rfl (h.sl 0 rfl).1 (h.sl 0 rfl).2 rfl rfl rfl rfl rfl rfl rfl rfl rfl g1 hx1 rfl ?_
      intro w7 p8 k7 S4 h
      refine rp rfl rfl (r_nil (r_blk (r_region (rp rfl rfl (rp rfl rfl (r_nil ?_))))))
      replace h := h.pick [1, 2, 3] rfl
      exact r_back m2 [(1, _), (3, _), (4, _), (5, _), (11, _), (12, _), (13, _), (19, _), (20, _), (21, _)] (Nat.lt_succ_self m2) ⟨rfl, rfl, rfl, rfl, rfl, rfl, rfl, rfl, rfl, rfl, trivial⟩ ⟨_, _, _, _, _, _, hF, rfl, h⟩
    refine r_exit rfl ?_
    obtain rfl := someI hF; replace hF := hK2
    refine r_blk (r_region (rp rfl rfl (rp rfl rfl (r_nil ?_))))
    replace h := h.pick [1, 2] rfl
    exact r_back m1 [(1, _), (3, _), (11, _), (12, _), (13, _)] (Nat.lt_succ_self m1) ⟨rfl, rfl, rfl, rfl, rfl, trivial⟩ ⟨_, _, _, _, _, _, hF, rfl, h⟩
  refine r_exit rfl ?_
  obtain rfl := someI hF; replace hF := hK1
  refine r_seq (r_seq (r_region (rp rfl rfl (r_v (v_ld tabOk (h.box 1 rfl) (j := 2) rfl rfl rfl) rfl (rp rfl rfl (rp rfl rfl (r_nil ?_)))))))
  obtain ⟨o3, hF, hK3⟩ := bindS hF
  refine r_block ?_
  replace h := h.pick [0] rfl
  refine r_sub [(3, _), (42, _), (43, _), (44, _)] ⟨rfl, rfl, rfl, rfl, trivial⟩ ?_
  refine r_loop (fun m e w' => ∃ (S5 : Nat → Prop) (p9 : Option Addr) (ln3 : Nat) (k8 : Nat) (x4 : (List Tplace)) (i3 : Int), impl_Design_places_L3 d m x4 i3 = some o3 ∧ e = [(3, .slice p9 ln3 k8), (42, .slice p3 d.Ports.length k3), (43, .int .i64 (d.Ports.length : Int)), (44, .int .i64 i3)] ∧ SH w w' [Ch.own S5 (x4 : List Tplace) [.slice p9 ln3 k8]]) n ⟨_, _, _, _, _, _, hF, rfl, h⟩ ?_
  rintro m3 e3 w8 ⟨S5, p9, ln3, k8, x4, i3, hF, rfl, h⟩
  obtain rfl := (h.sl 0 rfl).2
  rcases m3 with _ | m3
  · rw [impl_Design_places_L3] at hF
    cases hF
  rw [impl_Design_places_L3] at hF
  refine r_seq (r_region (rp rfl rfl (r_nil (r_seq ?_))))
  refine r_if rfl hF (fun hF => ?_) (fun hF => ?_)
  · refine r_skip (r_seq (r_block (r_seq (r_region (rp rfl rfl ?_)))))
    obtain ⟨y3, hy3, hF⟩ := bindS hF
    have he3 := idx_some hy3
    obtain ⟨b3, o_3, q3, cs4, hp3, hq3, -, hr3, hc6⟩ := s3.at hy3
    obtain rfl := open_TPort hr3
    refine r_v (v_ix tabOk hp3 hq3 ⟨he3.1, he3.2.1⟩ rfl rfl rfl rfl rfl rfl) rfl (r_v (v_ld tabOk (hc6.below h.below) (j := 0) rfl rfl rfl) rfl (r_alloc tabOk h rfl rfl rfl ?_))
    intro w9 bb3 h
    refine rp rfl rfl (r_stbox tabOk 0 h rfl rfl rfl rfl rfl rfl rfl ?_)
    intro w10 h
    refine r_nil (r_region (rp rfl rfl (rp rfl rfl (rp rfl rfl (r_v (v_ld tabOk (h.box 0 rfl) (j := 2) rfl rfl rfl) rfl (rp rfl rfl (r_v (v_ld tabOk (h.box 0 rfl) (j := 1) rfl rfl rfl) rfl (rp rfl rfl (r_v (v_build tabOk [0, 1, 2, 3] [.const (.int .i64 (-1)), .tmp 50, .tmp 52, .tmp 55] rfl rfl rfl rfl rfl rfl rfl rfl) rfl (r_bslice tabOk [.tmp 56] _ ([(⟨(-1), i3, y3.Net, (y3.Dir == 1)⟩ : Tplace)] : List Tplace) h rfl rfl rfl rfl rfl rfl rfl rfl rfl ⟨(mkR_Tplace (⟨(-1), i3, y3.Net, (y3.Dir == 1)⟩ : Tplace)), trivial⟩ rfl ?_))))))))))
    intro w11 p10 S6 h
    obtain ⟨x5, hx2, hF⟩ := bindS hF
    obtain ⟨g2, hx2⟩ := appS_some hx2
    refine r_appE tabOk 2 h rfl (h.sl 0 rfl).1 (h.sl 0 rfl).2 rfl rfl rfl rfl rfl rfl rfl rfl rfl g2 hx2 rfl ?_
    intro w12 p11 k9 S7 h
    refine rp rfl rfl (r_nil (r_blk (r_region (rp rfl rfl (rp rfl rfl (r_nil ?_))))))
    replace h := h.pick [2] rfl
    exact r_back m3 [(3, _), (42, _), (43, _), (44, _)] (Nat.lt_succ_self m3) ⟨rfl, rfl, rfl, rfl, trivial⟩ ⟨_, _, _, _, _, _, hF, rfl, h⟩
  refine r_exit rfl ?_
  obtain rfl := someI hF; replace hF := hK3
  refine r_seq (r_region (rp rfl rfl (rp rfl rfl (r_nil ?_))))
  obtain rfl := someI hF
  exact r_retV tabOk (ρ := (List Tplace)) [GoT.v (List Tplace) [.slice p9 x4.length k8]] h ⟨rfl, trivial⟩ (PV.done h (pv_one (po_own 0 h rfl)))

def impl_Wire_isTree_L1 (a_w : TWire) : Nat → Int → Option (Flow Bool Int)
  | 0, _ => none
  | n + 1, i1 =>
    bif decide (i1 < (a_w.Parent.length : Int)) then
      (idx a_w.Parent i1).bind fun y1 =>
      bif (i1 == 0) then
        bif (y1 != (-1)) then
          some (.ret false)
        else
          (idx a_w.Res 0).bind fun y2 =>
          bif (y2 != 0) then
            some (.ret false)
          else
            bif decide (i1 > 0) then
              (impl_within n y1 0 (W64 (i1 - 1))).bind fun r1 =>
              bif (!r1) then
                some (.ret false)
              else
                impl_Wire_isTree_L1 a_w n (W64 (i1 + 1))
            else
              impl_Wire_isTree_L1 a_w n (W64 (i1 + 1))
      else
        bif decide (i1 > 0) then
          (impl_within n y1 0 (W64 (i1 - 1))).bind fun r2 =>
          bif (!r2) then
            some (.ret false)
          else
            impl_Wire_isTree_L1 a_w n (W64 (i1 + 1))
        else
          impl_Wire_isTree_L1 a_w n (W64 (i1 + 1))
    else
      some (.nxt i1)

def impl_Wire_isTree (n : Nat) (a_w : TWire) : Option Bool :=
  (impl_Wire_isTree_L1 a_w n 0).bind fun o => match o with
  | .ret r => some r
  | .nxt _ =>
    some true

theorem impl_Wire_isTree_ok {n : Nat} {w : World} {a_w : TWire} {cs1 : List Value} (ha1 : GoT.R w (old w) a_w cs1) {r : Bool} (hF : impl_Wire_isTree n a_w = some r) : RetV Tryz.prog 133 [GoT.v TWire cs1] w r := by
  obtain ⟨p1, k1, p2, k2, p3, k3, p4, k4, rfl, s1, s2, s3, s4⟩ := open_TWire ha1
  refine retV_of_run Tryz.func133 rfl (m := 38) rfl rfl (fun h => ?_)
  rw [impl_Wire_isTree] at hF
  refine r_seq (r_region (r_box h rfl rfl ?_))
  intro w1 bb1 h
  refine rp rfl rfl (r_nil (r_seq (r_seq (r_region (rp rfl rfl (r_v (v_ld tabOk (h.box 0 rfl) (j := 0) rfl rfl rfl) rfl (rp rfl rfl (rp rfl rfl (r_nil ?_)))))))))
  obtain ⟨o1, hF, hK1⟩ := bindS hF
  refine r_block (r_sub [(1, _), (6, _), (7, _), (8, _)] ⟨rfl, rfl, rfl, rfl, trivial⟩ ?_)
  refine r_loop (fun m e w' => ∃ (i1 : Int), impl_Wire_isTree_L1 a_w m i1 = some o1 ∧ e = [(1, .pointer (some ⟨bb1, 0, none⟩)), (6, .slice p1 a_w.Parent.length k1), (7, .int .i64 (a_w.Parent.length : Int)), (8, .int .i64 i1)] ∧ SH w w' [Ch.box bb1 [.slice p1 a_w.Parent.length k1, .slice p2 a_w.Res.length k2, .slice p3 a_w.Cap.length k3, .slice p4 a_w.Sink.length k4] 116]) n ⟨_, hF, rfl, h⟩ ?_
  rintro m1 e1 w2 ⟨i1, hF, rfl, h⟩
  rcases m1 with _ | m1
  · rw [impl_Wire_isTree_L1] at hF
    cases hF
  rw [impl_Wire_isTree_L1] at hF
  refine r_seq (r_region (rp rfl rfl (r_nil (r_seq ?_))))
  refine r_if rfl hF (fun hF => ?_) (fun hF => ?_)
  · refine r_skip (r_seq (r_block (r_seq (r_region (rp rfl rfl ?_)))))
    obtain ⟨y1, hy1, hF⟩ := bindS hF
    have he1 := idx_some hy1
    obtain ⟨b1, o_1, q1, cs2, hp1, hq1, -, hr1, hc2⟩ := s1.at hy1
    obtain rfl := hr1
    refine r_v (v_ix tabOk hp1 hq1 ⟨he1.1, he1.2.1⟩ rfl rfl rfl rfl rfl rfl) rfl (r_v (v_ld tabOk (hc2.below h.below) (j := 0) rfl rfl rfl) rfl (rp rfl rfl (rp rfl rfl (r_nil (r_seq (r_region (rp rfl rfl (rp rfl rfl (rp rfl rfl ?_)))))))))
    by_cases hc3 : (i1 == 0) = true
    · replace hF := bifT hc3 hF
      refine r_setT hc3 (t := 15) rfl (r_wanted rfl (rp rfl rfl (r_wanted rfl (rp rfl rfl (r_wanted rfl (rp rfl rfl ?_))))))
      by_cases hc4 : (y1 != (-1)) = true
      · replace hF := bifT hc4 hF
        refine r_setT hc4 (t := 18) rfl (r_not rfl rfl rfl (r_not rfl rfl rfl (r_not rfl rfl rfl (r_not rfl rfl rfl (r_not rfl rfl rfl (r_wanted rfl (rp rfl rfl (rp rfl rfl (rp rfl rfl (r_not rfl rfl rfl (r_not rfl rfl rfl ?_)))))))))))
        refine r_not rfl rfl rfl (r_not rfl rfl rfl (r_not rfl rfl rfl (r_not rfl rfl rfl (r_not rfl rfl rfl (r_not rfl rfl rfl (r_not rfl rfl rfl (rp rfl rfl (r_nil (r_condT rfl rfl (r_seq (r_region ?_)))))))))))
        refine rp rfl rfl (r_nil ?_)
        obtain rfl := someI hF; replace hF := hK1
        exact r_rB tabOk h hF ⟨rfl, trivial⟩
      replace hc4 := Bool.eq_false_iff.2 hc4
      replace hF := bifF hc4 hF
      refine r_setF hc4 (t := 18) rfl (r_wanted rfl (rp rfl rfl (r_wanted rfl (r_v (v_ld tabOk (h.box 0 rfl) (j := 1) rfl rfl rfl) rfl (r_wanted rfl ?_)))))
      obtain ⟨y2, hy2, hF⟩ := bindS hF
      have he2 := idx_some hy2
      obtain ⟨b2, o_2, q2, cs3, hp2, hq2, -, hr2, hc5⟩ := s2.at hy2
      obtain rfl := hr2
      refine r_v (v_ix tabOk hp2 hq2 ⟨he2.1, he2.2.1⟩ rfl rfl rfl rfl rfl rfl) rfl (r_wanted rfl (r_v (v_ld tabOk (hc5.below h.below) (j := 0) rfl rfl rfl) rfl (r_wanted rfl (rp rfl rfl (r_wanted rfl (rp rfl rfl (rp rfl rfl (rp rfl rfl ?_))))))))
      by_cases hc6 : (y2 != 0) = true
      · replace hF := bifT hc6 hF
        refine r_setT hc6 (t := 26) rfl (r_not rfl rfl rfl (r_not rfl rfl rfl (r_not rfl rfl rfl (r_not rfl rfl rfl (r_not rfl rfl rfl (r_not rfl rfl rfl (r_not rfl rfl rfl (r_not rfl rfl rfl (r_not rfl rfl rfl (rp rfl rfl (r_nil ?_)))))))))))
        refine r_condT rfl rfl (r_seq (r_region (rp rfl rfl (r_nil ?_))))
        obtain rfl := someI hF; replace hF := hK1
        exact r_rB tabOk h hF ⟨rfl, trivial⟩
      replace hc6 := Bool.eq_false_iff.2 hc6
      replace hF := bifF hc6 hF
      refine r_setF hc6 (t := 26) rfl (r_wanted rfl (rp rfl rfl (r_wanted rfl (rp rfl rfl (r_wanted rfl (rp rfl rfl ?_))))))
      by_cases hc7 : (decide (i1 > 0)) = true
      · replace hF := bifT hc7 hF
        refine r_setT hc7 (t := 29) rfl (r_wanted rfl (rp rfl rfl (r_wanted rfl (rp rfl rfl (r_wanted rfl (rp rfl rfl (r_wanted rfl ?_)))))))
        obtain ⟨r1, hr3, hF⟩ := bindS hF
        refine r_callB r1 h call90 (impl_within_ok hr3) rfl rfl rfl rfl ?_
        intro w3 h
        refine r_wanted rfl (rp rfl rfl (r_wanted rfl (rp rfl rfl (rp rfl rfl (r_nil ?_)))))
        refine r_if rfl hF (fun hF => ?_) (fun hF => ?_)
        · refine r_seq (r_region (rp rfl rfl (r_nil ?_)))
          obtain rfl := someI hF; replace hF := hK1
          exact r_rB tabOk h hF ⟨rfl, trivial⟩
        exact r_skip (r_blk (r_region (rp rfl rfl (rp rfl rfl (r_nil (r_back m1 [(1, _), (6, _), (7, _), (8, _)] (Nat.lt_succ_self m1) ⟨rfl, rfl, rfl, rfl, trivial⟩ ⟨_, hF, rfl, h⟩))))))
      replace hc7 := Bool.eq_false_iff.2 hc7
      replace hF := bifF hc7 hF
      refine r_setF hc7 (t := 29) rfl (r_not rfl rfl rfl (r_not rfl rfl rfl (r_not rfl rfl rfl (r_not rfl rfl rfl (r_not rfl rfl rfl (r_wanted rfl (rp rfl rfl (rp rfl rfl (r_nil (r_condF rfl rfl (r_skip ?_)))))))))))
      exact r_blk (r_region (rp rfl rfl (rp rfl rfl (r_nil (r_back m1 [(1, _), (6, _), (7, _), (8, _)] (Nat.lt_succ_self m1) ⟨rfl, rfl, rfl, rfl, trivial⟩ ⟨_, hF, rfl, h⟩)))))
    replace hc3 := Bool.eq_false_iff.2 hc3
    replace hF := bifF hc3 hF
    refine r_setF hc3 (t := 15) rfl (r_not rfl rfl rfl (r_not rfl rfl rfl (r_not rfl rfl rfl (r_not rfl rfl rfl (r_not rfl rfl rfl (r_not rfl rfl rfl (r_not rfl rfl rfl (r_not rfl rfl rfl (r_not rfl rfl rfl (rp rfl rfl (rp rfl rfl ?_)))))))))))
    refine r_wanted rfl (rp rfl rfl (r_wanted rfl (rp rfl rfl (r_wanted rfl (rp rfl rfl ?_)))))
    by_cases hc9 : (decide (i1 > 0)) = true
    · replace hF := bifT hc9 hF
      refine r_setT hc9 (t := 29) rfl (r_wanted rfl (rp rfl rfl (r_wanted rfl (rp rfl rfl (r_wanted rfl (rp rfl rfl (r_wanted rfl ?_)))))))
      obtain ⟨r2, hr4, hF⟩ := bindS hF
      refine r_callB r2 h call90 (impl_within_ok hr4) rfl rfl rfl rfl ?_
      intro w4 h
      refine r_wanted rfl (rp rfl rfl (r_wanted rfl (rp rfl rfl (rp rfl rfl (r_nil ?_)))))
      refine r_if rfl hF (fun hF => ?_) (fun hF => ?_)
      · refine r_seq (r_region (rp rfl rfl (r_nil ?_)))
        obtain rfl := someI hF; replace hF := hK1
        exact r_rB tabOk h hF ⟨rfl, trivial⟩
      exact r_skip (r_blk (r_region (rp rfl rfl (rp rfl rfl (r_nil (r_back m1 [(1, _), (6, _), (7, _), (8, _)] (Nat.lt_succ_self m1) ⟨rfl, rfl, rfl, rfl, trivial⟩ ⟨_, hF, rfl, h⟩))))))
    replace hc9 := Bool.eq_false_iff.2 hc9
    replace hF := bifF hc9 hF
    refine r_setF hc9 (t := 29) rfl (r_not rfl rfl rfl (r_not rfl rfl rfl (r_not rfl rfl rfl (r_not rfl rfl rfl (r_not rfl rfl rfl (r_wanted rfl (rp rfl rfl (rp rfl rfl (r_nil (r_condF rfl rfl (r_skip ?_)))))))))))
    exact r_blk (r_region (rp rfl rfl (rp rfl rfl (r_nil (r_back m1 [(1, _), (6, _), (7, _), (8, _)] (Nat.lt_succ_self m1) ⟨rfl, rfl, rfl, rfl, trivial⟩ ⟨_, hF, rfl, h⟩)))))
  refine r_exit rfl ?_
  obtain rfl := someI hF; replace hF := hK1
  exact r_seq (r_region (rp rfl rfl (r_nil (r_rB tabOk h hF ⟨rfl, trivial⟩))))

def impl_IsWire (n : Nat) (a_w : TWire) (sinks : Int) : Option Bool :=
  (impl_length_int64 n a_w.Parent).bind fun r1 =>
  (impl_within n r1 1 8).bind fun r2 =>
  bif r2 then
    (impl_length_int64 n a_w.Res).bind fun r3 =>
    bif (r3 == r1) then
      (impl_length_int64 n a_w.Cap).bind fun r4 =>
      bif (r4 == r1) then
        (impl_Wire_isTree n a_w).bind fun r5 =>
        bif r5 then
          (impl_areWithin n a_w.Res 0 1000).bind fun r6 =>
          bif r6 then
            (impl_areWithin n a_w.Cap 0 500).bind fun r7 =>
            bif r7 then
              (impl_length_int64 n a_w.Sink).bind fun r8 =>
              bif (r8 == sinks) then
                (impl_areWithin n a_w.Sink 0 (W64 (r1 - 1))).bind fun r9 =>
                some r9
              else
                some false
            else
              some false
          else
            some false
        else
          some false
      else
        some false
    else
      some false
  else
    some false

theorem impl_IsWire_ok {n : Nat} {w : World} {a_w : TWire} {sinks : Int} {cs1 : List Value} (ha1 : GoT.R w (old w) a_w cs1) {r : Bool} (hF : impl_IsWire n a_w sinks = some r) : RetV Tryz.prog 80 [GoT.v TWire cs1, .int .i64 sinks] w r := by
  obtain ⟨p1, k1, p2, k2, p3, k3, p4, k4, rfl, s1, s2, s3, s4⟩ := open_TWire ha1
  refine retV_of_run Tryz.func80 rfl (m := 53) rfl rfl (fun h => ?_)
  rw [impl_IsWire] at hF
  refine r_seq (r_region (r_box h rfl rfl ?_))
  intro w1 bb1 h
  refine rp rfl rfl (r_nil (r_seq (r_region (rp rfl rfl (r_v (v_ld tabOk (h.box 0 rfl) (j := 0) rfl rfl rfl) rfl ?_)))))
  obtain ⟨r1, hr1, hF⟩ := bindS hF
  refine r_callI r1 h call101 (impl_length_int64_ok ⟨_, _, rfl, (h.oldS s1)⟩ hr1) rfl rfl rfl rfl ?_
  intro w2 h
  refine rp rfl rfl (r_nil (r_seq (r_region (rp rfl rfl ?_))))
  obtain ⟨r2, hr2, hF⟩ := bindS hF
  refine r_callB r2 h call90 (impl_within_ok hr2) rfl rfl rfl rfl ?_
  intro w3 h
  refine rp rfl rfl ?_
  by_cases hc1 : r2 = true
  · replace hF := bifT hc1 hF
    refine r_setT hc1 (t := 11) rfl (r_wanted rfl (rp rfl rfl (r_wanted rfl (r_v (v_ld tabOk (h.box 0 rfl) (j := 1) rfl rfl rfl) rfl (r_wanted rfl ?_)))))
    obtain ⟨r3, hr3, hF⟩ := bindS hF
    refine r_callI r3 h call101 (impl_length_int64_ok ⟨_, _, rfl, (h.oldS s2)⟩ hr3) rfl rfl rfl rfl ?_
    intro w4 h
    refine r_wanted rfl (rp rfl rfl (r_wanted rfl (rp rfl rfl (rp rfl rfl (rp rfl rfl ?_)))))
    by_cases hc2 : (r3 == r1) = true
    · replace hF := bifT hc2 hF
      refine r_setT hc2 (t := 18) rfl (r_wanted rfl (rp rfl rfl (r_wanted rfl (r_v (v_ld tabOk (h.box 0 rfl) (j := 2) rfl rfl rfl) rfl (r_wanted rfl ?_)))))
      obtain ⟨r4, hr4, hF⟩ := bindS hF
      refine r_callI r4 h call101 (impl_length_int64_ok ⟨_, _, rfl, (h.oldS s3)⟩ hr4) rfl rfl rfl rfl ?_
      intro w5 h
      refine r_wanted rfl (rp rfl rfl (r_wanted rfl (rp rfl rfl (rp rfl rfl (rp rfl rfl ?_)))))
      by_cases hc3 : (r4 == r1) = true
      · replace hF := bifT hc3 hF
        refine r_setT hc3 (t := 25) rfl (r_wanted rfl (r_v (v_ld tabOk (h.box 0 rfl) (j := 0) rfl rfl rfl) rfl (r_wanted rfl ?_)))
        obtain ⟨r5, hr5, hF⟩ := bindS hF
        refine r_callB r5 h call133 (impl_Wire_isTree_ok (h.old ha1) hr5) rfl rfl rfl rfl ?_
        intro w6 h
        refine rp rfl rfl (rp rfl rfl ?_)
        by_cases hc4 : r5 = true
        · replace hF := bifT hc4 hF
          refine r_setT hc4 (t := 29) rfl (r_wanted rfl (rp rfl rfl (r_wanted rfl (r_v (v_ld tabOk (h.box 0 rfl) (j := 1) rfl rfl rfl) rfl (r_wanted rfl ?_)))))
          obtain ⟨r6, hr6, hF⟩ := bindS hF
          refine r_callB r6 h call104 (impl_areWithin_ok ⟨_, _, rfl, (h.oldS s2)⟩ hr6) rfl rfl rfl rfl ?_
          intro w7 h
          refine rp rfl rfl (rp rfl rfl ?_)
          by_cases hc5 : r6 = true
          · replace hF := bifT hc5 hF
            refine r_setT hc5 (t := 34) rfl (r_wanted rfl (rp rfl rfl (r_wanted rfl (r_v (v_ld tabOk (h.box 0 rfl) (j := 2) rfl rfl rfl) rfl (r_wanted rfl ?_)))))
            obtain ⟨r7, hr7, hF⟩ := bindS hF
            refine r_callB r7 h call104 (impl_areWithin_ok ⟨_, _, rfl, (h.oldS s3)⟩ hr7) rfl rfl rfl rfl ?_
            intro w8 h
            refine rp rfl rfl (rp rfl rfl ?_)
            by_cases hc6 : r7 = true
            · replace hF := bifT hc6 hF
              refine r_setT hc6 (t := 39) rfl (r_wanted rfl (rp rfl rfl (r_wanted rfl (r_v (v_ld tabOk (h.box 0 rfl) (j := 3) rfl rfl rfl) rfl (r_wanted rfl ?_)))))
              obtain ⟨r8, hr8, hF⟩ := bindS hF
              refine r_callI r8 h call101 (impl_length_int64_ok ⟨_, _, rfl, (h.oldS s4)⟩ hr8) rfl rfl rfl rfl ?_
              intro w9 h
              refine r_wanted rfl (rp rfl rfl (r_wanted rfl (rp rfl rfl (rp rfl rfl (rp rfl rfl ?_)))))
              by_cases hc7 : (r8 == sinks) = true
              · replace hF := bifT hc7 hF
                refine r_setT hc7 (t := 46) rfl (r_wanted rfl (rp rfl rfl (r_wanted rfl (r_v (v_ld tabOk (h.box 0 rfl) (j := 3) rfl rfl rfl) rfl (r_wanted rfl (rp rfl rfl (r_wanted rfl (rp rfl rfl (r_wanted rfl ?_)))))))))
                obtain ⟨r9, hr9, hF⟩ := bindS hF
                refine r_callB r9 h call104 (impl_areWithin_ok ⟨_, _, rfl, (h.oldS s4)⟩ hr9) rfl rfl rfl rfl ?_
                intro w10 h
                exact rp rfl rfl (rp rfl rfl (r_nil (r_rB tabOk h hF ⟨rfl, trivial⟩)))
              replace hc7 := Bool.eq_false_iff.2 hc7
              replace hF := bifF hc7 hF
              exact r_setF hc7 (t := 46) rfl (r_not rfl rfl rfl (r_not rfl rfl rfl (r_not rfl rfl rfl (r_not rfl rfl rfl (r_not rfl rfl rfl (rp rfl rfl (rp rfl rfl (r_nil (r_rB tabOk h hF ⟨rfl, trivial⟩)))))))))
            replace hc6 := Bool.eq_false_iff.2 hc6
            replace hF := bifF hc6 hF
            refine r_setF hc6 (t := 39) rfl (r_not rfl rfl rfl (r_not rfl rfl rfl (r_not rfl rfl rfl (r_not rfl rfl rfl (r_not rfl rfl rfl (rp rfl rfl (rp rfl rfl (r_not rfl rfl rfl (r_not rfl rfl rfl (r_not rfl rfl rfl (r_not rfl rfl rfl ?_)))))))))))
            exact r_not rfl rfl rfl (rp rfl rfl (rp rfl rfl (r_nil (r_rB tabOk h hF ⟨rfl, trivial⟩))))
          replace hc5 := Bool.eq_false_iff.2 hc5
          replace hF := bifF hc5 hF
          refine r_setF hc5 (t := 34) rfl (r_not rfl rfl rfl (r_not rfl rfl rfl (r_not rfl rfl rfl (rp rfl rfl (rp rfl rfl (r_not rfl rfl rfl (r_not rfl rfl rfl (r_not rfl rfl rfl (r_not rfl rfl rfl (r_not rfl rfl rfl (rp rfl rfl ?_)))))))))))
          exact rp rfl rfl (r_not rfl rfl rfl (r_not rfl rfl rfl (r_not rfl rfl rfl (r_not rfl rfl rfl (r_not rfl rfl rfl (rp rfl rfl (rp rfl rfl (r_nil (r_rB tabOk h hF ⟨rfl, trivial⟩)))))))))
        replace hc4 := Bool.eq_false_iff.2 hc4
        replace hF := bifF hc4 hF
        refine r_setF hc4 (t := 29) rfl (r_not rfl rfl rfl (r_not rfl rfl rfl (r_not rfl rfl rfl (rp rfl rfl (rp rfl rfl (r_not rfl rfl rfl (r_not rfl rfl rfl (r_not rfl rfl rfl (rp rfl rfl (rp rfl rfl (r_not rfl rfl rfl ?_)))))))))))
        refine r_not rfl rfl rfl (r_not rfl rfl rfl (r_not rfl rfl rfl (r_not rfl rfl rfl (rp rfl rfl (rp rfl rfl (r_not rfl rfl rfl (r_not rfl rfl rfl (r_not rfl rfl rfl (r_not rfl rfl rfl (r_not rfl rfl rfl (rp rfl rfl ?_)))))))))))
        exact rp rfl rfl (r_nil (r_rB tabOk h hF ⟨rfl, trivial⟩))
      replace hc3 := Bool.eq_false_iff.2 hc3
      replace hF := bifF hc3 hF
      refine r_setF hc3 (t := 25) rfl (r_not rfl rfl rfl (r_not rfl rfl rfl (rp rfl rfl (rp rfl rfl (r_not rfl rfl rfl (r_not rfl rfl rfl (r_not rfl rfl rfl (rp rfl rfl (rp rfl rfl (r_not rfl rfl rfl (r_not rfl rfl rfl ?_)))))))))))
      refine r_not rfl rfl rfl (rp rfl rfl (rp rfl rfl (r_not rfl rfl rfl (r_not rfl rfl rfl (r_not rfl rfl rfl (r_not rfl rfl rfl (r_not rfl rfl rfl (rp rfl rfl (rp rfl rfl (r_not rfl rfl rfl (r_not rfl rfl rfl ?_)))))))))))
      exact r_not rfl rfl rfl (r_not rfl rfl rfl (r_not rfl rfl rfl (rp rfl rfl (rp rfl rfl (r_nil (r_rB tabOk h hF ⟨rfl, trivial⟩))))))
    replace hc2 := Bool.eq_false_iff.2 hc2
    replace hF := bifF hc2 hF
    refine r_setF hc2 (t := 18) rfl (r_not rfl rfl rfl (r_not rfl rfl rfl (r_not rfl rfl rfl (r_not rfl rfl rfl (r_not rfl rfl rfl (rp rfl rfl (rp rfl rfl (r_not rfl rfl rfl (r_not rfl rfl rfl (rp rfl rfl (rp rfl rfl ?_)))))))))))
    refine r_not rfl rfl rfl (r_not rfl rfl rfl (r_not rfl rfl rfl (rp rfl rfl (rp rfl rfl (r_not rfl rfl rfl (r_not rfl rfl rfl (r_not rfl rfl rfl (rp rfl rfl (rp rfl rfl (r_not rfl rfl rfl (r_not rfl rfl rfl ?_)))))))))))
    refine r_not rfl rfl rfl (r_not rfl rfl rfl (r_not rfl rfl rfl (rp rfl rfl (rp rfl rfl (r_not rfl rfl rfl (r_not rfl rfl rfl (r_not rfl rfl rfl (r_not rfl rfl rfl (r_not rfl rfl rfl (rp rfl rfl (rp rfl rfl ?_)))))))))))
    exact r_nil (r_rB tabOk h hF ⟨rfl, trivial⟩)
  replace hc1 := Bool.eq_false_iff.2 hc1
  replace hF := bifF hc1 hF
  refine r_setF hc1 (t := 11) rfl (r_not rfl rfl rfl (r_not rfl rfl rfl (r_not rfl rfl rfl (r_not rfl rfl rfl (r_not rfl rfl rfl (rp rfl rfl (rp rfl rfl (r_not rfl rfl rfl (r_not rfl rfl rfl (r_not rfl rfl rfl (r_not rfl rfl rfl ?_)))))))))))
  refine r_not rfl rfl rfl (rp rfl rfl (rp rfl rfl (r_not rfl rfl rfl (r_not rfl rfl rfl (rp rfl rfl (rp rfl rfl (r_not rfl rfl rfl (r_not rfl rfl rfl (r_not rfl rfl rfl (rp rfl rfl (rp rfl rfl ?_)))))))))))
  refine r_not rfl rfl rfl (r_not rfl rfl rfl (r_not rfl rfl rfl (rp rfl rfl (rp rfl rfl (r_not rfl rfl rfl (r_not rfl rfl rfl (r_not rfl rfl rfl (r_not rfl rfl rfl (r_not rfl rfl rfl (rp rfl rfl (rp rfl rfl ?_)))))))))))
  exact r_not rfl rfl rfl (r_not rfl rfl rfl (r_not rfl rfl rfl (r_not rfl rfl rfl (r_not rfl rfl rfl (rp rfl rfl (rp rfl rfl (r_nil (r_rB tabOk h hF ⟨rfl, trivial⟩))))))))

def impl_IsBlock_L2 (b : TBlock) (x2 : (List Int)) : Nat → Int → Option (Flow Bool Int)
  | 0, _ => none
  | n + 1, i2 =>
    bif decide (i2 < (b.Wires.length : Int)) then
      (idx b.Wires i2).bind fun y4 =>
      (idx x2 i2).bind fun y5 =>
      (impl_IsWire n y4 y5).bind fun r2 =>
      bif (!r2) then
        some (.ret false)
      else
        impl_IsBlock_L2 b x2 n (W64 (i2 + 1))
    else
      some (.nxt i2)

def impl_IsBlock_L1 (r1 : (List Tplace)) : Nat → (List Int) → Int → Option ((List Int) × Int)
  | 0, _, _ => none
  | n + 1, x2, i1 =>
    bif decide (i1 < (r1.length : Int)) then
      (idx r1 i1).bind fun y1 =>
      bif (!y1.drives) then
        (idx x2 y1.net).bind fun y2 =>
        (idx x2 y1.net).bind fun _ =>
        impl_IsBlock_L1 r1 n (setS x2 y1.net (W64 (y2 + 1))) (W64 (i1 + 1))
      else
        impl_IsBlock_L1 r1 n x2 (W64 (i1 + 1))
    else
      some (x2, i1)

def impl_IsBlock (n : Nat) (b : TBlock) : Option Bool :=
  (
    (impl_IsDesign n (⟨b.Library.Cells⟩ : TLibrary) (⟨b.Design.Instances, b.Design.Nets, b.Design.Ports⟩ : TDesign)).bind fun r3 =>
    bif (!r3) then
      some true
    else
      some ((b.Wires.length : Int) != (b.Design.Nets.length : Int))).bind fun b1 =>
  bif b1 then
    some false
  else
    (mkS (b.Wires.length : Int) (0 : Int)).bind fun x1 =>
    (impl_Design_places n (⟨b.Design.Instances, b.Design.Nets, b.Design.Ports⟩ : TDesign)).bind fun r1 =>
    (impl_IsBlock_L1 r1 n x1 0).bind fun o => match o with
    | (x2, _) =>
      (impl_IsBlock_L2 b x2 n 0).bind fun o => match o with
      | .ret r => some r
      | .nxt _ =>
        some true

theorem impl_IsBlock_ok {n : Nat} {w : World} {b : TBlock} {cs1 : List Value} (ha1 : GoT.R w (old w) b cs1) {r : Bool} (hF : impl_IsBlock n b = some r) : RetV Tryz.prog 37 [GoT.v TBlock cs1] w r := by
  obtain ⟨p1, k1, p2, k2, p3, k3, p4, k4, p5, k5, rfl, s1, s2, s3, s4, s5⟩ := open_TBlock ha1
  refine retV_of_run Tryz.func37 rfl (m := 63) rfl rfl (fun h => ?_)
  rw [impl_IsBlock] at hF
  refine r_seq (r_region (r_box h rfl rfl ?_))
  intro w1 bb1 h
  refine rp rfl rfl (r_nil (r_seq (r_seq ?_)))
  obtain ⟨KF1, hKF1, o3, hF, hK3⟩ := bindE hF
  refine r_cut (fun e w' => ∃ (b1 : Bool), KF1 b1 = some r ∧ e = [(1, .pointer (some ⟨bb1, 0, none⟩)), (23, .bool b1)] ∧ SH w w' [Ch.box bb1 [.slice p1 b.Library.Cells.length k1, .slice p2 b.Design.Instances.length k2, .slice p3 b.Design.Nets.length k3, .slice p4 b.Design.Ports.length k4, .slice p5 b.Wires.length k5] 44]) ?_ ?_
  · refine r_region (rp rfl rfl (r_v (v_ld tabOk (h.box 0 rfl) (j := 0) rfl rfl rfl) rfl (rp rfl rfl (r_v (v_ld tabOk (h.box 0 rfl) (j := 1) rfl rfl rfl) rfl ?_))))
    obtain ⟨r3, hr8, hF⟩ := bindS hF
    refine r_callB r3 h call78 (impl_IsDesign_ok (mkR_TLibrary (⟨b.Library.Cells⟩ : TLibrary) (h.oldS s1)) (mkR_TDesign (⟨b.Design.Instances, b.Design.Nets, b.Design.Ports⟩ : TDesign) (h.oldS s2) (h.oldS s3) (h.oldS s4)) hr8) rfl rfl rfl rfl ?_
    intro w12 h
    refine rp rfl rfl (rp rfl rfl ?_)
    by_cases hc11 : (!r3) = true
    · replace hF := bifT hc11 hF
      refine r_setT hc11 (t := 14) rfl (r_not rfl rfl rfl (r_not rfl rfl rfl (r_not rfl rfl rfl (r_not rfl rfl rfl (r_not rfl rfl rfl (r_not rfl rfl rfl (r_not rfl rfl rfl (r_not rfl rfl rfl (rp rfl rfl (r_nil ?_))))))))))
      obtain rfl := someI hF
      exact r_cutgoal [(1, _), (23, _)] ⟨rfl, rfl, trivial⟩ ⟨_, hK3, rfl, h⟩
    replace hc11 := Bool.eq_false_iff.2 hc11
    replace hF := bifF hc11 hF
    refine r_setF hc11 (t := 14) rfl (r_wanted rfl (rp rfl rfl (r_wanted rfl (r_v (v_ld tabOk (h.box 0 rfl) (j := 4) rfl rfl rfl) rfl (r_wanted rfl (rp rfl rfl (r_wanted rfl (rp rfl rfl (r_wanted rfl (rp rfl rfl (r_wanted rfl ?_)))))))))))
    refine r_v (v_ld tabOk (h.box 0 rfl) (j := 2) rfl rfl rfl) rfl (r_wanted rfl (rp rfl rfl (r_wanted rfl (rp rfl rfl (rp rfl rfl (r_nil ?_))))))
    obtain rfl := someI hF
    exact r_cutgoal [(1, _), (23, _)] ⟨rfl, rfl, trivial⟩ ⟨_, hK3, rfl, h⟩
  rintro e3 w13 ⟨b1, hF, rfl, h⟩
  subst hKF1
  refine r_if rfl hF (fun hF => ?_) (fun hF => ?_)
  · exact r_seq (r_region (rp rfl rfl (r_nil (r_rB tabOk h hF ⟨rfl, trivial⟩))))
  refine r_skip (r_seq (r_region (rp rfl rfl (r_v (v_ld tabOk (h.box 0 rfl) (j := 4) rfl rfl rfl) rfl (rp rfl rfl ?_)))))
  obtain ⟨x1, hx1, hF⟩ := bindS hF
  obtain ⟨g1, g2, hx1⟩ := mkS_some hx1
  refine r_makeE tabOk Int h rfl rfl rfl rfl rfl rfl rfl rfl rfl g1 g2 hx1 rfl ?_
  intro w2 S1 p6 h
  refine rp rfl rfl (r_nil (r_seq (r_seq (r_region (rp rfl rfl (r_v (v_ld tabOk (h.box 1 rfl) (j := 1) rfl rfl rfl) rfl ?_))))))
  obtain ⟨r1, hr1, hF⟩ := bindS hF
  refine r_callL r1 h call79 (impl_Design_places_ok (mkR_TDesign (⟨b.Design.Instances, b.Design.Nets, b.Design.Ports⟩ : TDesign) (h.oldS s2) (h.oldS s3) (h.oldS s4)) hr1) rfl rfl rfl rfl ?_
  intro w3 S2 p7 k6 h
  refine rp rfl rfl (rp rfl rfl (r_nil ?_))
  obtain ⟨o1, hF, hK1⟩ := bindS hF
  refine r_block (r_sub [(1, _), (3, _), (30, _), (31, _), (32, _)] ⟨rfl, rfl, rfl, rfl, rfl, trivial⟩ ?_)
  refine r_loop (fun m e w' => ∃ (x2 : (List Int)) (i1 : Int), impl_IsBlock_L1 r1 m x2 i1 = some o1 ∧ e = [(1, .pointer (some ⟨bb1, 0, none⟩)), (3, .slice p6 x1.length x1.length), (30, .slice p7 r1.length k6), (31, .int .i64 (r1.length : Int)), (32, .int .i64 i1)] ∧ SH w w' [Ch.own S2 (r1 : List Tplace) [.slice p7 r1.length k6], Ch.own S1 (x2 : List Int) [.slice p6 x1.length x1.length], Ch.box bb1 [.slice p1 b.Library.Cells.length k1, .slice p2 b.Design.Instances.length k2, .slice p3 b.Design.Nets.length k3, .slice p4 b.Design.Ports.length k4, .slice p5 b.Wires.length k5] 44]) n ⟨_, _, hF, rfl, h⟩ ?_
  rintro m1 e1 w4 ⟨x2, i1, hF, rfl, h⟩
  rcases m1 with _ | m1
  · rw [impl_IsBlock_L1] at hF
    cases hF
  rw [impl_IsBlock_L1] at hF
  refine r_seq (r_region (rp rfl rfl (r_nil (r_seq ?_))))
  refine r_if rfl hF (fun hF => ?_) (fun hF => ?_)
  · refine r_skip (r_seq (r_block (r_seq (r_region ?_))))
    obtain ⟨y1, hy1, hF⟩ := bindS hF
    have he1 := idx_some hy1
    obtain ⟨b2, o_1, q1, cs2, hp1, hq1, -, hr2, hc3⟩ := (h.sl 0 rfl).1.at hy1
    obtain rfl := open_Tplace hr2
    refine r_v (v_ix tabOk hp1 hq1 ⟨he1.1, lt_ln he1.2.1 (h.sl 0 rfl).2⟩ rfl rfl rfl rfl rfl rfl) rfl (r_v (v_ld tabOk hc3 (j := 0) rfl rfl rfl) rfl (r_alloc tabOk h rfl rfl rfl ?_))
    intro w5 bb2 h
    refine r_stbox tabOk 0 h rfl rfl rfl rfl rfl rfl rfl ?_
    intro w6 h
    refine r_nil (r_seq (r_region (rp rfl rfl (r_v (v_ld tabOk (h.box 0 rfl) (j := 3) rfl rfl rfl) rfl (rp rfl rfl (r_nil ?_))))))
    refine r_if rfl hF (fun hF => ?_) (fun hF => ?_)
    · refine r_region (rp rfl rfl (rp rfl rfl (r_v (v_ld tabOk (h.box 0 rfl) (j := 2) rfl rfl rfl) rfl ?_)))
      obtain ⟨y2, hy2, hF⟩ := bindS hF
      have he2 := idx_some hy2
      obtain ⟨b3, o_2, q2, cs3, hp2, hq2, -, hr3, hc5⟩ := (h.sl 2 rfl).1.at hy2
      obtain rfl := hr3
      refine r_v (v_ix tabOk hp2 hq2 ⟨he2.1, lt_ln he2.2.1 (h.sl 2 rfl).2⟩ rfl rfl rfl rfl rfl rfl) rfl (r_v (v_ld tabOk hc5 (j := 0) rfl rfl rfl) rfl (rp rfl rfl ?_))
      obtain ⟨y3, hy3, hF⟩ := bindS hF
      have he3 := idx_some hy3
      obtain ⟨b4, o_3, q3, cs4, hp3, hq3, -, hr4, hc6⟩ := (h.sl 2 rfl).1.at hy3
      obtain rfl := hr4
      refine r_v (v_ix tabOk hp3 hq3 ⟨he3.1, lt_ln he3.2.1 (h.sl 2 rfl).2⟩ rfl rfl rfl rfl rfl rfl) rfl (r_stown tabOk 2 0 (W64 (y2 + 1)) h rfl hy3 hp3 hq3 rfl hc6 rfl rfl rfl rfl rfl rfl rfl ?_)
      intro w7 h
      refine r_nil (r_blk (r_region (rp rfl rfl (rp rfl rfl (r_nil ?_)))))
      replace h := h.pick [1, 2, 3] rfl
      exact r_back m1 [(1, _), (3, _), (30, _), (31, _), (32, _)] (Nat.lt_succ_self m1) ⟨rfl, rfl, rfl, rfl, rfl, trivial⟩ ⟨_, _, hF, rfl, h⟩
    refine r_skip (r_blk (r_region (rp rfl rfl (rp rfl rfl (r_nil ?_)))))
    replace h := h.pick [1, 2, 3] rfl
    exact r_back m1 [(1, _), (3, _), (30, _), (31, _), (32, _)] (Nat.lt_succ_self m1) ⟨rfl, rfl, rfl, rfl, rfl, trivial⟩ ⟨_, _, hF, rfl, h⟩
  refine r_exit rfl ?_
  obtain rfl := someI hF; replace hF := hK1
  refine r_seq (r_seq (r_region (rp rfl rfl (r_v (v_ld tabOk (h.box 2 rfl) (j := 4) rfl rfl rfl) rfl (rp rfl rfl (rp rfl rfl (r_nil ?_)))))))
  obtain ⟨o2, hF, hK2⟩ := bindS hF
  refine r_block ?_
  replace h := h.pick [1] rfl
  refine r_sub [(3, _), (48, _), (49, _), (50, _)] ⟨rfl, rfl, rfl, rfl, trivial⟩ ?_
  refine r_loop (fun m e w' => ∃ (i2 : Int), impl_IsBlock_L2 b x2 m i2 = some o2 ∧ e = [(3, .slice p6 x1.length x1.length), (48, .slice p5 b.Wires.length k5), (49, .int .i64 (b.Wires.length : Int)), (50, .int .i64 i2)] ∧ SH w w' [Ch.own S1 (x2 : List Int) [.slice p6 x1.length x1.length]]) n ⟨_, hF, rfl, h⟩ ?_
  rintro m2 e2 w8 ⟨i2, hF, rfl, h⟩
  rcases m2 with _ | m2
  · rw [impl_IsBlock_L2] at hF
    cases hF
  rw [impl_IsBlock_L2] at hF
  refine r_seq (r_region (rp rfl rfl (r_nil (r_seq ?_))))
  refine r_if rfl hF (fun hF => ?_) (fun hF => ?_)
  · refine r_skip (r_seq (r_block (r_seq (r_region (rp rfl rfl ?_)))))
    obtain ⟨y4, hy4, hF⟩ := bindS hF
    have he4 := idx_some hy4
    obtain ⟨b5, o_4, q4, cs5, hp4, hq4, -, hr5, hc8⟩ := s5.at hy4
    obtain ⟨p8, k7, p9, k8, p10, k9, p11, k10, rfl, s6, s7, s8, s9⟩ := open_TWire hr5
    refine r_v (v_ix tabOk hp4 hq4 ⟨he4.1, he4.2.1⟩ rfl rfl rfl rfl rfl rfl) rfl (r_v (v_ld tabOk (hc8.below h.below) (j := 0) rfl rfl rfl) rfl (r_alloc tabOk h rfl rfl rfl ?_))
    intro w9 bb3 h
    refine rp rfl rfl (r_stbox tabOk 0 h rfl rfl rfl rfl rfl rfl rfl ?_)
    intro w10 h
    replace h : SH _ _ [Ch.box bb3 [.slice p8 y4.Parent.length k7, .slice p9 y4.Res.length k8, .slice p10 y4.Cap.length k9, .slice p11 y4.Sink.length k10] 116, Ch.own S1 (x2 : List Int) [.slice p6 x1.length x1.length]] := h
    refine r_nil (r_seq ?_)
    refine r_draw rfl (by kernel_rfl) ?_
    refine d_v (fun _ hb => v_ld tabOk ((h.box 0 rfl).below hb) (j := 0) rfl rfl rfl) rfl ?_
    refine dp rfl rfl (dp rfl rfl ?_)
    obtain ⟨y5, hy5, hF⟩ := bindS hF
    have he5 := idx_some hy5
    obtain ⟨b6, o_5, q5, cs6, hp5, hq5, -, hr6, hc9⟩ := (h.sl 1 rfl).1.at hy5
    obtain rfl := hr6
    refine d_v (fun _ hb => v_ix tabOk hp5 hq5 ⟨he5.1, lt_ln he5.2.1 (h.sl 1 rfl).2⟩ rfl rfl rfl rfl rfl rfl) rfl ?_
    refine d_v (fun _ hb => v_ld tabOk (hc9.below hb) (j := 0) rfl rfl rfl) rfl ?_
    obtain ⟨r2, hr7, hF⟩ := bindS hF
    refine d_call r2 (vsB _) call80 (fun _ hb => impl_IsWire_ok (mkR_TWire y4 ((h.ext hb).oldS s6) ((h.ext hb).oldS s7) ((h.ext hb).oldS s8) ((h.ext hb).oldS s9)) hr7) rfl rfl rfl rfl ?_
    refine dp rfl rfl ?_
    refine d_nil (fun w11 hb => ?_)
    replace h := h.ext hb
    clear hb
    refine r_if rfl hF (fun hF => ?_) (fun hF => ?_)
    · refine r_seq (r_region (rp rfl rfl (r_nil ?_)))
      obtain rfl := someI hF; replace hF := hK2
      exact r_rB tabOk h hF ⟨rfl, trivial⟩
    refine r_skip (r_blk (r_region (rp rfl rfl (rp rfl rfl (r_nil ?_)))))
    replace h := h.pick [1] rfl
    exact r_back m2 [(3, _), (48, _), (49, _), (50, _)] (Nat.lt_succ_self m2) ⟨rfl, rfl, rfl, rfl, trivial⟩ ⟨_, hF, rfl, h⟩
  refine r_exit rfl ?_
  obtain rfl := someI hF; replace hF := hK2
  exact r_seq (r_region (rp rfl rfl (r_nil (r_rB tabOk h hF ⟨rfl, trivial⟩))))

end Go.Fw
