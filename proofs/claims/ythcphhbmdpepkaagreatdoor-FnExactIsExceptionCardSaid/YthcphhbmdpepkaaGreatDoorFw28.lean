/- By a program of mine (gen.py): for each function a plain function and the proof that the code computes it. -/
import Derived.Test.YthcphhbmdpepkaaGreatDoorA3
import Derived.Test.YthcphhbmdpepkaaGreatDoorFw26

namespace Go.Fw
open Go Go.Proofs
open Go.RowKit (Below)
set_option maxRecDepth 100000
def impl_IsTable (n : Nat) (t : TTable) : Option Bool :=
  (impl_isAxis n t.Slews).bind fun r1 =>
  bif r1 then
    (impl_isAxis n t.Loads).bind fun r2 =>
    bif r2 then
      bif ((t.Values.length : Int) == (W64 ((t.Slews.length : Int) * (t.Loads.length : Int)))) then
        (impl_areWithin n t.Values (-1000000) 1000000).bind fun r3 =>
        some r3
      else
        some false
    else
      some false
  else
    some false

theorem impl_IsTable_ok {n : Nat} {w : World} {t : TTable} {cs1 : List Value} (ha1 : GoT.R w (old w) t cs1) {r : Bool} (hF : impl_IsTable n t = some r) : RetV Tryz.prog 212 [GoT.v TTable cs1] w r := by
  obtain ⟨p1, k1, p2, k2, p3, k3, rfl, s1, s2, s3⟩ := open_TTable ha1
  refine retV_of_run Tryz.func212 rfl (m := 29) rfl rfl (fun h => ?_)
  rw [impl_IsTable] at hF
  refine r_seq (r_region (r_box h rfl rfl ?_))
  intro w1 bb1 h
  refine rp rfl rfl (r_nil (r_seq (r_region (rp rfl rfl (r_v (v_ld tabOk (h.box 0 rfl) (j := 0) rfl rfl rfl) rfl ?_)))))
  obtain ⟨r1, hr1, hF⟩ := bindS hF
  refine r_callB r1 h call221 (impl_isAxis_ok ⟨_, _, rfl, (h.oldS s1)⟩ hr1) rfl rfl rfl rfl ?_
  intro w2 h
  refine rp rfl rfl ?_
  by_cases hc1 : r1 = true
  · replace hF := bifT hc1 hF
    refine r_setT hc1 (t := 6) rfl (r_wanted rfl (rp rfl rfl (r_wanted rfl (r_v (v_ld tabOk (h.box 0 rfl) (j := 1) rfl rfl rfl) rfl (r_wanted rfl ?_)))))
    obtain ⟨r2, hr2, hF⟩ := bindS hF
    refine r_callB r2 h call221 (impl_isAxis_ok ⟨_, _, rfl, (h.oldS s2)⟩ hr2) rfl rfl rfl rfl ?_
    intro w3 h
    refine rp rfl rfl (rp rfl rfl ?_)
    by_cases hc2 : r2 = true
    · replace hF := bifT hc2 hF
      refine r_setT hc2 (t := 11) rfl (r_wanted rfl (rp rfl rfl (r_wanted rfl (r_v (v_ld tabOk (h.box 0 rfl) (j := 2) rfl rfl rfl) rfl (r_wanted rfl (rp rfl rfl (r_wanted rfl (rp rfl rfl (r_wanted rfl (r_v (v_ld tabOk (h.box 0 rfl) (j := 0) rfl rfl rfl) rfl (r_wanted rfl ?_)))))))))))
      refine rp rfl rfl (r_wanted rfl (rp rfl rfl (r_wanted rfl (r_v (v_ld tabOk (h.box 0 rfl) (j := 1) rfl rfl rfl) rfl (r_wanted rfl (rp rfl rfl (r_wanted rfl (rp rfl rfl (r_wanted rfl (rp rfl rfl (rp rfl rfl ?_)))))))))))
      refine rp rfl rfl ?_
      by_cases hc3 : ((t.Values.length : Int) == (W64 ((t.Slews.length : Int) * (t.Loads.length : Int)))) = true
      · replace hF := bifT hc3 hF
        refine r_setT hc3 (t := 24) rfl (r_wanted rfl (rp rfl rfl (r_wanted rfl (r_v (v_ld tabOk (h.box 0 rfl) (j := 2) rfl rfl rfl) rfl (r_wanted rfl ?_)))))
        obtain ⟨r3, hr3, hF⟩ := bindS hF
        refine r_callB r3 h call82 (impl_areWithin_ok ⟨_, _, rfl, (h.oldS s3)⟩ hr3) rfl rfl rfl rfl ?_
        intro w4 h
        exact rp rfl rfl (rp rfl rfl (r_nil (r_rB tabOk h hF ⟨rfl, trivial⟩)))
      replace hc3 := Bool.eq_false_iff.2 hc3
      replace hF := bifF hc3 hF
      exact r_setF hc3 (t := 24) rfl (r_not rfl rfl rfl (r_not rfl rfl rfl (r_not rfl rfl rfl (rp rfl rfl (rp rfl rfl (r_nil (r_rB tabOk h hF ⟨rfl, trivial⟩)))))))
    replace hc2 := Bool.eq_false_iff.2 hc2
    replace hF := bifF hc2 hF
    refine r_setF hc2 (t := 11) rfl (r_not rfl rfl rfl (r_not rfl rfl rfl (r_not rfl rfl rfl (r_not rfl rfl rfl (r_not rfl rfl rfl (r_not rfl rfl rfl (r_not rfl rfl rfl (r_not rfl rfl rfl (r_not rfl rfl rfl (r_not rfl rfl rfl (r_not rfl rfl rfl ?_)))))))))))
    exact rp rfl rfl (rp rfl rfl (r_not rfl rfl rfl (r_not rfl rfl rfl (r_not rfl rfl rfl (rp rfl rfl (rp rfl rfl (r_nil (r_rB tabOk h hF ⟨rfl, trivial⟩))))))))
  replace hc1 := Bool.eq_false_iff.2 hc1
  replace hF := bifF hc1 hF
  refine r_setF hc1 (t := 6) rfl (r_not rfl rfl rfl (r_not rfl rfl rfl (r_not rfl rfl rfl (rp rfl rfl (rp rfl rfl (r_not rfl rfl rfl (r_not rfl rfl rfl (r_not rfl rfl rfl (r_not rfl rfl rfl (r_not rfl rfl rfl (r_not rfl rfl rfl ?_)))))))))))
  refine r_not rfl rfl rfl (r_not rfl rfl rfl (r_not rfl rfl rfl (r_not rfl rfl rfl (r_not rfl rfl rfl (rp rfl rfl (rp rfl rfl (r_not rfl rfl rfl (r_not rfl rfl rfl (r_not rfl rfl rfl (rp rfl rfl (rp rfl rfl ?_)))))))))))
  exact r_nil (r_rB tabOk h hF ⟨rfl, trivial⟩)

def slices_Min_int64_L1 (x : (List Int)) : Nat → Int → Int → Option (Int × Int)
  | 0, _, _ => none
  | n + 1, i1, i2 =>
    bif decide (i2 < (x.length : Int)) then
      (idx x i2).bind fun y2 =>
      slices_Min_int64_L1 x n (if y2 < i1 then y2 else i1) (W64 (i2 + 1))
    else
      some (i1, i2)

def slices_Min_int64 (n : Nat) (x : (List Int)) : Option Int :=
  (
    bif decide ((x.length : Int) < 1) then
      none
    else
      some ()).bind fun _ =>
  (idx x 0).bind fun y1 =>
  (slices_Min_int64_L1 x n y1 1).bind fun o => match o with
  | (i1, _) =>
    some i1

theorem slices_Min_int64_ok {n : Nat} {w : World} {x : (List Int)} {cs1 : List Value} (ha1 : GoT.R w (old w) x cs1) {r : Int} (hF : slices_Min_int64 n x = some r) : RetV Tryz.prog 213 [GoT.v (List Int) cs1] w r := by
  obtain ⟨p1, k1, rfl, s1⟩ := ha1
  refine retV_of_run Tryz.func213 rfl (m := 25) rfl rfl (fun h => ?_)
  rw [slices_Min_int64] at hF
  refine r_seq (r_region (rp rfl rfl (r_nil (r_seq (r_seq (r_region (rp rfl rfl (rp rfl rfl (rp rfl rfl (r_nil ?_))))))))))
  obtain ⟨KF1, hKF1, o2, hF, hK2⟩ := bindE hF
  refine r_cut (fun e w' => KF1 () = some r ∧ e = [(0, .slice p1 x.length k1)] ∧ SH w w' []) ?_ ?_
  · refine r_if rfl hF (fun hF => ?_) (fun hF => ?_)
    · refine r_region ?_
      cases hF
    refine r_skip ?_
    obtain rfl := someI hF
    exact r_cutgoal [(0, _)] ⟨rfl, trivial⟩ ⟨hK2, rfl, h⟩
  rintro e2 w2 ⟨hF, rfl, h⟩
  subst hKF1
  refine r_seq (r_region (rp rfl rfl ?_))
  obtain ⟨y1, hy1, hF⟩ := bindS hF
  have he1 := idx_some hy1
  obtain ⟨b1, o_1, q1, cs2, hp1, hq1, -, hr1, hc1⟩ := s1.at hy1
  obtain rfl := hr1
  refine r_v (v_ix tabOk hp1 hq1 ⟨he1.1, he1.2.1⟩ rfl rfl rfl rfl rfl rfl) rfl (r_v (v_ld tabOk (hc1.below h.below) (j := 0) rfl rfl rfl) rfl (rp rfl rfl (r_nil (r_seq (r_seq (r_region (rp rfl rfl (r_nil ?_))))))))
  obtain ⟨o1, hF, hK1⟩ := bindS hF
  refine r_block (r_sub [(0, _), (3, _), (4, _)] ⟨rfl, rfl, rfl, trivial⟩ ?_)
  refine r_loop (fun m e w' => ∃ (i1 : Int) (i2 : Int), slices_Min_int64_L1 x m i1 i2 = some o1 ∧ e = [(0, .slice p1 x.length k1), (3, .int .i64 i1), (4, .int .i64 i2)] ∧ SH w w' []) n ⟨_, _, hF, rfl, h⟩ ?_
  rintro m1 e1 w1 ⟨i1, i2, hF, rfl, h⟩
  rcases m1 with _ | m1
  · rw [slices_Min_int64_L1] at hF
    cases hF
  rw [slices_Min_int64_L1] at hF
  refine r_seq (r_seq (r_region (rp rfl rfl (rp rfl rfl (rp rfl rfl (rp rfl rfl (r_nil ?_)))))))
  refine r_if rfl hF (fun hF => ?_) (fun hF => ?_)
  · refine r_skip (r_seq (r_block (r_region (rp rfl rfl (rp rfl rfl (rp rfl rfl ?_))))))
    obtain ⟨y2, hy2, hF⟩ := bindS hF
    have he2 := idx_some hy2
    obtain ⟨b2, o_2, q2, cs3, hp2, hq2, -, hr2, hc3⟩ := s1.at hy2
    obtain rfl := hr2
    exact r_v (v_ix tabOk hp2 hq2 ⟨he2.1, he2.2.1⟩ rfl rfl rfl rfl rfl rfl) rfl (r_v (v_ld tabOk (hc3.below h.below) (j := 0) rfl rfl rfl) rfl (rp rfl rfl (rp rfl rfl (r_nil (r_blk (r_region (rp rfl rfl (rp rfl rfl (rp rfl rfl (r_nil (r_back m1 [(0, _), (3, _), (4, _)] (Nat.lt_succ_self m1) ⟨rfl, rfl, rfl, trivial⟩ ⟨_, _, hF, rfl, h⟩)))))))))))
  refine r_exit rfl ?_
  obtain rfl := someI hF; replace hF := hK1
  exact r_seq (r_region (rp rfl rfl (rp rfl rfl (r_nil (r_rI tabOk h hF ⟨rfl, trivial⟩)))))

def impl_areTables_1 (n : Nat) (t : TTable) (v0 : Bool) : Option Bool :=
  (impl_IsTable n t).bind fun r1 =>
  bif (!r1) then
    some true
  else
    bif v0 then
      (slices_Min_int64 n t.Values).bind fun r2 =>
      some (decide (r2 < 0))
    else
      some false

theorem impl_areTables_1_ok {n : Nat} {w : World} {t : TTable} {v0 : Bool} {cs1 : List Value} (ha1 : GoT.R w (old w) t cs1) {p4 : Option Addr} (ha2 : GoT.R w (old w) (some v0) [.pointer p4]) {r : Bool} (hF : impl_areTables_1 n t v0 = some r) : RetV Tryz.prog 211 [GoT.v TTable cs1, .pointer p4] w r := by
  obtain ⟨p1, k1, p2, k2, p3, k3, rfl, s1, s2, s3⟩ := open_TTable ha1
  obtain ⟨b1, o_1, cs2, rfl, -, hr1, hc1⟩ := PtR.get ha2 rfl
  obtain rfl := hr1
  refine retV_of_run Tryz.func211 rfl (m := 16) rfl rfl (fun h => ?_)
  rw [impl_areTables_1] at hF
  refine r_seq (r_region (r_box h rfl rfl ?_))
  intro w1 bb1 h
  refine rp rfl rfl (r_nil (r_seq (r_region (r_v (v_ld tabOk (h.box 0 rfl) (j := 0) rfl rfl rfl) rfl ?_))))
  obtain ⟨r1, hr2, hF⟩ := bindS hF
  refine r_callB r1 h call212 (impl_IsTable_ok (h.old ha1) hr2) rfl rfl rfl rfl ?_
  intro w2 h
  refine rp rfl rfl (rp rfl rfl ?_)
  by_cases hc2 : (!r1) = true
  · replace hF := bifT hc2 hF
    exact r_setT hc2 (t := 7) rfl (r_not rfl rfl rfl (r_not rfl rfl rfl (r_not rfl rfl rfl (r_not rfl rfl rfl (r_not rfl rfl rfl (r_not rfl rfl rfl (r_not rfl rfl rfl (rp rfl rfl (rp rfl rfl (r_nil (r_rB tabOk h hF ⟨rfl, trivial⟩)))))))))))
  replace hc2 := Bool.eq_false_iff.2 hc2
  replace hF := bifF hc2 hF
  refine r_setF hc2 (t := 7) rfl (r_wanted rfl (r_v (v_ld tabOk (hc1.below h.below) (j := 0) rfl rfl rfl) rfl (r_wanted rfl (rp rfl rfl ?_))))
  by_cases hc3 : v0 = true
  · replace hF := bifT hc3 hF
    refine r_setT hc3 (t := 9) rfl (r_wanted rfl (rp rfl rfl (r_wanted rfl (r_v (v_ld tabOk (h.box 0 rfl) (j := 2) rfl rfl rfl) rfl (r_wanted rfl ?_)))))
    obtain ⟨r2, hr3, hF⟩ := bindS hF
    refine r_callI r2 h call213 (slices_Min_int64_ok ⟨_, _, rfl, (h.oldS s3)⟩ hr3) rfl rfl rfl rfl ?_
    intro w3 h
    exact r_wanted rfl (rp rfl rfl (r_wanted rfl (rp rfl rfl (rp rfl rfl (rp rfl rfl (r_nil (r_rB tabOk h hF ⟨rfl, trivial⟩)))))))
  replace hc3 := Bool.eq_false_iff.2 hc3
  replace hF := bifF hc3 hF
  exact r_setF hc3 (t := 9) rfl (r_not rfl rfl rfl (r_not rfl rfl rfl (r_not rfl rfl rfl (r_not rfl rfl rfl (r_wanted rfl (rp rfl rfl (rp rfl rfl (rp rfl rfl (r_nil (r_rB tabOk h hF ⟨rfl, trivial⟩))))))))))

def slices_IndexFunc_impl_Table_impl_areTables_1_L1 (s : (List TTable)) (f_0 : Bool) : Nat → Int → Option (Flow Int Int)
  | 0, _ => none
  | n + 1, i1 =>
    bif decide (i1 < (s.length : Int)) then
      (idx s i1).bind fun y1 =>
      (impl_areTables_1 n y1 f_0).bind fun r1 =>
      bif r1 then
        some (.ret i1)
      else
        slices_IndexFunc_impl_Table_impl_areTables_1_L1 s f_0 n (W64 (i1 + 1))
    else
      some (.nxt i1)

def slices_IndexFunc_impl_Table_impl_areTables_1 (n : Nat) (s : (List TTable)) (f_0 : Bool) : Option Int :=
  (slices_IndexFunc_impl_Table_impl_areTables_1_L1 s f_0 n 0).bind fun o => match o with
  | .ret r => some r
  | .nxt _ =>
    some (-1)

theorem slices_IndexFunc_impl_Table_impl_areTables_1_ok {n : Nat} {w : World} {s : (List TTable)} {f_0 : Bool} {cs1 : List Value} (ha1 : GoT.R w (old w) s cs1) {p2 : Option Addr} (ha2 : GoT.R w (old w) (some f_0) [.pointer p2]) {r : Int} (hF : slices_IndexFunc_impl_Table_impl_areTables_1 n s f_0 = some r) : RetV Tryz.prog 220 [GoT.v (List TTable) cs1, .func (.func 211) #[] #[.pointer p2]] w r := by
  obtain ⟨p1, k1, rfl, s1⟩ := ha1
  obtain ⟨b1, o_1, cs2, rfl, -, hr1, hc1⟩ := PtR.get ha2 rfl
  obtain rfl := hr1
  refine retV_of_run Tryz.func220 rfl (m := 19) rfl rfl (fun h => ?_)
  rw [slices_IndexFunc_impl_Table_impl_areTables_1] at hF
  refine r_seq (r_region (rp rfl rfl (r_nil (r_seq (r_seq (r_region (rp rfl rfl (rp rfl rfl (rp rfl rfl (r_nil ?_))))))))))
  obtain ⟨o1, hF, hK1⟩ := bindS hF
  refine r_block (r_sub [(0, _), (1, _), (7, _), (8, _)] ⟨rfl, rfl, rfl, rfl, trivial⟩ ?_)
  refine r_loop (fun m e w' => ∃ (i1 : Int), slices_IndexFunc_impl_Table_impl_areTables_1_L1 s f_0 m i1 = some o1 ∧ e = [(0, .slice p1 s.length k1), (1, .func (.func 211) #[] #[.pointer (some ⟨b1, o_1, none⟩)]), (7, .int .i64 (s.length : Int)), (8, .int .i64 i1)] ∧ SH w w' []) n ⟨_, hF, rfl, h⟩ ?_
  rintro m1 e1 w1 ⟨i1, hF, rfl, h⟩
  rcases m1 with _ | m1
  · rw [slices_IndexFunc_impl_Table_impl_areTables_1_L1] at hF
    cases hF
  rw [slices_IndexFunc_impl_Table_impl_areTables_1_L1] at hF
  refine r_seq (r_region (rp rfl rfl (r_nil (r_seq ?_))))
  refine r_if rfl hF (fun hF => ?_) (fun hF => ?_)
  · refine r_skip (r_seq (r_block (r_seq (r_region (rp rfl rfl (rp rfl rfl (r_nil (r_seq (r_region (rp rfl rfl (rp rfl rfl ?_)))))))))))
    refine rp rfl rfl ?_
    obtain ⟨y1, hy1, hF⟩ := bindS hF
    have he1 := idx_some hy1
    obtain ⟨b2, o_2, q1, cs3, hp1, hq1, -, hr2, hc3⟩ := s1.at hy1
    obtain ⟨p3, k2, p4, k3, p5, k4, rfl, s2, s3, s4⟩ := open_TTable hr2
    refine r_v (v_ix tabOk hp1 hq1 ⟨he1.1, he1.2.1⟩ rfl rfl rfl rfl rfl rfl) rfl (r_v (v_ld tabOk (hc3.below h.below) (j := 0) rfl rfl rfl) rfl ?_)
    obtain ⟨r1, hr3, hF⟩ := bindS hF
    refine r_callB r1 h call211 (impl_areTables_1_ok (mkR_TTable y1 (h.oldS s2) (h.oldS s3) (h.oldS s4)) (h.old ha2) hr3) rfl rfl rfl rfl ?_
    intro w2 h
    refine r_nil ?_
    refine r_if rfl hF (fun hF => ?_) (fun hF => ?_)
    · refine r_seq (r_region (rp rfl rfl (rp rfl rfl (r_nil ?_))))
      obtain rfl := someI hF; replace hF := hK1
      exact r_rI tabOk h hF ⟨rfl, trivial⟩
    exact r_skip (r_blk (r_region (rp rfl rfl (rp rfl rfl (r_nil (r_back m1 [(0, _), (1, _), (7, _), (8, _)] (Nat.lt_succ_self m1) ⟨rfl, rfl, rfl, rfl, trivial⟩ ⟨_, hF, rfl, h⟩))))))
  refine r_exit rfl ?_
  obtain rfl := someI hF; replace hF := hK1
  exact r_seq (r_region (rp rfl rfl (r_nil (r_rI tabOk h hF ⟨rfl, trivial⟩))))

def slices_ContainsFunc_impl_Table_impl_areTables_1 (n : Nat) (s : (List TTable)) (f_0 : Bool) : Option Bool :=
  (slices_IndexFunc_impl_Table_impl_areTables_1 n s f_0).bind fun r1 =>
  some (decide (r1 ≥ 0))

theorem slices_ContainsFunc_impl_Table_impl_areTables_1_ok {n : Nat} {w : World} {s : (List TTable)} {f_0 : Bool} {cs1 : List Value} (ha1 : GoT.R w (old w) s cs1) {p2 : Option Addr} (ha2 : GoT.R w (old w) (some f_0) [.pointer p2]) {r : Bool} (hF : slices_ContainsFunc_impl_Table_impl_areTables_1 n s f_0 = some r) : RetV Tryz.prog 210 [GoT.v (List TTable) cs1, .func (.func 211) #[] #[.pointer p2]] w r := by
  obtain ⟨p1, k1, rfl, s1⟩ := ha1
  obtain ⟨b1, o_1, cs2, rfl, -, hr1, hc1⟩ := PtR.get ha2 rfl
  obtain rfl := hr1
  refine retV_of_run Tryz.func210 rfl (m := 9) rfl rfl (fun h => ?_)
  rw [slices_ContainsFunc_impl_Table_impl_areTables_1] at hF
  refine r_seq (r_region (rp rfl rfl (r_nil (r_seq (r_region (rp rfl rfl (rp rfl rfl ?_)))))))
  obtain ⟨r1, hr2, hF⟩ := bindS hF
  refine r_callI r1 h call220 (slices_IndexFunc_impl_Table_impl_areTables_1_ok ⟨_, _, rfl, (h.oldS s1)⟩ (h.old ha2) hr2) rfl rfl rfl rfl ?_
  intro w1 h
  exact rp rfl rfl (rp rfl rfl (r_nil (r_rB tabOk h hF ⟨rfl, trivial⟩)))

def impl_areTables (n : Nat) (list : (List TTable)) (positive : Bool) : Option Bool :=
  bif ((list.length : Int) == 2) then
    (slices_ContainsFunc_impl_Table_impl_areTables_1 n list positive).bind fun r1 =>
    some (!r1)
  else
    some false

theorem impl_areTables_ok {n : Nat} {w : World} {list : (List TTable)} {positive : Bool} {cs1 : List Value} (ha1 : GoT.R w (old w) list cs1) {r : Bool} (hF : impl_areTables n list positive = some r) : RetV Tryz.prog 199 [GoT.v (List TTable) cs1, .bool positive] w r := by
  obtain ⟨p1, k1, rfl, s1⟩ := ha1
  refine retV_of_run Tryz.func199 rfl (m := 14) rfl rfl (fun h => ?_)
  rw [impl_areTables] at hF
  refine r_seq (r_region (r_box h rfl rfl ?_))
  intro w1 bb1 h
  refine rp rfl rfl (r_nil (r_seq (r_region (rp rfl rfl (rp rfl rfl (rp rfl rfl (rp rfl rfl ?_)))))))
  by_cases hc1 : ((list.length : Int) == 2) = true
  · replace hF := bifT hc1 hF
    refine r_setT hc1 (t := 8) rfl (r_wanted rfl (rp rfl rfl (r_wanted rfl (rp rfl rfl (r_wanted rfl ?_)))))
    obtain ⟨r1, hr1, hF⟩ := bindS hF
    refine r_callB r1 h call210 (slices_ContainsFunc_impl_Table_impl_areTables_1_ok ⟨_, _, rfl, (h.oldS s1)⟩ (ptr_boxB (x := positive) 0 h rfl rfl) hr1) rfl rfl rfl rfl ?_
    intro w2 h
    exact r_wanted rfl (rp rfl rfl (rp rfl rfl (rp rfl rfl (r_nil (r_rB tabOk h hF ⟨rfl, trivial⟩)))))
  replace hc1 := Bool.eq_false_iff.2 hc1
  replace hF := bifF hc1 hF
  exact r_setF hc1 (t := 8) rfl (r_not rfl rfl rfl (r_not rfl rfl rfl (r_not rfl rfl rfl (r_not rfl rfl rfl (rp rfl rfl (rp rfl rfl (r_nil (r_rB tabOk h hF ⟨rfl, trivial⟩))))))))

def impl_Cell_clock_1 (_ : Nat) (p : TPin) : Option Bool :=
  some p.Clock

theorem impl_Cell_clock_1_ok {n : Nat} {w : World} {p : TPin} {cs1 : List Value} (ha1 : GoT.R w (old w) p cs1) {r : Bool} (hF : impl_Cell_clock_1 n p = some r) : RetV Tryz.prog 215 [GoT.v TPin cs1] w r := by
  obtain rfl := open_TPin ha1
  refine retV_of_run Tryz.func215 rfl (m := 5) rfl rfl (fun h => ?_)
  rw [impl_Cell_clock_1] at hF
  refine r_seq (r_region (r_box h rfl rfl ?_))
  intro w1 bb1 h
  exact rp rfl rfl (r_nil (r_seq (r_region (rp rfl rfl (r_v (v_ld tabOk (h.box 0 rfl) (j := 3) rfl rfl rfl) rfl (rp rfl rfl (r_nil (r_rB tabOk h hF ⟨rfl, trivial⟩))))))))

def slices_IndexFunc_impl_Pin_impl_Cell_clock_1_L1 (s : (List TPin)) : Nat → Int → Option (Flow Int Int)
  | 0, _ => none
  | n + 1, i1 =>
    bif decide (i1 < (s.length : Int)) then
      (idx s i1).bind fun y1 =>
      (impl_Cell_clock_1 n y1).bind fun r1 =>
      bif r1 then
        some (.ret i1)
      else
        slices_IndexFunc_impl_Pin_impl_Cell_clock_1_L1 s n (W64 (i1 + 1))
    else
      some (.nxt i1)

def slices_IndexFunc_impl_Pin_impl_Cell_clock_1 (n : Nat) (s : (List TPin)) : Option Int :=
  (slices_IndexFunc_impl_Pin_impl_Cell_clock_1_L1 s n 0).bind fun o => match o with
  | .ret r => some r
  | .nxt _ =>
    some (-1)

theorem slices_IndexFunc_impl_Pin_impl_Cell_clock_1_ok {n : Nat} {w : World} {s : (List TPin)} {cs1 : List Value} (ha1 : GoT.R w (old w) s cs1) {r : Int} (hF : slices_IndexFunc_impl_Pin_impl_Cell_clock_1 n s = some r) : RetV Tryz.prog 214 [GoT.v (List TPin) cs1, .func (.func 215) #[] #[]] w r := by
  obtain ⟨p1, k1, rfl, s1⟩ := ha1
  refine retV_of_run Tryz.func214 rfl (m := 19) rfl rfl (fun h => ?_)
  rw [slices_IndexFunc_impl_Pin_impl_Cell_clock_1] at hF
  refine r_seq (r_region (rp rfl rfl (r_nil (r_seq (r_seq (r_region (rp rfl rfl (rp rfl rfl (rp rfl rfl (r_nil ?_))))))))))
  obtain ⟨o1, hF, hK1⟩ := bindS hF
  refine r_block (r_sub [(0, _), (1, _), (7, _), (8, _)] ⟨rfl, rfl, rfl, rfl, trivial⟩ ?_)
  refine r_loop (fun m e w' => ∃ (i1 : Int), slices_IndexFunc_impl_Pin_impl_Cell_clock_1_L1 s m i1 = some o1 ∧ e = [(0, .slice p1 s.length k1), (1, .func (.func 215) #[] #[]), (7, .int .i64 (s.length : Int)), (8, .int .i64 i1)] ∧ SH w w' []) n ⟨_, hF, rfl, h⟩ ?_
  rintro m1 e1 w1 ⟨i1, hF, rfl, h⟩
  rcases m1 with _ | m1
  · rw [slices_IndexFunc_impl_Pin_impl_Cell_clock_1_L1] at hF
    cases hF
  rw [slices_IndexFunc_impl_Pin_impl_Cell_clock_1_L1] at hF
  refine r_seq (r_region (rp rfl rfl (r_nil (r_seq ?_))))
  refine r_if rfl hF (fun hF => ?_) (fun hF => ?_)
  · refine r_skip (r_seq (r_block (r_seq (r_region (rp rfl rfl (rp rfl rfl (r_nil (r_seq (r_region (rp rfl rfl (rp rfl rfl ?_)))))))))))
    refine rp rfl rfl ?_
    obtain ⟨y1, hy1, hF⟩ := bindS hF
    have he1 := idx_some hy1
    obtain ⟨b1, o_1, q1, cs2, hp1, hq1, -, hr1, hc2⟩ := s1.at hy1
    obtain rfl := open_TPin hr1
    refine r_v (v_ix tabOk hp1 hq1 ⟨he1.1, he1.2.1⟩ rfl rfl rfl rfl rfl rfl) rfl (r_v (v_ld tabOk (hc2.below h.below) (j := 0) rfl rfl rfl) rfl ?_)
    obtain ⟨r1, hr2, hF⟩ := bindS hF
    refine r_callB r1 h call215 (impl_Cell_clock_1_ok (mkR_TPin y1) hr2) rfl rfl rfl rfl ?_
    intro w2 h
    refine r_nil ?_
    refine r_if rfl hF (fun hF => ?_) (fun hF => ?_)
    · refine r_seq (r_region (rp rfl rfl (rp rfl rfl (r_nil ?_))))
      obtain rfl := someI hF; replace hF := hK1
      exact r_rI tabOk h hF ⟨rfl, trivial⟩
    exact r_skip (r_blk (r_region (rp rfl rfl (rp rfl rfl (r_nil (r_back m1 [(0, _), (1, _), (7, _), (8, _)] (Nat.lt_succ_self m1) ⟨rfl, rfl, rfl, rfl, trivial⟩ ⟨_, hF, rfl, h⟩))))))
  refine r_exit rfl ?_
  obtain rfl := someI hF; replace hF := hK1
  exact r_seq (r_region (rp rfl rfl (r_nil (r_rI tabOk h hF ⟨rfl, trivial⟩))))

def impl_Cell_clock (n : Nat) (c : TCell) : Option Int :=
  (slices_IndexFunc_impl_Pin_impl_Cell_clock_1 n c.Pins).bind fun r1 =>
  some r1

theorem impl_Cell_clock_ok {n : Nat} {w : World} {c : TCell} {cs1 : List Value} (ha1 : GoT.R w (old w) c cs1) {r : Int} (hF : impl_Cell_clock n c = some r) : RetV Tryz.prog 200 [GoT.v TCell cs1] w r := by
  obtain ⟨p1, k1, p2, k2, p3, k3, rfl, s1, s2, s3⟩ := open_TCell ha1
  refine retV_of_run Tryz.func200 rfl (m := 6) rfl rfl (fun h => ?_)
  rw [impl_Cell_clock] at hF
  refine r_seq (r_region (r_box h rfl rfl ?_))
  intro w1 bb1 h
  refine rp rfl rfl (r_nil (r_seq (r_region (rp rfl rfl (r_v (v_ld tabOk (h.box 0 rfl) (j := 2) rfl rfl rfl) rfl ?_)))))
  obtain ⟨r1, hr1, hF⟩ := bindS hF
  refine r_callI r1 h call214 (slices_IndexFunc_impl_Pin_impl_Cell_clock_1_ok ⟨_, _, rfl, (h.oldS s1)⟩ hr1) rfl rfl rfl rfl ?_
  intro w2 h
  exact rp rfl rfl (r_nil (r_rI tabOk h hF ⟨rfl, trivial⟩))

def impl_Cell_isInput (n : Nat) (c : TCell) (pin : Int) : Option Bool :=
  (impl_Cell_output n c).bind fun r1 =>
  (impl_within n pin 0 (W64 (r1 - 1))).bind fun r2 =>
  some r2

theorem impl_Cell_isInput_ok {n : Nat} {w : World} {c : TCell} {pin : Int} {cs1 : List Value} (ha1 : GoT.R w (old w) c cs1) {r : Bool} (hF : impl_Cell_isInput n c pin = some r) : RetV Tryz.prog 201 [GoT.v TCell cs1, .int .i64 pin] w r := by
  obtain ⟨p1, k1, p2, k2, p3, k3, rfl, s1, s2, s3⟩ := open_TCell ha1
  refine retV_of_run Tryz.func201 rfl (m := 10) rfl rfl (fun h => ?_)
  rw [impl_Cell_isInput] at hF
  refine r_seq (r_region (r_box h rfl rfl ?_))
  intro w1 bb1 h
  refine rp rfl rfl (r_nil (r_seq (r_region (rp rfl rfl (r_v (v_ld tabOk (h.box 0 rfl) (j := 0) rfl rfl rfl) rfl ?_)))))
  obtain ⟨r1, hr1, hF⟩ := bindS hF
  refine r_callI r1 h call106 (impl_Cell_output_ok (h.old ha1) hr1) rfl rfl rfl rfl ?_
  intro w2 h
  refine rp rfl rfl ?_
  obtain ⟨r2, hr2, hF⟩ := bindS hF
  refine r_callB r2 h call100 (impl_within_ok hr2) rfl rfl rfl rfl ?_
  intro w3 h
  exact rp rfl rfl (r_nil (r_rB tabOk h hF ⟨rfl, trivial⟩))

def impl_Cell_isArc (n : Nat) (a_0 : TCell) (a_1 : TArc) : Option Bool :=
  (impl_isCheck n a_1.Kind).bind fun r1 =>
  bif r1 then
    (
      bif (a_1.Sense == 0) then
        bif ((a_1.Slew.length : Int) == 0) then
          (impl_areTables n a_1.Delay false).bind fun r2 =>
          bif r2 then
            (impl_Cell_clock n a_0).bind fun r3 =>
            bif (a_1.From == r3) then
              bif decide (a_1.From ≥ 0) then
                (impl_Cell_isInput n a_0 a_1.To).bind fun r4 =>
                bif r4 then
                  some (a_1.To != a_1.From)
                else
                  some false
              else
                some false
            else
              some false
          else
            some false
        else
          some false
      else
        some false).bind fun b1 =>
    some b1
  else
    (
      (impl_areTables n a_1.Delay true).bind fun r6 =>
      bif (!r6) then
        some true
      else
        (impl_areTables n a_1.Slew true).bind fun r7 =>
        bif (!r7) then
          some true
        else
          (impl_Cell_output n a_0).bind fun r8 =>
          bif (a_1.To != r8) then
            some true
          else
            (impl_Cell_isInput n a_0 a_1.From).bind fun r9 =>
            some (!r9)).bind fun b2 =>
    bif b2 then
      some false
    else
      bif (a_1.Kind == 1) then
        (idx a_0.Pins a_1.From).bind fun y1 =>
        bif (!y1.Clock) then
          (impl_within n a_1.Sense 1 3).bind fun r5 =>
          some r5
        else
          some false
      else
        (
          bif (a_1.Kind == 2) then
            some (a_1.Kind == 2)
          else
            some (a_1.Kind == 3)).bind fun b4 =>
        bif b4 then
          (idx a_0.Pins a_1.From).bind fun y2 =>
          bif y2.Clock then
            some (a_1.Sense == 0)
          else
            some false
        else
          some false

theorem impl_Cell_isArc_ok {n : Nat} {w : World} {a_0 : TCell} {a_1 : TArc} {cs1 : List Value} (ha1 : GoT.R w (old w) a_0 cs1) {cs2 : List Value} (ha2 : GoT.R w (old w) a_1 cs2) {r : Bool} (hF : impl_Cell_isArc n a_0 a_1 = some r) : RetV Tryz.prog 182 [GoT.v TCell cs1, GoT.v TArc cs2] w r := by
  obtain ⟨p1, k1, p2, k2, p3, k3, rfl, s1, s2, s3⟩ := open_TCell ha1
  obtain ⟨p4, k4, p5, k5, rfl, s4, s5⟩ := open_TArc ha2
  refine retV_of_run Tryz.func182 rfl (m := 103) rfl rfl (fun h => ?_)
  rw [impl_Cell_isArc] at hF
  refine r_seq (r_region (r_box h rfl rfl ?_))
  intro w1 bb1 h
  refine r_box h rfl rfl ?_
  intro w2 bb2 h
  refine rp rfl rfl (r_nil (r_seq (r_seq (r_region (rp rfl rfl (r_v (v_ld tabOk (h.box 0 rfl) (j := 0) rfl rfl rfl) rfl ?_))))))
  obtain ⟨r1, hr1, hF⟩ := bindS hF
  refine r_callB r1 h call198 (impl_isCheck_ok hr1) rfl rfl rfl rfl ?_
  intro w3 h
  refine r_nil ?_
  refine r_if rfl hF (fun hF => ?_) (fun hF => ?_)
  · refine r_seq ?_
    obtain ⟨KF1, hKF1, o1, hF, hK1⟩ := bindE hF
    refine r_cut (fun e w' => ∃ (b1 : Bool), KF1 b1 = some r ∧ e = [(4, .bool b1)] ∧ SH w w' []) ?_ ?_
    · refine r_draw rfl (by kernel_rfl) ?_
      refine dp rfl rfl ?_
      refine d_v (fun _ hb => v_ld tabOk ((h.box 0 rfl).below hb) (j := 3) rfl rfl rfl) rfl ?_
      refine dp rfl rfl (dp rfl rfl ?_)
      by_cases hc2 : (a_1.Sense == 0) = true
      · replace hF := bifT hc2 hF
        refine d_setT hc2 (t := 11) rfl (d_wanted rfl (dp rfl rfl (d_wanted rfl ?_)))
        refine d_v (fun _ hb => v_ld tabOk ((h.box 0 rfl).below hb) (j := 5) rfl rfl rfl) rfl ?_
        refine d_wanted rfl (dp rfl rfl (d_wanted rfl (dp rfl rfl (dp rfl rfl (dp rfl rfl ?_)))))
        by_cases hc3 : ((a_1.Slew.length : Int) == 0) = true
        · replace hF := bifT hc3 hF
          refine d_setT hc3 (t := 17) rfl (d_wanted rfl (dp rfl rfl (d_wanted rfl ?_)))
          refine d_v (fun _ hb => v_ld tabOk ((h.box 0 rfl).below hb) (j := 4) rfl rfl rfl) rfl ?_
          refine d_wanted rfl ?_
          obtain ⟨r2, hr2, hF⟩ := bindS hF
          refine d_call r2 (vsB _) call199 (fun _ hb => impl_areTables_ok ⟨_, _, rfl, ((h.ext hb).oldS s4)⟩ hr2) rfl rfl rfl rfl ?_
          refine dp rfl rfl (dp rfl rfl ?_)
          by_cases hc4 : r2 = true
          · replace hF := bifT hc4 hF
            refine d_setT hc4 (t := 22) rfl (d_wanted rfl (dp rfl rfl (d_wanted rfl ?_)))
            refine d_v (fun _ hb => v_ld tabOk ((h.box 0 rfl).below hb) (j := 1) rfl rfl rfl) rfl ?_
            refine d_wanted rfl ?_
            refine d_v (fun _ hb => v_ld tabOk ((h.box 1 rfl).below hb) (j := 0) rfl rfl rfl) rfl ?_
            refine d_wanted rfl ?_
            obtain ⟨r3, hr3, hF⟩ := bindS hF
            refine d_call r3 (vsI _) call200 (fun _ hb => impl_Cell_clock_ok ((h.ext hb).old ha1) hr3) rfl rfl rfl rfl ?_
            refine d_wanted rfl (dp rfl rfl (dp rfl rfl (dp rfl rfl ?_)))
            by_cases hc5 : (a_1.From == r3) = true
            · replace hF := bifT hc5 hF
              refine d_setT hc5 (t := 29) rfl (d_wanted rfl (dp rfl rfl (d_wanted rfl ?_)))
              refine d_v (fun _ hb => v_ld tabOk ((h.box 0 rfl).below hb) (j := 1) rfl rfl rfl) rfl ?_
              refine d_wanted rfl (dp rfl rfl (dp rfl rfl (dp rfl rfl ?_)))
              by_cases hc6 : (decide (a_1.From ≥ 0)) = true
              · replace hF := bifT hc6 hF
                refine d_setT hc6 (t := 34) rfl (d_wanted rfl ?_)
                refine d_v (fun _ hb => v_ld tabOk ((h.box 1 rfl).below hb) (j := 0) rfl rfl rfl) rfl ?_
                refine d_wanted rfl (dp rfl rfl (d_wanted rfl ?_))
                refine d_v (fun _ hb => v_ld tabOk ((h.box 0 rfl).below hb) (j := 2) rfl rfl rfl) rfl ?_
                refine d_wanted rfl ?_
                obtain ⟨r4, hr4, hF⟩ := bindS hF
                refine d_call r4 (vsB _) call201 (fun _ hb => impl_Cell_isInput_ok ((h.ext hb).old ha1) hr4) rfl rfl rfl rfl ?_
                refine dp rfl rfl (dp rfl rfl ?_)
                by_cases hc7 : r4 = true
                · replace hF := bifT hc7 hF
                  refine d_setT hc7 (t := 40) rfl (d_wanted rfl (dp rfl rfl (d_wanted rfl ?_)))
                  refine d_v (fun _ hb => v_ld tabOk ((h.box 0 rfl).below hb) (j := 2) rfl rfl rfl) rfl ?_
                  refine d_wanted rfl (dp rfl rfl (d_wanted rfl ?_))
                  refine d_v (fun _ hb => v_ld tabOk ((h.box 0 rfl).below hb) (j := 1) rfl rfl rfl) rfl ?_
                  refine d_wanted rfl (dp rfl rfl (dp rfl rfl (dp rfl rfl ?_)))
                  refine d_nil (fun w4 hb => ?_)
                  replace h := h.ext hb
                  clear hb
                  replace h := h.pick [] rfl
                  obtain rfl := someI hF
                  exact r_cutgoal [(4, _)] ⟨rfl, trivial⟩ ⟨_, hK1, rfl, h⟩
                replace hc7 := Bool.eq_false_iff.2 hc7
                replace hF := bifF hc7 hF
                refine d_setF hc7 (t := 40) rfl (d_not rfl rfl rfl (d_not rfl rfl rfl (d_not rfl rfl rfl (d_not rfl rfl rfl (d_not rfl rfl rfl (dp rfl rfl (dp rfl rfl ?_)))))))
                refine d_nil (fun w5 hb => ?_)
                replace h := h.ext hb
                clear hb
                replace h := h.pick [] rfl
                obtain rfl := someI hF
                exact r_cutgoal [(4, _)] ⟨rfl, trivial⟩ ⟨_, hK1, rfl, h⟩
              replace hc6 := Bool.eq_false_iff.2 hc6
              replace hF := bifF hc6 hF
              refine d_setF hc6 (t := 34) rfl (d_not rfl rfl rfl (d_not rfl rfl rfl (d_not rfl rfl rfl (d_not rfl rfl rfl (dp rfl rfl (dp rfl rfl (d_not rfl rfl rfl (d_not rfl rfl rfl (d_not rfl rfl rfl (d_not rfl rfl rfl (d_not rfl rfl rfl ?_)))))))))))
              refine dp rfl rfl (dp rfl rfl ?_)
              refine d_nil (fun w6 hb => ?_)
              replace h := h.ext hb
              clear hb
              replace h := h.pick [] rfl
              obtain rfl := someI hF
              exact r_cutgoal [(4, _)] ⟨rfl, trivial⟩ ⟨_, hK1, rfl, h⟩
            replace hc5 := Bool.eq_false_iff.2 hc5
            replace hF := bifF hc5 hF
            refine d_setF hc5 (t := 29) rfl (d_not rfl rfl rfl (d_not rfl rfl rfl (d_not rfl rfl rfl (dp rfl rfl (dp rfl rfl (d_not rfl rfl rfl (d_not rfl rfl rfl (d_not rfl rfl rfl (d_not rfl rfl rfl (dp rfl rfl (dp rfl rfl ?_)))))))))))
            refine d_not rfl rfl rfl (d_not rfl rfl rfl (d_not rfl rfl rfl (d_not rfl rfl rfl (d_not rfl rfl rfl (dp rfl rfl (dp rfl rfl ?_))))))
            refine d_nil (fun w7 hb => ?_)
            replace h := h.ext hb
            clear hb
            replace h := h.pick [] rfl
            obtain rfl := someI hF
            exact r_cutgoal [(4, _)] ⟨rfl, trivial⟩ ⟨_, hK1, rfl, h⟩
          replace hc4 := Bool.eq_false_iff.2 hc4
          replace hF := bifF hc4 hF
          refine d_setF hc4 (t := 22) rfl (d_not rfl rfl rfl (d_not rfl rfl rfl (d_not rfl rfl rfl (d_not rfl rfl rfl (d_not rfl rfl rfl (dp rfl rfl (dp rfl rfl (d_not rfl rfl rfl (d_not rfl rfl rfl (d_not rfl rfl rfl (dp rfl rfl ?_)))))))))))
          refine dp rfl rfl (d_not rfl rfl rfl (d_not rfl rfl rfl (d_not rfl rfl rfl (d_not rfl rfl rfl (dp rfl rfl (dp rfl rfl (d_not rfl rfl rfl (d_not rfl rfl rfl (d_not rfl rfl rfl (d_not rfl rfl rfl (d_not rfl rfl rfl ?_)))))))))))
          refine dp rfl rfl (dp rfl rfl ?_)
          refine d_nil (fun w8 hb => ?_)
          replace h := h.ext hb
          clear hb
          replace h := h.pick [] rfl
          obtain rfl := someI hF
          exact r_cutgoal [(4, _)] ⟨rfl, trivial⟩ ⟨_, hK1, rfl, h⟩
        replace hc3 := Bool.eq_false_iff.2 hc3
        replace hF := bifF hc3 hF
        refine d_setF hc3 (t := 17) rfl (d_not rfl rfl rfl (d_not rfl rfl rfl (d_not rfl rfl rfl (dp rfl rfl (dp rfl rfl (d_not rfl rfl rfl (d_not rfl rfl rfl (d_not rfl rfl rfl (d_not rfl rfl rfl (d_not rfl rfl rfl (dp rfl rfl ?_)))))))))))
        refine dp rfl rfl (d_not rfl rfl rfl (d_not rfl rfl rfl (d_not rfl rfl rfl (dp rfl rfl (dp rfl rfl (d_not rfl rfl rfl (d_not rfl rfl rfl (d_not rfl rfl rfl (d_not rfl rfl rfl (dp rfl rfl (dp rfl rfl ?_)))))))))))
        refine d_not rfl rfl rfl (d_not rfl rfl rfl (d_not rfl rfl rfl (d_not rfl rfl rfl (d_not rfl rfl rfl (dp rfl rfl (dp rfl rfl ?_))))))
        refine d_nil (fun w9 hb => ?_)
        replace h := h.ext hb
        clear hb
        replace h := h.pick [] rfl
        obtain rfl := someI hF
        exact r_cutgoal [(4, _)] ⟨rfl, trivial⟩ ⟨_, hK1, rfl, h⟩
      replace hc2 := Bool.eq_false_iff.2 hc2
      replace hF := bifF hc2 hF
      refine d_setF hc2 (t := 11) rfl (d_not rfl rfl rfl (d_not rfl rfl rfl (d_not rfl rfl rfl (d_not rfl rfl rfl (dp rfl rfl (dp rfl rfl (d_not rfl rfl rfl (d_not rfl rfl rfl (d_not rfl rfl rfl (dp rfl rfl (dp rfl rfl ?_)))))))))))
      refine d_not rfl rfl rfl (d_not rfl rfl rfl (d_not rfl rfl rfl (d_not rfl rfl rfl (d_not rfl rfl rfl (dp rfl rfl (dp rfl rfl (d_not rfl rfl rfl (d_not rfl rfl rfl (d_not rfl rfl rfl (dp rfl rfl (dp rfl rfl ?_)))))))))))
      refine d_not rfl rfl rfl (d_not rfl rfl rfl (d_not rfl rfl rfl (d_not rfl rfl rfl (dp rfl rfl (dp rfl rfl (d_not rfl rfl rfl (d_not rfl rfl rfl (d_not rfl rfl rfl (d_not rfl rfl rfl (d_not rfl rfl rfl (dp rfl rfl ?_)))))))))))
      refine dp rfl rfl ?_
      refine d_nil (fun w10 hb => ?_)
      replace h := h.ext hb
      clear hb
      replace h := h.pick [] rfl
      obtain rfl := someI hF
      exact r_cutgoal [(4, _)] ⟨rfl, trivial⟩ ⟨_, hK1, rfl, h⟩
    rintro e1 w11 ⟨b1, hF, rfl, h⟩
    subst hKF1
    exact r_rB tabOk h hF ⟨rfl, trivial⟩
  refine r_skip (r_seq (r_seq ?_))
  obtain ⟨KF3, hKF3, o3, hF, hK3⟩ := bindE hF
  refine r_cut (fun e w' => ∃ (b2 : Bool), KF3 b2 = some r ∧ e = [(2, .pointer (some ⟨bb1, 0, none⟩)), (3, .pointer (some ⟨bb2, 0, none⟩)), (70, .bool b2)] ∧ SH w w' [Ch.box bb2 [.int .i64 a_1.Kind, .int .i64 a_1.From, .int .i64 a_1.To, .int .i64 a_1.Sense, .slice p4 a_1.Delay.length k4, .slice p5 a_1.Slew.length k5] 159, Ch.box bb1 [.string a_0.Name, .int .i64 a_0.Kind, .slice p1 a_0.Pins.length k1, .slice p2 a_0.Arcs.length k2, .slice p3 a_0.Truth.length k3, .int .i64 a_0.Leak, .int .i64 a_0.Energy] 155]) ?_ ?_
  · refine r_draw rfl (by kernel_rfl) ?_
    refine dp rfl rfl ?_
    refine d_v (fun _ hb => v_ld tabOk ((h.box 0 rfl).below hb) (j := 4) rfl rfl rfl) rfl ?_
    obtain ⟨r6, hr8, hF⟩ := bindS hF
    refine d_call r6 (vsB _) call199 (fun _ hb => impl_areTables_ok ⟨_, _, rfl, ((h.ext hb).oldS s4)⟩ hr8) rfl rfl rfl rfl ?_
    refine dp rfl rfl (dp rfl rfl ?_)
    by_cases hc16 : (!r6) = true
    · replace hF := bifT hc16 hF
      refine d_setT hc16 (t := 51) rfl (d_not rfl rfl rfl (d_not rfl rfl rfl (d_not rfl rfl rfl (d_not rfl rfl rfl (dp rfl rfl (dp rfl rfl (d_not rfl rfl rfl (d_not rfl rfl rfl (d_not rfl rfl rfl (d_not rfl rfl rfl (d_not rfl rfl rfl ?_)))))))))))
      refine dp rfl rfl (dp rfl rfl (d_not rfl rfl rfl (d_not rfl rfl rfl (d_not rfl rfl rfl (d_not rfl rfl rfl (d_not rfl rfl rfl (dp rfl rfl ?_)))))))
      refine d_nil (fun w14 hb => ?_)
      replace h := h.ext hb
      clear hb
      obtain rfl := someI hF
      exact r_cutgoal [(2, _), (3, _), (70, _)] ⟨rfl, rfl, rfl, trivial⟩ ⟨_, hK3, rfl, h⟩
    replace hc16 := Bool.eq_false_iff.2 hc16
    replace hF := bifF hc16 hF
    refine d_setF hc16 (t := 51) rfl (d_wanted rfl (dp rfl rfl (d_wanted rfl ?_)))
    refine d_v (fun _ hb => v_ld tabOk ((h.box 0 rfl).below hb) (j := 5) rfl rfl rfl) rfl ?_
    refine d_wanted rfl ?_
    obtain ⟨r7, hr9, hF⟩ := bindS hF
    refine d_call r7 (vsB _) call199 (fun _ hb => impl_areTables_ok ⟨_, _, rfl, ((h.ext hb).oldS s5)⟩ hr9) rfl rfl rfl rfl ?_
    refine d_wanted rfl (dp rfl rfl (dp rfl rfl (dp rfl rfl ?_)))
    by_cases hc17 : (!r7) = true
    · replace hF := bifT hc17 hF
      refine d_setT hc17 (t := 57) rfl (d_not rfl rfl rfl (d_not rfl rfl rfl (d_not rfl rfl rfl (d_not rfl rfl rfl (d_not rfl rfl rfl (dp rfl rfl (dp rfl rfl (d_not rfl rfl rfl (d_not rfl rfl rfl (d_not rfl rfl rfl (d_not rfl rfl rfl ?_)))))))))))
      refine d_not rfl rfl rfl (dp rfl rfl ?_)
      refine d_nil (fun w15 hb => ?_)
      replace h := h.ext hb
      clear hb
      obtain rfl := someI hF
      exact r_cutgoal [(2, _), (3, _), (70, _)] ⟨rfl, rfl, rfl, trivial⟩ ⟨_, hK3, rfl, h⟩
    replace hc17 := Bool.eq_false_iff.2 hc17
    replace hF := bifF hc17 hF
    refine d_setF hc17 (t := 57) rfl (d_wanted rfl (dp rfl rfl (d_wanted rfl ?_)))
    refine d_v (fun _ hb => v_ld tabOk ((h.box 0 rfl).below hb) (j := 2) rfl rfl rfl) rfl ?_
    refine d_wanted rfl ?_
    refine d_v (fun _ hb => v_ld tabOk ((h.box 1 rfl).below hb) (j := 0) rfl rfl rfl) rfl ?_
    refine d_wanted rfl ?_
    obtain ⟨r8, hr10, hF⟩ := bindS hF
    refine d_call r8 (vsI _) call106 (fun _ hb => impl_Cell_output_ok ((h.ext hb).old ha1) hr10) rfl rfl rfl rfl ?_
    refine d_wanted rfl (dp rfl rfl (dp rfl rfl (dp rfl rfl ?_)))
    by_cases hc18 : (a_1.To != r8) = true
    · replace hF := bifT hc18 hF
      refine d_setT hc18 (t := 64) rfl (d_not rfl rfl rfl (d_not rfl rfl rfl (d_not rfl rfl rfl (d_not rfl rfl rfl (d_not rfl rfl rfl (dp rfl rfl ?_))))))
      refine d_nil (fun w16 hb => ?_)
      replace h := h.ext hb
      clear hb
      obtain rfl := someI hF
      exact r_cutgoal [(2, _), (3, _), (70, _)] ⟨rfl, rfl, rfl, trivial⟩ ⟨_, hK3, rfl, h⟩
    replace hc18 := Bool.eq_false_iff.2 hc18
    replace hF := bifF hc18 hF
    refine d_setF hc18 (t := 64) rfl (d_wanted rfl ?_)
    refine d_v (fun _ hb => v_ld tabOk ((h.box 1 rfl).below hb) (j := 0) rfl rfl rfl) rfl ?_
    refine d_wanted rfl (dp rfl rfl (d_wanted rfl ?_))
    refine d_v (fun _ hb => v_ld tabOk ((h.box 0 rfl).below hb) (j := 1) rfl rfl rfl) rfl ?_
    refine d_wanted rfl ?_
    obtain ⟨r9, hr11, hF⟩ := bindS hF
    refine d_call r9 (vsB _) call201 (fun _ hb => impl_Cell_isInput_ok ((h.ext hb).old ha1) hr11) rfl rfl rfl rfl ?_
    refine d_wanted rfl (dp rfl rfl (dp rfl rfl ?_))
    refine d_nil (fun w17 hb => ?_)
    replace h := h.ext hb
    clear hb
    obtain rfl := someI hF
    exact r_cutgoal [(2, _), (3, _), (70, _)] ⟨rfl, rfl, rfl, trivial⟩ ⟨_, hK3, rfl, h⟩
  rintro e3 w18 ⟨b2, hF, rfl, h⟩
  subst hKF3
  refine r_if rfl hF (fun hF => ?_) (fun hF => ?_)
  · exact r_seq (r_region (rp rfl rfl (r_nil (r_rB tabOk h hF ⟨rfl, trivial⟩))))
  refine r_skip (r_seq (r_seq (r_region (rp rfl rfl (r_v (v_ld tabOk (h.box 0 rfl) (j := 0) rfl rfl rfl) rfl (r_nil (r_block (r_seq (r_region (rp rfl rfl (rp rfl rfl ?_)))))))))))
  refine r_nil ?_
  refine r_if rfl hF (fun hF => ?_) (fun hF => ?_)
  · refine r_seq (r_region (rp rfl rfl (r_v (v_ld tabOk (h.box 1 rfl) (j := 2) rfl rfl rfl) rfl (rp rfl rfl (r_v (v_ld tabOk (h.box 0 rfl) (j := 1) rfl rfl rfl) rfl ?_)))))
    obtain ⟨y1, hy1, hF⟩ := bindS hF
    have he1 := idx_some hy1
    obtain ⟨b3, o_1, q1, cs3, hp1, hq1, -, hr5, hc10⟩ := s1.at hy1
    obtain rfl := open_TPin hr5
    refine r_v (v_ix tabOk hp1 hq1 ⟨he1.1, he1.2.1⟩ rfl rfl rfl rfl rfl rfl) rfl (rp rfl rfl (r_v (v_ld tabOk (hc10.below h.below) (j := 3) rfl rfl rfl) rfl (rp rfl rfl (rp rfl rfl ?_))))
    by_cases hc11 : (!y1.Clock) = true
    · replace hF := bifT hc11 hF
      refine r_setT hc11 (t := 83) rfl (r_wanted rfl (rp rfl rfl (r_wanted rfl (r_v (v_ld tabOk (h.box 0 rfl) (j := 3) rfl rfl rfl) rfl (r_wanted rfl ?_)))))
      obtain ⟨r5, hr6, hF⟩ := bindS hF
      refine r_callB r5 h call100 (impl_within_ok hr6) rfl rfl rfl rfl ?_
      intro w12 h
      exact rp rfl rfl (rp rfl rfl (r_nil (r_rB tabOk h hF ⟨rfl, trivial⟩)))
    replace hc11 := Bool.eq_false_iff.2 hc11
    replace hF := bifF hc11 hF
    exact r_setF hc11 (t := 83) rfl (r_not rfl rfl rfl (r_not rfl rfl rfl (r_not rfl rfl rfl (rp rfl rfl (rp rfl rfl (r_nil (r_rB tabOk h hF ⟨rfl, trivial⟩)))))))
  refine r_seq (r_seq (r_region (rp rfl rfl (rp rfl rfl (r_nil ?_)))))
  obtain ⟨KF2, hKF2, o2, hF, hK2⟩ := bindE hF
  refine r_cut (fun e w' => ∃ (b4 : Bool), KF2 b4 = some r ∧ e = [(2, .pointer (some ⟨bb1, 0, none⟩)), (3, .pointer (some ⟨bb2, 0, none⟩)), (88, .bool b4)] ∧ SH w w' [Ch.box bb2 [.int .i64 a_1.Kind, .int .i64 a_1.From, .int .i64 a_1.To, .int .i64 a_1.Sense, .slice p4 a_1.Delay.length k4, .slice p5 a_1.Slew.length k5] 159, Ch.box bb1 [.string a_0.Name, .int .i64 a_0.Kind, .slice p1 a_0.Pins.length k1, .slice p2 a_0.Arcs.length k2, .slice p3 a_0.Truth.length k3, .int .i64 a_0.Leak, .int .i64 a_0.Energy] 155]) ?_ ?_
  · refine r_if rfl hF (fun hF => ?_) (fun hF => ?_)
    · refine r_skip ?_
      obtain rfl := someI hF
      exact r_cutgoal [(2, _), (3, _), (88, _)] ⟨rfl, rfl, rfl, trivial⟩ ⟨_, hK2, rfl, h⟩
    refine r_region (rp rfl rfl (rp rfl rfl (r_nil ?_)))
    obtain rfl := someI hF
    exact r_cutgoal [(2, _), (3, _), (88, _)] ⟨rfl, rfl, rfl, trivial⟩ ⟨_, hK2, rfl, h⟩
  rintro e2 w13 ⟨b4, hF, rfl, h⟩
  subst hKF2
  refine r_if rfl hF (fun hF => ?_) (fun hF => ?_)
  · refine r_seq (r_region (rp rfl rfl (r_v (v_ld tabOk (h.box 1 rfl) (j := 2) rfl rfl rfl) rfl (rp rfl rfl (r_v (v_ld tabOk (h.box 0 rfl) (j := 1) rfl rfl rfl) rfl ?_)))))
    obtain ⟨y2, hy2, hF⟩ := bindS hF
    have he2 := idx_some hy2
    obtain ⟨b5, o_2, q2, cs4, hp2, hq2, -, hr7, hc13⟩ := s1.at hy2
    obtain rfl := open_TPin hr7
    refine r_v (v_ix tabOk hp2 hq2 ⟨he2.1, he2.2.1⟩ rfl rfl rfl rfl rfl rfl) rfl (rp rfl rfl (r_v (v_ld tabOk (hc13.below h.below) (j := 3) rfl rfl rfl) rfl (rp rfl rfl ?_)))
    by_cases hc14 : y2.Clock = true
    · replace hF := bifT hc14 hF
      exact r_setT hc14 (t := 98) rfl (r_wanted rfl (rp rfl rfl (r_wanted rfl (r_v (v_ld tabOk (h.box 0 rfl) (j := 3) rfl rfl rfl) rfl (r_wanted rfl (rp rfl rfl (rp rfl rfl (rp rfl rfl (r_nil (r_rB tabOk h hF ⟨rfl, trivial⟩))))))))))
    replace hc14 := Bool.eq_false_iff.2 hc14
    replace hF := bifF hc14 hF
    exact r_setF hc14 (t := 98) rfl (r_not rfl rfl rfl (r_not rfl rfl rfl (r_not rfl rfl rfl (rp rfl rfl (rp rfl rfl (r_nil (r_rB tabOk h hF ⟨rfl, trivial⟩)))))))
  exact r_skip (r_blk (r_seq (r_region (rp rfl rfl (r_nil (r_rB tabOk h hF ⟨rfl, trivial⟩))))))

def impl_Cell_areArcs_1 (_ : Nat) (a_o : TArc) (v0 : TArc) : Option Bool :=
  bif (a_o.Kind == v0.Kind) then
    bif (a_o.From == v0.From) then
      some (a_o.To == v0.To)
    else
      some false
  else
    some false

theorem impl_Cell_areArcs_1_ok {n : Nat} {w : World} {a_o : TArc} {v0 : TArc} {cs1 : List Value} (ha1 : GoT.R w (old w) a_o cs1) {p3 : Option Addr} (ha2 : GoT.R w (old w) (some v0) [.pointer p3]) {r : Bool} (hF : impl_Cell_areArcs_1 n a_o v0 = some r) : RetV Tryz.prog 183 [GoT.v TArc cs1, .pointer p3] w r := by
  obtain ⟨p1, k1, p2, k2, rfl, s1, s2⟩ := open_TArc ha1
  obtain ⟨b1, o_1, cs2, rfl, -, hr1, hc1⟩ := PtR.get ha2 rfl
  obtain ⟨p4, k3, p5, k4, rfl, s3, s4⟩ := open_TArc hr1
  refine retV_of_run Tryz.func183 rfl (m := 23) rfl rfl (fun h => ?_)
  rw [impl_Cell_areArcs_1] at hF
  refine r_seq (r_region (r_box h rfl rfl ?_))
  intro w1 bb1 h
  refine rp rfl rfl (r_nil (r_seq (r_region (rp rfl rfl (r_v (v_ld tabOk (h.box 0 rfl) (j := 0) rfl rfl rfl) rfl (rp rfl rfl (r_v (v_ld tabOk (hc1.below h.below) (j := 0) rfl rfl rfl) rfl (rp rfl rfl (rp rfl rfl ?_)))))))))
  by_cases hc2 : (a_o.Kind == v0.Kind) = true
  · replace hF := bifT hc2 hF
    refine r_setT hc2 (t := 9) rfl (r_wanted rfl (rp rfl rfl (r_wanted rfl (r_v (v_ld tabOk (h.box 0 rfl) (j := 1) rfl rfl rfl) rfl (r_wanted rfl (rp rfl rfl (r_wanted rfl (r_v (v_ld tabOk (hc1.below h.below) (j := 1) rfl rfl rfl) rfl (r_wanted rfl (rp rfl rfl (rp rfl rfl ?_)))))))))))
    refine rp rfl rfl ?_
    by_cases hc3 : (a_o.From == v0.From) = true
    · replace hF := bifT hc3 hF
      refine r_setT hc3 (t := 16) rfl (r_wanted rfl (rp rfl rfl (r_wanted rfl (r_v (v_ld tabOk (h.box 0 rfl) (j := 2) rfl rfl rfl) rfl (r_wanted rfl (rp rfl rfl (r_wanted rfl (r_v (v_ld tabOk (hc1.below h.below) (j := 2) rfl rfl rfl) rfl (r_wanted rfl (rp rfl rfl (rp rfl rfl ?_)))))))))))
      exact rp rfl rfl (r_nil (r_rB tabOk h hF ⟨rfl, trivial⟩))
    replace hc3 := Bool.eq_false_iff.2 hc3
    replace hF := bifF hc3 hF
    exact r_setF hc3 (t := 16) rfl (r_not rfl rfl rfl (r_not rfl rfl rfl (r_not rfl rfl rfl (r_not rfl rfl rfl (r_not rfl rfl rfl (rp rfl rfl (rp rfl rfl (r_nil (r_rB tabOk h hF ⟨rfl, trivial⟩)))))))))
  replace hc2 := Bool.eq_false_iff.2 hc2
  replace hF := bifF hc2 hF
  refine r_setF hc2 (t := 9) rfl (r_not rfl rfl rfl (r_not rfl rfl rfl (r_not rfl rfl rfl (r_not rfl rfl rfl (r_not rfl rfl rfl (rp rfl rfl (rp rfl rfl (r_not rfl rfl rfl (r_not rfl rfl rfl (r_not rfl rfl rfl (r_not rfl rfl rfl ?_)))))))))))
  exact r_not rfl rfl rfl (rp rfl rfl (rp rfl rfl (r_nil (r_rB tabOk h hF ⟨rfl, trivial⟩))))

def slices_IndexFunc_impl_Arc_impl_Cell_areArcs_1_L1 (s : (List TArc)) (f_0 : TArc) : Nat → Int → Option (Flow Int Int)
  | 0, _ => none
  | n + 1, i1 =>
    bif decide (i1 < (s.length : Int)) then
      (idx s i1).bind fun y1 =>
      (impl_Cell_areArcs_1 n y1 f_0).bind fun r1 =>
      bif r1 then
        some (.ret i1)
      else
        slices_IndexFunc_impl_Arc_impl_Cell_areArcs_1_L1 s f_0 n (W64 (i1 + 1))
    else
      some (.nxt i1)

def slices_IndexFunc_impl_Arc_impl_Cell_areArcs_1 (n : Nat) (s : (List TArc)) (f_0 : TArc) : Option Int :=
  (slices_IndexFunc_impl_Arc_impl_Cell_areArcs_1_L1 s f_0 n 0).bind fun o => match o with
  | .ret r => some r
  | .nxt _ =>
    some (-1)

theorem slices_IndexFunc_impl_Arc_impl_Cell_areArcs_1_ok {n : Nat} {w : World} {s : (List TArc)} {f_0 : TArc} {cs1 : List Value} (ha1 : GoT.R w (old w) s cs1) {p2 : Option Addr} (ha2 : GoT.R w (old w) (some f_0) [.pointer p2]) {r : Int} (hF : slices_IndexFunc_impl_Arc_impl_Cell_areArcs_1 n s f_0 = some r) : RetV Tryz.prog 141 [GoT.v (List TArc) cs1, .func (.func 183) #[] #[.pointer p2]] w r := by
  obtain ⟨p1, k1, rfl, s1⟩ := ha1
  obtain ⟨b1, o_1, cs2, rfl, -, hr1, hc1⟩ := PtR.get ha2 rfl
  obtain ⟨p3, k2, p4, k3, rfl, s2, s3⟩ := open_TArc hr1
  refine retV_of_run Tryz.func141 rfl (m := 19) rfl rfl (fun h => ?_)
  rw [slices_IndexFunc_impl_Arc_impl_Cell_areArcs_1] at hF
  refine r_seq (r_region (rp rfl rfl (r_nil (r_seq (r_seq (r_region (rp rfl rfl (rp rfl rfl (rp rfl rfl (r_nil ?_))))))))))
  obtain ⟨o1, hF, hK1⟩ := bindS hF
  refine r_block (r_sub [(0, _), (1, _), (7, _), (8, _)] ⟨rfl, rfl, rfl, rfl, trivial⟩ ?_)
  refine r_loop (fun m e w' => ∃ (i1 : Int), slices_IndexFunc_impl_Arc_impl_Cell_areArcs_1_L1 s f_0 m i1 = some o1 ∧ e = [(0, .slice p1 s.length k1), (1, .func (.func 183) #[] #[.pointer (some ⟨b1, o_1, none⟩)]), (7, .int .i64 (s.length : Int)), (8, .int .i64 i1)] ∧ SH w w' []) n ⟨_, hF, rfl, h⟩ ?_
  rintro m1 e1 w1 ⟨i1, hF, rfl, h⟩
  rcases m1 with _ | m1
  · rw [slices_IndexFunc_impl_Arc_impl_Cell_areArcs_1_L1] at hF
    cases hF
  rw [slices_IndexFunc_impl_Arc_impl_Cell_areArcs_1_L1] at hF
  refine r_seq (r_region (rp rfl rfl (r_nil (r_seq ?_))))
  refine r_if rfl hF (fun hF => ?_) (fun hF => ?_)
  · refine r_skip (r_seq (r_block (r_seq (r_region (rp rfl rfl (rp rfl rfl (r_nil (r_seq (r_region (rp rfl rfl (rp rfl rfl ?_)))))))))))
    refine rp rfl rfl ?_
    obtain ⟨y1, hy1, hF⟩ := bindS hF
    have he1 := idx_some hy1
    obtain ⟨b2, o_2, q1, cs3, hp1, hq1, -, hr2, hc3⟩ := s1.at hy1
    obtain ⟨p5, k4, p6, k5, rfl, s4, s5⟩ := open_TArc hr2
    refine r_v (v_ix tabOk hp1 hq1 ⟨he1.1, he1.2.1⟩ rfl rfl rfl rfl rfl rfl) rfl (r_v (v_ld tabOk (hc3.below h.below) (j := 0) rfl rfl rfl) rfl ?_)
    obtain ⟨r1, hr3, hF⟩ := bindS hF
    refine r_callB r1 h call183 (impl_Cell_areArcs_1_ok (mkR_TArc y1 (h.oldS s4) (h.oldS s5)) (h.old ha2) hr3) rfl rfl rfl rfl ?_
    intro w2 h
    refine r_nil ?_
    refine r_if rfl hF (fun hF => ?_) (fun hF => ?_)
    · refine r_seq (r_region (rp rfl rfl (rp rfl rfl (r_nil ?_))))
      obtain rfl := someI hF; replace hF := hK1
      exact r_rI tabOk h hF ⟨rfl, trivial⟩
    exact r_skip (r_blk (r_region (rp rfl rfl (rp rfl rfl (r_nil (r_back m1 [(0, _), (1, _), (7, _), (8, _)] (Nat.lt_succ_self m1) ⟨rfl, rfl, rfl, rfl, trivial⟩ ⟨_, hF, rfl, h⟩))))))
  refine r_exit rfl ?_
  obtain rfl := someI hF; replace hF := hK1
  exact r_seq (r_region (rp rfl rfl (r_nil (r_rI tabOk h hF ⟨rfl, trivial⟩))))

def slices_ContainsFunc_impl_Arc_impl_Cell_areArcs_1 (n : Nat) (s : (List TArc)) (f_0 : TArc) : Option Bool :=
  (slices_IndexFunc_impl_Arc_impl_Cell_areArcs_1 n s f_0).bind fun r1 =>
  some (decide (r1 ≥ 0))

theorem slices_ContainsFunc_impl_Arc_impl_Cell_areArcs_1_ok {n : Nat} {w : World} {s : (List TArc)} {f_0 : TArc} {cs1 : List Value} (ha1 : GoT.R w (old w) s cs1) {p2 : Option Addr} (ha2 : GoT.R w (old w) (some f_0) [.pointer p2]) {r : Bool} (hF : slices_ContainsFunc_impl_Arc_impl_Cell_areArcs_1 n s f_0 = some r) : RetV Tryz.prog 103 [GoT.v (List TArc) cs1, .func (.func 183) #[] #[.pointer p2]] w r := by
  obtain ⟨p1, k1, rfl, s1⟩ := ha1
  obtain ⟨b1, o_1, cs2, rfl, -, hr1, hc1⟩ := PtR.get ha2 rfl
  obtain ⟨p3, k2, p4, k3, rfl, s2, s3⟩ := open_TArc hr1
  refine retV_of_run Tryz.func103 rfl (m := 9) rfl rfl (fun h => ?_)
  rw [slices_ContainsFunc_impl_Arc_impl_Cell_areArcs_1] at hF
  refine r_seq (r_region (rp rfl rfl (r_nil (r_seq (r_region (rp rfl rfl (rp rfl rfl ?_)))))))
  obtain ⟨r1, hr2, hF⟩ := bindS hF
  refine r_callI r1 h call141 (slices_IndexFunc_impl_Arc_impl_Cell_areArcs_1_ok ⟨_, _, rfl, (h.oldS s1)⟩ (h.old ha2) hr2) rfl rfl rfl rfl ?_
  intro w1 h
  exact rp rfl rfl (rp rfl rfl (r_nil (r_rB tabOk h hF ⟨rfl, trivial⟩)))

def impl_Cell_areArcs_L1 (c : TCell) : Nat → Int → Option (Flow Bool Int)
  | 0, _ => none
  | n + 1, i1 =>
    bif decide (i1 < (c.Arcs.length : Int)) then
      (idx c.Arcs i1).bind fun y1 =>
      (impl_Cell_isArc n c y1).bind fun r1 =>
      bif (!r1) then
        some (.ret false)
      else
        (subS c.Arcs 0 i1).bind fun x1 =>
        (slices_ContainsFunc_impl_Arc_impl_Cell_areArcs_1 n x1 y1).bind fun r2 =>
        bif r2 then
          some (.ret false)
        else
          impl_Cell_areArcs_L1 c n (W64 (i1 + 1))
    else
      some (.nxt i1)

def impl_Cell_areArcs (n : Nat) (c : TCell) : Option Bool :=
  (impl_Cell_areArcs_L1 c n 0).bind fun o => match o with
  | .ret r => some r
  | .nxt _ =>
    some (decide ((c.Arcs.length : Int) ≤ 8))

theorem impl_Cell_areArcs_ok {n : Nat} {w : World} {c : TCell} {cs1 : List Value} (ha1 : GoT.R w (old w) c cs1) {r : Bool} (hF : impl_Cell_areArcs n c = some r) : RetV Tryz.prog 172 [GoT.v TCell cs1] w r := by
  obtain ⟨p1, k1, p2, k2, p3, k3, rfl, s1, s2, s3⟩ := open_TCell ha1
  refine retV_of_run Tryz.func172 rfl (m := 30) rfl rfl (fun h => ?_)
  rw [impl_Cell_areArcs] at hF
  refine r_seq (r_region (r_box h rfl rfl ?_))
  intro w1 bb1 h
  refine rp rfl rfl (r_nil (r_seq (r_seq (r_region (rp rfl rfl (r_v (v_ld tabOk (h.box 0 rfl) (j := 3) rfl rfl rfl) rfl (rp rfl rfl (rp rfl rfl (r_nil ?_)))))))))
  obtain ⟨o1, hF, hK1⟩ := bindS hF
  refine r_block (r_sub [(1, _), (6, _), (7, _), (8, _)] ⟨rfl, rfl, rfl, rfl, trivial⟩ ?_)
  refine r_loop (fun m e w' => ∃ (i1 : Int), impl_Cell_areArcs_L1 c m i1 = some o1 ∧ e = [(1, .pointer (some ⟨bb1, 0, none⟩)), (6, .slice p2 c.Arcs.length k2), (7, .int .i64 (c.Arcs.length : Int)), (8, .int .i64 i1)] ∧ SH w w' [Ch.box bb1 [.string c.Name, .int .i64 c.Kind, .slice p1 c.Pins.length k1, .slice p2 c.Arcs.length k2, .slice p3 c.Truth.length k3, .int .i64 c.Leak, .int .i64 c.Energy] 155]) n ⟨_, hF, rfl, h⟩ ?_
  rintro m1 e1 w2 ⟨i1, hF, rfl, h⟩
  rcases m1 with _ | m1
  · rw [impl_Cell_areArcs_L1] at hF
    cases hF
  rw [impl_Cell_areArcs_L1] at hF
  refine r_seq (r_region (rp rfl rfl (r_nil (r_seq ?_))))
  refine r_if rfl hF (fun hF => ?_) (fun hF => ?_)
  · refine r_skip (r_seq (r_block (r_seq (r_region (rp rfl rfl ?_)))))
    obtain ⟨y1, hy1, hF⟩ := bindS hF
    have he1 := idx_some hy1
    obtain ⟨b1, o_1, q1, cs2, hp1, hq1, -, hr1, hc2⟩ := s2.at hy1
    obtain ⟨p4, k4, p5, k5, rfl, s4, s5⟩ := open_TArc hr1
    refine r_v (v_ix tabOk hp1 hq1 ⟨he1.1, he1.2.1⟩ rfl rfl rfl rfl rfl rfl) rfl (r_v (v_ld tabOk (hc2.below h.below) (j := 0) rfl rfl rfl) rfl (r_alloc tabOk h rfl rfl rfl ?_))
    intro w3 bb2 h
    refine rp rfl rfl (r_stbox tabOk 0 h rfl rfl rfl rfl rfl rfl rfl ?_)
    intro w4 h
    refine r_nil (r_seq (r_region (r_v (v_ld tabOk (h.box 1 rfl) (j := 0) rfl rfl rfl) rfl (r_v (v_ld tabOk (h.box 0 rfl) (j := 0) rfl rfl rfl) rfl ?_))))
    obtain ⟨r1, hr2, hF⟩ := bindS hF
    refine r_callB r1 h call182 (impl_Cell_isArc_ok (h.old ha1) (mkR_TArc y1 (h.oldS s4) (h.oldS s5)) hr2) rfl rfl rfl rfl ?_
    intro w5 h
    refine rp rfl rfl (rp rfl rfl ?_)
    by_cases hc3 : (!r1) = true
    · replace hF := bifT hc3 hF
      refine r_setT hc3 (t := 17) rfl (r_not rfl rfl rfl (r_not rfl rfl rfl (r_not rfl rfl rfl (r_not rfl rfl rfl (r_not rfl rfl rfl (r_not rfl rfl rfl (rp rfl rfl (r_nil (r_condT rfl rfl (r_seq (r_region ?_)))))))))))
      refine rp rfl rfl (r_nil ?_)
      obtain rfl := someI hF; replace hF := hK1
      exact r_rB tabOk h hF ⟨rfl, trivial⟩
    replace hc3 := Bool.eq_false_iff.2 hc3
    replace hF := bifF hc3 hF
    refine r_setF hc3 (t := 17) rfl (r_wanted rfl (rp rfl rfl (r_wanted rfl (r_v (v_ld tabOk (h.box 1 rfl) (j := 3) rfl rfl rfl) rfl (r_wanted rfl (rp rfl rfl (r_wanted rfl ?_)))))))
    obtain ⟨x1, hx1, hF⟩ := bindS hF
    obtain ⟨p6, k6, hp2, hk1, hl1, g1⟩ := sub_of (h.oldS s2) hx1
    refine r_v (v_sliceE tabOk rfl rfl rfl (sub_ln g1 rfl) hp2 hk1 hl1 rfl rfl rfl rfl) rfl ?_
    have s6 := sub_at s2 hx1 hp2 hk1
    refine r_wanted rfl (rp rfl rfl (r_wanted rfl ?_))
    obtain ⟨r2, hr3, hF⟩ := bindS hF
    refine r_callB r2 h call103 (slices_ContainsFunc_impl_Arc_impl_Cell_areArcs_1_ok ⟨_, _, rfl, (h.oldS s6)⟩ (ptr_boxB (x := y1) 0 h rfl (mkR_TArc y1 (h.oldS s4) (h.oldS s5))) hr3) rfl rfl rfl rfl ?_
    intro w6 h
    refine rp rfl rfl (r_nil ?_)
    refine r_if rfl hF (fun hF => ?_) (fun hF => ?_)
    · refine r_seq (r_region (rp rfl rfl (r_nil ?_)))
      obtain rfl := someI hF; replace hF := hK1
      exact r_rB tabOk h hF ⟨rfl, trivial⟩
    refine r_skip (r_blk (r_region (rp rfl rfl (rp rfl rfl (r_nil ?_)))))
    replace h := h.pick [1] rfl
    exact r_back m1 [(1, _), (6, _), (7, _), (8, _)] (Nat.lt_succ_self m1) ⟨rfl, rfl, rfl, rfl, trivial⟩ ⟨_, hF, rfl, h⟩
  refine r_exit rfl ?_
  obtain rfl := someI hF; replace hF := hK1
  exact r_seq (r_region (rp rfl rfl (r_v (v_ld tabOk (h.box 0 rfl) (j := 3) rfl rfl rfl) rfl (rp rfl rfl (rp rfl rfl (rp rfl rfl (r_nil (r_rB tabOk h hF ⟨rfl, trivial⟩))))))))

def impl_Cell_has_1 (_ : Nat) (a : TArc) (v0 : Int) : Option Bool :=
  some (a.Kind == v0)

theorem impl_Cell_has_1_ok {n : Nat} {w : World} {a : TArc} {v0 : Int} {cs1 : List Value} (ha1 : GoT.R w (old w) a cs1) {p3 : Option Addr} (ha2 : GoT.R w (old w) (some v0) [.pointer p3]) {r : Bool} (hF : impl_Cell_has_1 n a v0 = some r) : RetV Tryz.prog 202 [GoT.v TArc cs1, .pointer p3] w r := by
  obtain ⟨p1, k1, p2, k2, rfl, s1, s2⟩ := open_TArc ha1
  obtain ⟨b1, o_1, cs2, rfl, -, hr1, hc1⟩ := PtR.get ha2 rfl
  obtain rfl := hr1
  refine retV_of_run Tryz.func202 rfl (m := 8) rfl rfl (fun h => ?_)
  rw [impl_Cell_has_1] at hF
  refine r_seq (r_region (r_box h rfl rfl ?_))
  intro w1 bb1 h
  exact rp rfl rfl (r_nil (r_seq (r_region (rp rfl rfl (r_v (v_ld tabOk (h.box 0 rfl) (j := 0) rfl rfl rfl) rfl (r_v (v_ld tabOk (hc1.below h.below) (j := 0) rfl rfl rfl) rfl (rp rfl rfl (rp rfl rfl (r_nil (r_rB tabOk h hF ⟨rfl, trivial⟩))))))))))

def slices_IndexFunc_impl_Arc_impl_Cell_has_1_L1 (s : (List TArc)) (f_0 : Int) : Nat → Int → Option (Flow Int Int)
  | 0, _ => none
  | n + 1, i1 =>
    bif decide (i1 < (s.length : Int)) then
      (idx s i1).bind fun y1 =>
      (impl_Cell_has_1 n y1 f_0).bind fun r1 =>
      bif r1 then
        some (.ret i1)
      else
        slices_IndexFunc_impl_Arc_impl_Cell_has_1_L1 s f_0 n (W64 (i1 + 1))
    else
      some (.nxt i1)

def slices_IndexFunc_impl_Arc_impl_Cell_has_1 (n : Nat) (s : (List TArc)) (f_0 : Int) : Option Int :=
  (slices_IndexFunc_impl_Arc_impl_Cell_has_1_L1 s f_0 n 0).bind fun o => match o with
  | .ret r => some r
  | .nxt _ =>
    some (-1)

theorem slices_IndexFunc_impl_Arc_impl_Cell_has_1_ok {n : Nat} {w : World} {s : (List TArc)} {f_0 : Int} {cs1 : List Value} (ha1 : GoT.R w (old w) s cs1) {p2 : Option Addr} (ha2 : GoT.R w (old w) (some f_0) [.pointer p2]) {r : Int} (hF : slices_IndexFunc_impl_Arc_impl_Cell_has_1 n s f_0 = some r) : RetV Tryz.prog 141 [GoT.v (List TArc) cs1, .func (.func 202) #[] #[.pointer p2]] w r := by
  obtain ⟨p1, k1, rfl, s1⟩ := ha1
  obtain ⟨b1, o_1, cs2, rfl, -, hr1, hc1⟩ := PtR.get ha2 rfl
  obtain rfl := hr1
  refine retV_of_run Tryz.func141 rfl (m := 19) rfl rfl (fun h => ?_)
  rw [slices_IndexFunc_impl_Arc_impl_Cell_has_1] at hF
  refine r_seq (r_region (rp rfl rfl (r_nil (r_seq (r_seq (r_region (rp rfl rfl (rp rfl rfl (rp rfl rfl (r_nil ?_))))))))))
  obtain ⟨o1, hF, hK1⟩ := bindS hF
  refine r_block (r_sub [(0, _), (1, _), (7, _), (8, _)] ⟨rfl, rfl, rfl, rfl, trivial⟩ ?_)
  refine r_loop (fun m e w' => ∃ (i1 : Int), slices_IndexFunc_impl_Arc_impl_Cell_has_1_L1 s f_0 m i1 = some o1 ∧ e = [(0, .slice p1 s.length k1), (1, .func (.func 202) #[] #[.pointer (some ⟨b1, o_1, none⟩)]), (7, .int .i64 (s.length : Int)), (8, .int .i64 i1)] ∧ SH w w' []) n ⟨_, hF, rfl, h⟩ ?_
  rintro m1 e1 w1 ⟨i1, hF, rfl, h⟩
  rcases m1 with _ | m1
  · rw [slices_IndexFunc_impl_Arc_impl_Cell_has_1_L1] at hF
    cases hF
  rw [slices_IndexFunc_impl_Arc_impl_Cell_has_1_L1] at hF
  refine r_seq (r_region (rp rfl rfl (r_nil (r_seq ?_))))
  refine r_if rfl hF (fun hF => ?_) (fun hF => ?_)
  · refine r_skip (r_seq (r_block (r_seq (r_region (rp rfl rfl (rp rfl rfl (r_nil (r_seq (r_region (rp rfl rfl (rp rfl rfl ?_)))))))))))
    refine rp rfl rfl ?_
    obtain ⟨y1, hy1, hF⟩ := bindS hF
    have he1 := idx_some hy1
    obtain ⟨b2, o_2, q1, cs3, hp1, hq1, -, hr2, hc3⟩ := s1.at hy1
    obtain ⟨p3, k2, p4, k3, rfl, s2, s3⟩ := open_TArc hr2
    refine r_v (v_ix tabOk hp1 hq1 ⟨he1.1, he1.2.1⟩ rfl rfl rfl rfl rfl rfl) rfl (r_v (v_ld tabOk (hc3.below h.below) (j := 0) rfl rfl rfl) rfl ?_)
    obtain ⟨r1, hr3, hF⟩ := bindS hF
    refine r_callB r1 h call202 (impl_Cell_has_1_ok (mkR_TArc y1 (h.oldS s2) (h.oldS s3)) (h.old ha2) hr3) rfl rfl rfl rfl ?_
    intro w2 h
    refine r_nil ?_
    refine r_if rfl hF (fun hF => ?_) (fun hF => ?_)
    · refine r_seq (r_region (rp rfl rfl (rp rfl rfl (r_nil ?_))))
      obtain rfl := someI hF; replace hF := hK1
      exact r_rI tabOk h hF ⟨rfl, trivial⟩
    exact r_skip (r_blk (r_region (rp rfl rfl (rp rfl rfl (r_nil (r_back m1 [(0, _), (1, _), (7, _), (8, _)] (Nat.lt_succ_self m1) ⟨rfl, rfl, rfl, rfl, trivial⟩ ⟨_, hF, rfl, h⟩))))))
  refine r_exit rfl ?_
  obtain rfl := someI hF; replace hF := hK1
  exact r_seq (r_region (rp rfl rfl (r_nil (r_rI tabOk h hF ⟨rfl, trivial⟩))))

def slices_ContainsFunc_impl_Arc_impl_Cell_has_1 (n : Nat) (s : (List TArc)) (f_0 : Int) : Option Bool :=
  (slices_IndexFunc_impl_Arc_impl_Cell_has_1 n s f_0).bind fun r1 =>
  some (decide (r1 ≥ 0))

theorem slices_ContainsFunc_impl_Arc_impl_Cell_has_1_ok {n : Nat} {w : World} {s : (List TArc)} {f_0 : Int} {cs1 : List Value} (ha1 : GoT.R w (old w) s cs1) {p2 : Option Addr} (ha2 : GoT.R w (old w) (some f_0) [.pointer p2]) {r : Bool} (hF : slices_ContainsFunc_impl_Arc_impl_Cell_has_1 n s f_0 = some r) : RetV Tryz.prog 103 [GoT.v (List TArc) cs1, .func (.func 202) #[] #[.pointer p2]] w r := by
  obtain ⟨p1, k1, rfl, s1⟩ := ha1
  obtain ⟨b1, o_1, cs2, rfl, -, hr1, hc1⟩ := PtR.get ha2 rfl
  obtain rfl := hr1
  refine retV_of_run Tryz.func103 rfl (m := 9) rfl rfl (fun h => ?_)
  rw [slices_ContainsFunc_impl_Arc_impl_Cell_has_1] at hF
  refine r_seq (r_region (rp rfl rfl (r_nil (r_seq (r_region (rp rfl rfl (rp rfl rfl ?_)))))))
  obtain ⟨r1, hr2, hF⟩ := bindS hF
  refine r_callI r1 h call141 (slices_IndexFunc_impl_Arc_impl_Cell_has_1_ok ⟨_, _, rfl, (h.oldS s1)⟩ (h.old ha2) hr2) rfl rfl rfl rfl ?_
  intro w1 h
  exact rp rfl rfl (rp rfl rfl (r_nil (r_rB tabOk h hF ⟨rfl, trivial⟩)))

def impl_Cell_has (n : Nat) (c : TCell) (kind : Int) : Option Bool :=
  (slices_ContainsFunc_impl_Arc_impl_Cell_has_1 n c.Arcs kind).bind fun r1 =>
  some r1

theorem impl_Cell_has_ok {n : Nat} {w : World} {c : TCell} {kind : Int} {cs1 : List Value} (ha1 : GoT.R w (old w) c cs1) {r : Bool} (hF : impl_Cell_has n c kind = some r) : RetV Tryz.prog 184 [GoT.v TCell cs1, .int .i64 kind] w r := by
  obtain ⟨p1, k1, p2, k2, p3, k3, rfl, s1, s2, s3⟩ := open_TCell ha1
  refine retV_of_run Tryz.func184 rfl (m := 9) rfl rfl (fun h => ?_)
  rw [impl_Cell_has] at hF
  refine r_seq (r_region (r_box h rfl rfl ?_))
  intro w1 bb1 h
  refine r_box h rfl rfl ?_
  intro w2 bb2 h
  refine rp rfl rfl (r_nil (r_seq (r_region (rp rfl rfl (r_v (v_ld tabOk (h.box 1 rfl) (j := 3) rfl rfl rfl) rfl (rp rfl rfl ?_))))))
  obtain ⟨r1, hr1, hF⟩ := bindS hF
  refine r_callB r1 h call103 (slices_ContainsFunc_impl_Arc_impl_Cell_has_1_ok ⟨_, _, rfl, (h.oldS s2)⟩ (ptr_boxB (x := kind) 0 h rfl rfl) hr1) rfl rfl rfl rfl ?_
  intro w3 h
  exact rp rfl rfl (r_nil (r_rB tabOk h hF ⟨rfl, trivial⟩))

def impl_Cell_isOfKind_L1 (a_0 : TCell) : Nat → Int → Int → Option (Int × Int)
  | 0, _, _ => none
  | n + 1, i1, i2 =>
    bif decide (i2 < (a_0.Pins.length : Int)) then
      (idx a_0.Pins i2).bind fun y1 =>
      bif y1.Clock then
        impl_Cell_isOfKind_L1 a_0 n (W64 (i1 + 1)) (W64 (i2 + 1))
      else
        impl_Cell_isOfKind_L1 a_0 n i1 (W64 (i2 + 1))
    else
      some (i1, i2)

def impl_Cell_isOfKind (n : Nat) (a_0 : TCell) : Option Bool :=
  (impl_Cell_isOfKind_L1 a_0 n 0 0).bind fun o => match o with
  | (i1, _) =>
    bif (a_0.Kind == 1) then
      bif (i1 == 0) then
        (impl_Cell_output n a_0).bind fun r1 =>
        (shlS 1 r1).bind fun y2 =>
        bif ((a_0.Truth.length : Int) == y2) then
          (impl_areWithin n a_0.Truth 0 1).bind fun r2 =>
          some r2
        else
          some false
      else
        some false
    else
      bif (a_0.Kind == 2) then
        bif (i1 == 1) then
          bif ((a_0.Truth.length : Int) == 0) then
            (impl_Cell_has n a_0 1).bind fun r3 =>
            bif (!r3) then
              (impl_Cell_has n a_0 2).bind fun r4 =>
              (impl_Cell_has n a_0 3).bind fun r5 =>
              some (!(r4 == r5))
            else
              some false
          else
            some false
        else
          some false
      else
        bif (a_0.Kind == 3) then
          bif (i1 == 1) then
            bif ((a_0.Truth.length : Int) == 0) then
              (impl_Cell_has n a_0 1).bind fun r6 =>
              bif r6 then
                (impl_Cell_has n a_0 2).bind fun r7 =>
                bif r7 then
                  (impl_Cell_has n a_0 3).bind fun r8 =>
                  some (!r8)
                else
                  some false
              else
                some false
            else
              some false
          else
            some false
        else
          some false

theorem impl_Cell_isOfKind_ok {n : Nat} {w : World} {a_0 : TCell} {cs1 : List Value} (ha1 : GoT.R w (old w) a_0 cs1) {r : Bool} (hF : impl_Cell_isOfKind n a_0 = some r) : RetV Tryz.prog 173 [GoT.v TCell cs1] w r := by
  obtain ⟨p1, k1, p2, k2, p3, k3, rfl, s1, s2, s3⟩ := open_TCell ha1
  refine retV_of_run Tryz.func173 rfl (m := 83) rfl rfl (fun h => ?_)
  rw [impl_Cell_isOfKind] at hF
  refine r_seq (r_region (r_box h rfl rfl ?_))
  intro w1 bb1 h
  refine rp rfl rfl (r_nil (r_seq (r_region (rp rfl rfl (r_nil (r_seq (r_seq (r_region (rp rfl rfl (r_v (v_ld tabOk (h.box 0 rfl) (j := 2) rfl rfl rfl) rfl (rp rfl rfl ?_)))))))))))
  refine rp rfl rfl (r_nil ?_)
  obtain ⟨o1, hF, hK1⟩ := bindS hF
  refine r_block (r_sub [(1, _), (3, _), (7, _), (8, _), (9, _)] ⟨rfl, rfl, rfl, rfl, rfl, trivial⟩ ?_)
  refine r_loop (fun m e w' => ∃ (i1 : Int) (i2 : Int), impl_Cell_isOfKind_L1 a_0 m i1 i2 = some o1 ∧ e = [(1, .pointer (some ⟨bb1, 0, none⟩)), (3, .int .i64 i1), (7, .slice p1 a_0.Pins.length k1), (8, .int .i64 (a_0.Pins.length : Int)), (9, .int .i64 i2)] ∧ SH w w' [Ch.box bb1 [.string a_0.Name, .int .i64 a_0.Kind, .slice p1 a_0.Pins.length k1, .slice p2 a_0.Arcs.length k2, .slice p3 a_0.Truth.length k3, .int .i64 a_0.Leak, .int .i64 a_0.Energy] 155]) n ⟨_, _, hF, rfl, h⟩ ?_
  rintro m1 e1 w2 ⟨i1, i2, hF, rfl, h⟩
  rcases m1 with _ | m1
  · rw [impl_Cell_isOfKind_L1] at hF
    cases hF
  rw [impl_Cell_isOfKind_L1] at hF
  refine r_seq (r_region (rp rfl rfl (r_nil (r_seq ?_))))
  refine r_if rfl hF (fun hF => ?_) (fun hF => ?_)
  · refine r_skip (r_seq (r_block (r_seq (r_region ?_))))
    obtain ⟨y1, hy1, hF⟩ := bindS hF
    have he1 := idx_some hy1
    obtain ⟨b1, o_1, q1, cs2, hp1, hq1, -, hr1, hc2⟩ := s1.at hy1
    obtain rfl := open_TPin hr1
    refine r_v (v_ix tabOk hp1 hq1 ⟨he1.1, he1.2.1⟩ rfl rfl rfl rfl rfl rfl) rfl (r_v (v_ld tabOk (hc2.below h.below) (j := 0) rfl rfl rfl) rfl (r_alloc tabOk h rfl rfl rfl ?_))
    intro w3 bb2 h
    refine r_stbox tabOk 0 h rfl rfl rfl rfl rfl rfl rfl ?_
    intro w4 h
    refine r_nil (r_seq (r_region (rp rfl rfl (r_v (v_ld tabOk (h.box 0 rfl) (j := 3) rfl rfl rfl) rfl (r_nil ?_)))))
    refine r_if rfl hF (fun hF => ?_) (fun hF => ?_)
    · refine r_region (rp rfl rfl (rp rfl rfl (rp rfl rfl (r_nil (r_blk (r_region (rp rfl rfl (rp rfl rfl (r_nil ?_)))))))))
      replace h := h.pick [1] rfl
      exact r_back m1 [(1, _), (3, _), (7, _), (8, _), (9, _)] (Nat.lt_succ_self m1) ⟨rfl, rfl, rfl, rfl, rfl, trivial⟩ ⟨_, _, hF, rfl, h⟩
    refine r_skip (r_blk (r_region (rp rfl rfl (rp rfl rfl (r_nil ?_)))))
    replace h := h.pick [1] rfl
    exact r_back m1 [(1, _), (3, _), (7, _), (8, _), (9, _)] (Nat.lt_succ_self m1) ⟨rfl, rfl, rfl, rfl, rfl, trivial⟩ ⟨_, _, hF, rfl, h⟩
  refine r_exit rfl ?_
  obtain rfl := someI hF; replace hF := hK1
  refine r_seq (r_seq (r_region (rp rfl rfl (r_v (v_ld tabOk (h.box 0 rfl) (j := 1) rfl rfl rfl) rfl (r_nil (r_block (r_seq (r_region (rp rfl rfl (rp rfl rfl (r_nil ?_)))))))))))
  refine r_if rfl hF (fun hF => ?_) (fun hF => ?_)
  · refine r_seq ?_
    refine r_draw rfl (by kernel_rfl) ?_
    refine dp rfl rfl (dp rfl rfl (dp rfl rfl ?_))
    by_cases hc5 : (i1 == 0) = true
    · replace hF := bifT hc5 hF
      refine d_setT hc5 (t := 24) rfl (d_wanted rfl (dp rfl rfl (d_wanted rfl ?_)))
      refine d_v (fun _ hb => v_ld tabOk ((h.box 0 rfl).below hb) (j := 4) rfl rfl rfl) rfl ?_
      refine d_wanted rfl (dp rfl rfl (d_wanted rfl ?_))
      refine d_v (fun _ hb => v_ld tabOk ((h.box 0 rfl).below hb) (j := 0) rfl rfl rfl) rfl ?_
      refine d_wanted rfl ?_
      obtain ⟨r1, hr2, hF⟩ := bindS hF
      refine d_call r1 (vsI _) call106 (fun _ hb => impl_Cell_output_ok ((h.ext hb).old ha1) hr2) rfl rfl rfl rfl ?_
      refine d_wanted rfl ?_
      obtain ⟨y2, hx1, hF⟩ := bindS hF
      obtain ⟨g1, hx1⟩ := shlS_some hx1
      refine d_v (fun _ hb => v_shl g1 rfl rfl) rfl ?_
      rw [hx1]
      refine d_wanted rfl (dp rfl rfl (dp rfl rfl (dp rfl rfl ?_)))
      by_cases hc6 : ((a_0.Truth.length : Int) == y2) = true
      · replace hF := bifT hc6 hF
        refine d_setT hc6 (t := 33) rfl (d_wanted rfl (dp rfl rfl (d_wanted rfl ?_)))
        refine d_v (fun _ hb => v_ld tabOk ((h.box 0 rfl).below hb) (j := 4) rfl rfl rfl) rfl ?_
        refine d_wanted rfl ?_
        obtain ⟨r2, hr3, hF⟩ := bindS hF
        refine d_call r2 (vsB _) call82 (fun _ hb => impl_areWithin_ok ⟨_, _, rfl, ((h.ext hb).oldS s3)⟩ hr3) rfl rfl rfl rfl ?_
        refine dp rfl rfl (dp rfl rfl ?_)
        refine d_nil (fun w5 hb => ?_)
        replace h := h.ext hb
        clear hb
        exact r_rB tabOk h hF ⟨rfl, trivial⟩
      replace hc6 := Bool.eq_false_iff.2 hc6
      replace hF := bifF hc6 hF
      refine d_setF hc6 (t := 33) rfl (d_not rfl rfl rfl (d_not rfl rfl rfl (d_not rfl rfl rfl (dp rfl rfl (dp rfl rfl ?_)))))
      refine d_nil (fun w6 hb => ?_)
      replace h := h.ext hb
      clear hb
      exact r_rB tabOk h hF ⟨rfl, trivial⟩
    replace hc5 := Bool.eq_false_iff.2 hc5
    replace hF := bifF hc5 hF
    refine d_setF hc5 (t := 24) rfl (d_not rfl rfl rfl (d_not rfl rfl rfl (d_not rfl rfl rfl (d_not rfl rfl rfl (d_not rfl rfl rfl (d_not rfl rfl rfl (d_not rfl rfl rfl (dp rfl rfl (dp rfl rfl (d_not rfl rfl rfl (d_not rfl rfl rfl ?_)))))))))))
    refine d_not rfl rfl rfl (dp rfl rfl (dp rfl rfl ?_))
    refine d_nil (fun w7 hb => ?_)
    replace h := h.ext hb
    clear hb
    exact r_rB tabOk h hF ⟨rfl, trivial⟩
  refine r_seq (r_region (rp rfl rfl (rp rfl rfl (r_nil ?_))))
  refine r_if rfl hF (fun hF => ?_) (fun hF => ?_)
  · refine r_seq ?_
    refine r_draw rfl (by kernel_rfl) ?_
    refine dp rfl rfl (dp rfl rfl (dp rfl rfl ?_))
    by_cases hc8 : (i1 == 1) = true
    · replace hF := bifT hc8 hF
      refine d_setT hc8 (t := 42) rfl (d_wanted rfl (dp rfl rfl (d_wanted rfl ?_)))
      refine d_v (fun _ hb => v_ld tabOk ((h.box 0 rfl).below hb) (j := 4) rfl rfl rfl) rfl ?_
      refine d_wanted rfl (dp rfl rfl (d_wanted rfl (dp rfl rfl (dp rfl rfl (dp rfl rfl ?_)))))
      by_cases hc9 : ((a_0.Truth.length : Int) == 0) = true
      · replace hF := bifT hc9 hF
        refine d_setT hc9 (t := 48) rfl (d_wanted rfl ?_)
        refine d_v (fun _ hb => v_ld tabOk ((h.box 0 rfl).below hb) (j := 0) rfl rfl rfl) rfl ?_
        refine d_wanted rfl ?_
        obtain ⟨r3, hr4, hF⟩ := bindS hF
        refine d_call r3 (vsB _) call184 (fun _ hb => impl_Cell_has_ok ((h.ext hb).old ha1) hr4) rfl rfl rfl rfl ?_
        refine d_wanted rfl (dp rfl rfl (dp rfl rfl (dp rfl rfl ?_)))
        by_cases hc10 : (!r3) = true
        · replace hF := bifT hc10 hF
          refine d_setT hc10 (t := 53) rfl (d_wanted rfl ?_)
          refine d_v (fun _ hb => v_ld tabOk ((h.box 0 rfl).below hb) (j := 0) rfl rfl rfl) rfl ?_
          refine d_wanted rfl ?_
          obtain ⟨r4, hr5, hF⟩ := bindS hF
          refine d_call r4 (vsB _) call184 (fun _ hb => impl_Cell_has_ok ((h.ext hb).old ha1) hr5) rfl rfl rfl rfl ?_
          refine d_wanted rfl ?_
          refine d_v (fun _ hb => v_ld tabOk ((h.box 0 rfl).below hb) (j := 0) rfl rfl rfl) rfl ?_
          refine d_wanted rfl ?_
          obtain ⟨r5, hr6, hF⟩ := bindS hF
          refine d_call r5 (vsB _) call184 (fun _ hb => impl_Cell_has_ok ((h.ext hb).old ha1) hr6) rfl rfl rfl rfl ?_
          refine d_wanted rfl (dp rfl rfl (dp rfl rfl (dp rfl rfl ?_)))
          refine d_nil (fun w8 hb => ?_)
          replace h := h.ext hb
          clear hb
          exact r_rB tabOk h hF ⟨rfl, trivial⟩
        replace hc10 := Bool.eq_false_iff.2 hc10
        replace hF := bifF hc10 hF
        refine d_setF hc10 (t := 53) rfl (d_not rfl rfl rfl (d_not rfl rfl rfl (d_not rfl rfl rfl (d_not rfl rfl rfl (d_not rfl rfl rfl (dp rfl rfl (dp rfl rfl ?_)))))))
        refine d_nil (fun w9 hb => ?_)
        replace h := h.ext hb
        clear hb
        exact r_rB tabOk h hF ⟨rfl, trivial⟩
      replace hc9 := Bool.eq_false_iff.2 hc9
      replace hF := bifF hc9 hF
      refine d_setF hc9 (t := 48) rfl (d_not rfl rfl rfl (d_not rfl rfl rfl (d_not rfl rfl rfl (dp rfl rfl (dp rfl rfl (d_not rfl rfl rfl (d_not rfl rfl rfl (d_not rfl rfl rfl (d_not rfl rfl rfl (d_not rfl rfl rfl (dp rfl rfl ?_)))))))))))
      refine dp rfl rfl ?_
      refine d_nil (fun w10 hb => ?_)
      replace h := h.ext hb
      clear hb
      exact r_rB tabOk h hF ⟨rfl, trivial⟩
    replace hc8 := Bool.eq_false_iff.2 hc8
    replace hF := bifF hc8 hF
    refine d_setF hc8 (t := 42) rfl (d_not rfl rfl rfl (d_not rfl rfl rfl (d_not rfl rfl rfl (d_not rfl rfl rfl (dp rfl rfl (dp rfl rfl (d_not rfl rfl rfl (d_not rfl rfl rfl (d_not rfl rfl rfl (dp rfl rfl (dp rfl rfl ?_)))))))))))
    refine d_not rfl rfl rfl (d_not rfl rfl rfl (d_not rfl rfl rfl (d_not rfl rfl rfl (d_not rfl rfl rfl (dp rfl rfl (dp rfl rfl ?_))))))
    refine d_nil (fun w11 hb => ?_)
    replace h := h.ext hb
    clear hb
    exact r_rB tabOk h hF ⟨rfl, trivial⟩
  refine r_seq (r_region (rp rfl rfl (rp rfl rfl (r_nil ?_))))
  refine r_if rfl hF (fun hF => ?_) (fun hF => ?_)
  · refine r_seq (r_region (rp rfl rfl (rp rfl rfl (rp rfl rfl ?_))))
    by_cases hc12 : (i1 == 1) = true
    · replace hF := bifT hc12 hF
      refine r_setT hc12 (t := 64) rfl (r_wanted rfl (rp rfl rfl (r_wanted rfl (r_v (v_ld tabOk (h.box 0 rfl) (j := 4) rfl rfl rfl) rfl (r_wanted rfl (rp rfl rfl (r_wanted rfl (rp rfl rfl (rp rfl rfl (rp rfl rfl ?_))))))))))
      by_cases hc13 : ((a_0.Truth.length : Int) == 0) = true
      · replace hF := bifT hc13 hF
        refine r_setT hc13 (t := 70) rfl (r_wanted rfl (r_v (v_ld tabOk (h.box 0 rfl) (j := 0) rfl rfl rfl) rfl (r_wanted rfl ?_)))
        obtain ⟨r6, hr7, hF⟩ := bindS hF
        refine r_callB r6 h call184 (impl_Cell_has_ok (h.old ha1) hr7) rfl rfl rfl rfl ?_
        intro w12 h
        refine rp rfl rfl (rp rfl rfl ?_)
        by_cases hc14 : r6 = true
        · replace hF := bifT hc14 hF
          refine r_setT hc14 (t := 74) rfl (r_wanted rfl (r_v (v_ld tabOk (h.box 0 rfl) (j := 0) rfl rfl rfl) rfl (r_wanted rfl ?_)))
          obtain ⟨r7, hr8, hF⟩ := bindS hF
          refine r_callB r7 h call184 (impl_Cell_has_ok (h.old ha1) hr8) rfl rfl rfl rfl ?_
          intro w13 h
          refine rp rfl rfl (rp rfl rfl ?_)
          by_cases hc15 : r7 = true
          · replace hF := bifT hc15 hF
            refine r_setT hc15 (t := 78) rfl (r_wanted rfl (r_v (v_ld tabOk (h.box 0 rfl) (j := 0) rfl rfl rfl) rfl (r_wanted rfl ?_)))
            obtain ⟨r8, hr9, hF⟩ := bindS hF
            refine r_callB r8 h call184 (impl_Cell_has_ok (h.old ha1) hr9) rfl rfl rfl rfl ?_
            intro w14 h
            exact r_wanted rfl (rp rfl rfl (rp rfl rfl (rp rfl rfl (r_nil (r_rB tabOk h hF ⟨rfl, trivial⟩)))))
          replace hc15 := Bool.eq_false_iff.2 hc15
          replace hF := bifF hc15 hF
          exact r_setF hc15 (t := 78) rfl (r_not rfl rfl rfl (r_not rfl rfl rfl (r_not rfl rfl rfl (rp rfl rfl (rp rfl rfl (r_nil (r_rB tabOk h hF ⟨rfl, trivial⟩)))))))
        replace hc14 := Bool.eq_false_iff.2 hc14
        replace hF := bifF hc14 hF
        exact r_setF hc14 (t := 74) rfl (r_not rfl rfl rfl (r_not rfl rfl rfl (rp rfl rfl (rp rfl rfl (r_not rfl rfl rfl (r_not rfl rfl rfl (r_not rfl rfl rfl (rp rfl rfl (rp rfl rfl (r_nil (r_rB tabOk h hF ⟨rfl, trivial⟩)))))))))))
      replace hc13 := Bool.eq_false_iff.2 hc13
      replace hF := bifF hc13 hF
      refine r_setF hc13 (t := 70) rfl (r_not rfl rfl rfl (r_not rfl rfl rfl (rp rfl rfl (rp rfl rfl (r_not rfl rfl rfl (r_not rfl rfl rfl (rp rfl rfl (rp rfl rfl (r_not rfl rfl rfl (r_not rfl rfl rfl (r_not rfl rfl rfl ?_)))))))))))
      exact rp rfl rfl (rp rfl rfl (r_nil (r_rB tabOk h hF ⟨rfl, trivial⟩)))
    replace hc12 := Bool.eq_false_iff.2 hc12
    replace hF := bifF hc12 hF
    refine r_setF hc12 (t := 64) rfl (r_not rfl rfl rfl (r_not rfl rfl rfl (r_not rfl rfl rfl (r_not rfl rfl rfl (rp rfl rfl (rp rfl rfl (r_not rfl rfl rfl (r_not rfl rfl rfl (rp rfl rfl (rp rfl rfl (r_not rfl rfl rfl ?_)))))))))))
    exact r_not rfl rfl rfl (rp rfl rfl (rp rfl rfl (r_not rfl rfl rfl (r_not rfl rfl rfl (r_not rfl rfl rfl (rp rfl rfl (rp rfl rfl (r_nil (r_rB tabOk h hF ⟨rfl, trivial⟩)))))))))
  exact r_skip (r_blk (r_seq (r_region (rp rfl rfl (r_nil (r_rB tabOk h hF ⟨rfl, trivial⟩))))))

def impl_IsCell (n : Nat) (c : TCell) : Option Bool :=
  (impl_isName n c.Name).bind fun r1 =>
  bif r1 then
    (impl_arePins n c.Pins).bind fun r2 =>
    bif r2 then
      (impl_Cell_areArcs n c).bind fun r3 =>
      bif r3 then
        (impl_within n c.Leak 0 100000).bind fun r4 =>
        bif r4 then
          (impl_within n c.Energy 0 100000).bind fun r5 =>
          bif r5 then
            (impl_Cell_isOfKind n c).bind fun r6 =>
            some r6
          else
            some false
        else
          some false
      else
        some false
    else
      some false
  else
    some false

theorem impl_IsCell_ok {n : Nat} {w : World} {c : TCell} {cs1 : List Value} (ha1 : GoT.R w (old w) c cs1) {r : Bool} (hF : impl_IsCell n c = some r) : RetV Tryz.prog 153 [GoT.v TCell cs1] w r := by
  obtain ⟨p1, k1, p2, k2, p3, k3, rfl, s1, s2, s3⟩ := open_TCell ha1
  refine retV_of_run Tryz.func153 rfl (m := 29) rfl rfl (fun h => ?_)
  rw [impl_IsCell] at hF
  refine r_seq (r_region (r_box h rfl rfl ?_))
  intro w1 bb1 h
  refine rp rfl rfl (r_nil (r_seq (r_region (rp rfl rfl (r_v (v_ld tabOk (h.box 0 rfl) (j := 0) rfl rfl rfl) rfl ?_)))))
  obtain ⟨r1, hr1, hF⟩ := bindS hF
  refine r_callB r1 h call170 (impl_isName_ok hr1) rfl rfl rfl rfl ?_
  intro w2 h
  refine rp rfl rfl ?_
  by_cases hc1 : r1 = true
  · replace hF := bifT hc1 hF
    refine r_setT hc1 (t := 6) rfl (r_wanted rfl (rp rfl rfl (r_wanted rfl (r_v (v_ld tabOk (h.box 0 rfl) (j := 2) rfl rfl rfl) rfl (r_wanted rfl ?_)))))
    obtain ⟨r2, hr2, hF⟩ := bindS hF
    refine r_callB r2 h call171 (impl_arePins_ok ⟨_, _, rfl, (h.oldS s1)⟩ hr2) rfl rfl rfl rfl ?_
    intro w3 h
    refine rp rfl rfl (rp rfl rfl ?_)
    by_cases hc2 : r2 = true
    · replace hF := bifT hc2 hF
      refine r_setT hc2 (t := 11) rfl (r_wanted rfl (r_v (v_ld tabOk (h.box 0 rfl) (j := 0) rfl rfl rfl) rfl (r_wanted rfl ?_)))
      obtain ⟨r3, hr3, hF⟩ := bindS hF
      refine r_callB r3 h call172 (impl_Cell_areArcs_ok (h.old ha1) hr3) rfl rfl rfl rfl ?_
      intro w4 h
      refine rp rfl rfl (rp rfl rfl ?_)
      by_cases hc3 : r3 = true
      · replace hF := bifT hc3 hF
        refine r_setT hc3 (t := 15) rfl (r_wanted rfl (rp rfl rfl (r_wanted rfl (r_v (v_ld tabOk (h.box 0 rfl) (j := 5) rfl rfl rfl) rfl (r_wanted rfl ?_)))))
        obtain ⟨r4, hr4, hF⟩ := bindS hF
        refine r_callB r4 h call100 (impl_within_ok hr4) rfl rfl rfl rfl ?_
        intro w5 h
        refine rp rfl rfl (rp rfl rfl ?_)
        by_cases hc4 : r4 = true
        · replace hF := bifT hc4 hF
          refine r_setT hc4 (t := 20) rfl (r_wanted rfl (rp rfl rfl (r_wanted rfl (r_v (v_ld tabOk (h.box 0 rfl) (j := 6) rfl rfl rfl) rfl (r_wanted rfl ?_)))))
          obtain ⟨r5, hr5, hF⟩ := bindS hF
          refine r_callB r5 h call100 (impl_within_ok hr5) rfl rfl rfl rfl ?_
          intro w6 h
          refine rp rfl rfl (rp rfl rfl ?_)
          by_cases hc5 : r5 = true
          · replace hF := bifT hc5 hF
            refine r_setT hc5 (t := 25) rfl (r_wanted rfl (r_v (v_ld tabOk (h.box 0 rfl) (j := 0) rfl rfl rfl) rfl (r_wanted rfl ?_)))
            obtain ⟨r6, hr6, hF⟩ := bindS hF
            refine r_callB r6 h call173 (impl_Cell_isOfKind_ok (h.old ha1) hr6) rfl rfl rfl rfl ?_
            intro w7 h
            exact rp rfl rfl (rp rfl rfl (r_nil (r_rB tabOk h hF ⟨rfl, trivial⟩)))
          replace hc5 := Bool.eq_false_iff.2 hc5
          replace hF := bifF hc5 hF
          exact r_setF hc5 (t := 25) rfl (r_not rfl rfl rfl (r_not rfl rfl rfl (rp rfl rfl (rp rfl rfl (r_nil (r_rB tabOk h hF ⟨rfl, trivial⟩))))))
        replace hc4 := Bool.eq_false_iff.2 hc4
        replace hF := bifF hc4 hF
        exact r_setF hc4 (t := 20) rfl (r_not rfl rfl rfl (r_not rfl rfl rfl (r_not rfl rfl rfl (rp rfl rfl (rp rfl rfl (r_not rfl rfl rfl (r_not rfl rfl rfl (rp rfl rfl (rp rfl rfl (r_nil (r_rB tabOk h hF ⟨rfl, trivial⟩)))))))))))
      replace hc3 := Bool.eq_false_iff.2 hc3
      replace hF := bifF hc3 hF
      refine r_setF hc3 (t := 15) rfl (r_not rfl rfl rfl (r_not rfl rfl rfl (r_not rfl rfl rfl (rp rfl rfl (rp rfl rfl (r_not rfl rfl rfl (r_not rfl rfl rfl (r_not rfl rfl rfl (rp rfl rfl (rp rfl rfl (r_not rfl rfl rfl ?_)))))))))))
      exact r_not rfl rfl rfl (rp rfl rfl (rp rfl rfl (r_nil (r_rB tabOk h hF ⟨rfl, trivial⟩))))
    replace hc2 := Bool.eq_false_iff.2 hc2
    replace hF := bifF hc2 hF
    refine r_setF hc2 (t := 11) rfl (r_not rfl rfl rfl (r_not rfl rfl rfl (rp rfl rfl (rp rfl rfl (r_not rfl rfl rfl (r_not rfl rfl rfl (r_not rfl rfl rfl (rp rfl rfl (rp rfl rfl (r_not rfl rfl rfl (r_not rfl rfl rfl ?_)))))))))))
    exact r_not rfl rfl rfl (rp rfl rfl (rp rfl rfl (r_not rfl rfl rfl (r_not rfl rfl rfl (rp rfl rfl (rp rfl rfl (r_nil (r_rB tabOk h hF ⟨rfl, trivial⟩))))))))
  replace hc1 := Bool.eq_false_iff.2 hc1
  replace hF := bifF hc1 hF
  refine r_setF hc1 (t := 6) rfl (r_not rfl rfl rfl (r_not rfl rfl rfl (r_not rfl rfl rfl (rp rfl rfl (rp rfl rfl (r_not rfl rfl rfl (r_not rfl rfl rfl (rp rfl rfl (rp rfl rfl (r_not rfl rfl rfl (r_not rfl rfl rfl ?_)))))))))))
  refine r_not rfl rfl rfl (rp rfl rfl (rp rfl rfl (r_not rfl rfl rfl (r_not rfl rfl rfl (r_not rfl rfl rfl (rp rfl rfl (rp rfl rfl (r_not rfl rfl rfl (r_not rfl rfl rfl (rp rfl rfl (rp rfl rfl ?_)))))))))))
  exact r_nil (r_rB tabOk h hF ⟨rfl, trivial⟩)

def impl_IsLibrary_L1 (l : TLibrary) : Nat → (List ByteArray) → Int → Option (Flow Bool ((List ByteArray) × Int))
  | 0, _, _ => none
  | n + 1, x1, i1 =>
    bif decide (i1 < (l.Cells.length : Int)) then
      (idx l.Cells i1).bind fun y1 =>
      (impl_IsCell n y1).bind fun r1 =>
      bif (!r1) then
        some (.ret false)
      else
        (appS x1 ([y1.Name] : List ByteArray)).bind fun x2 =>
        impl_IsLibrary_L1 l n x2 (W64 (i1 + 1))
    else
      some (.nxt (x1, i1))

def impl_IsLibrary (n : Nat) (l : TLibrary) : Option Bool :=
  (impl_IsLibrary_L1 l n ([] : List ByteArray) 0).bind fun o => match o with
  | .ret r => some r
  | .nxt (x1, _) =>
    bif decide ((l.Cells.length : Int) ≤ 8) then
      (impl_areNames n x1).bind fun r2 =>
      some r2
    else
      some false

theorem impl_IsLibrary_ok {n : Nat} {w : World} {l : TLibrary} {cs1 : List Value} (ha1 : GoT.R w (old w) l cs1) {r : Bool} (hF : impl_IsLibrary n l = some r) : RetV Tryz.prog 124 [GoT.v TLibrary cs1] w r := by
  obtain ⟨p1, k1, rfl, s1⟩ := open_TLibrary ha1
  refine retV_of_run Tryz.func124 rfl (m := 30) rfl rfl (fun h => ?_)
  rw [impl_IsLibrary] at hF
  refine r_seq (r_region (r_box h rfl rfl ?_))
  intro w1 bb1 h
  refine rp rfl rfl (r_nil (r_seq (r_region (rp rfl rfl (r_nil (r_seq (r_seq (r_region (rp rfl rfl (r_v (v_ld tabOk (h.box 0 rfl) (j := 0) rfl rfl rfl) rfl (rp rfl rfl ?_)))))))))))
  refine rp rfl rfl (r_nil ?_)
  replace h := h.nil (α := ByteArray)
  obtain ⟨o1, hF, hK1⟩ := bindS hF
  refine r_block (r_sub [(1, _), (3, _), (7, _), (8, _), (9, _)] ⟨rfl, rfl, rfl, rfl, rfl, trivial⟩ ?_)
  refine r_loop (fun m e w' => ∃ (S1 : Nat → Prop) (p2 : Option Addr) (ln1 : Nat) (k2 : Nat) (x1 : (List ByteArray)) (i1 : Int), impl_IsLibrary_L1 l m x1 i1 = some o1 ∧ e = [(1, .pointer (some ⟨bb1, 0, none⟩)), (3, .slice p2 ln1 k2), (7, .slice p1 l.Cells.length k1), (8, .int .i64 (l.Cells.length : Int)), (9, .int .i64 i1)] ∧ SH w w' [Ch.own S1 (x1 : List ByteArray) [.slice p2 ln1 k2], Ch.box bb1 [.slice p1 l.Cells.length k1] 41]) n ⟨_, _, _, _, _, _, hF, rfl, h⟩ ?_
  rintro m1 e1 w2 ⟨S1, p2, ln1, k2, x1, i1, hF, rfl, h⟩
  obtain rfl := (h.sl 0 rfl).2
  rcases m1 with _ | m1
  · rw [impl_IsLibrary_L1] at hF
    cases hF
  rw [impl_IsLibrary_L1] at hF
  refine r_seq (r_region (rp rfl rfl (r_nil (r_seq ?_))))
  refine r_if rfl hF (fun hF => ?_) (fun hF => ?_)
  · refine r_skip (r_seq (r_block (r_seq (r_region ?_))))
    obtain ⟨y1, hy1, hF⟩ := bindS hF
    have he1 := idx_some hy1
    obtain ⟨b1, o_1, q1, cs2, hp1, hq1, -, hr1, hc2⟩ := s1.at hy1
    obtain ⟨p3, k3, p4, k4, p5, k5, rfl, s2, s3, s4⟩ := open_TCell hr1
    refine r_v (v_ix tabOk hp1 hq1 ⟨he1.1, he1.2.1⟩ rfl rfl rfl rfl rfl rfl) rfl (r_v (v_ld tabOk (hc2.below h.below) (j := 0) rfl rfl rfl) rfl (r_alloc tabOk h rfl rfl rfl ?_))
    intro w3 bb2 h
    refine r_stbox tabOk 0 h rfl rfl rfl rfl rfl rfl rfl ?_
    intro w4 h
    replace h : SH _ _ [Ch.box bb2 [.string y1.Name, .int .i64 y1.Kind, .slice p3 y1.Pins.length k3, .slice p4 y1.Arcs.length k4, .slice p5 y1.Truth.length k5, .int .i64 y1.Leak, .int .i64 y1.Energy] 155, Ch.own S1 (x1 : List ByteArray) [.slice p2 x1.length k2], Ch.box bb1 [.slice p1 l.Cells.length k1] 41] := h
    refine r_nil (r_seq (r_seq (r_region (r_v (v_ld tabOk (h.box 0 rfl) (j := 0) rfl rfl rfl) rfl ?_))))
    obtain ⟨r1, hr2, hF⟩ := bindS hF
    refine r_callB r1 h call153 (impl_IsCell_ok (mkR_TCell y1 (h.oldS s2) (h.oldS s3) (h.oldS s4)) hr2) rfl rfl rfl rfl ?_
    intro w5 h
    refine rp rfl rfl (r_nil ?_)
    refine r_if rfl hF (fun hF => ?_) (fun hF => ?_)
    · refine r_seq (r_region (rp rfl rfl (r_nil ?_)))
      obtain rfl := someI hF; replace hF := hK1
      exact r_rB tabOk h hF ⟨rfl, trivial⟩
    refine r_skip (r_region (rp rfl rfl (rp rfl rfl (r_v (v_ld tabOk (h.box 0 rfl) (j := 0) rfl rfl rfl) rfl (r_bslice tabOk [.tmp 18] _ ([y1.Name] : List ByteArray) h rfl rfl rfl rfl rfl rfl rfl rfl rfl ⟨rfl, trivial⟩ rfl ?_)))))
    intro w6 p6 S2 h
    obtain ⟨x2, hx1, hF⟩ := bindS hF
    obtain ⟨g1, hx1⟩ := appS_some hx1
    refine r_appE tabOk 2 h rfl (h.sl 0 rfl).1 (h.sl 0 rfl).2 rfl rfl rfl rfl rfl rfl rfl rfl rfl g1 hx1 rfl ?_
    intro w7 p7 k6 S3 h
    refine rp rfl rfl (r_nil (r_blk (r_region (rp rfl rfl (rp rfl rfl (r_nil ?_))))))
    replace h := h.pick [2, 3] rfl
    exact r_back m1 [(1, _), (3, _), (7, _), (8, _), (9, _)] (Nat.lt_succ_self m1) ⟨rfl, rfl, rfl, rfl, rfl, trivial⟩ ⟨_, _, _, _, _, _, hF, rfl, h⟩
  refine r_exit rfl ?_
  obtain rfl := someI hF; replace hF := hK1
  refine r_seq (r_region (rp rfl rfl (r_v (v_ld tabOk (h.box 1 rfl) (j := 0) rfl rfl rfl) rfl (rp rfl rfl (rp rfl rfl (rp rfl rfl ?_))))))
  by_cases hc4 : (decide ((l.Cells.length : Int) ≤ 8)) = true
  · replace hF := bifT hc4 hF
    refine r_setT hc4 (t := 26) rfl (r_wanted rfl (rp rfl rfl (r_wanted rfl ?_)))
    obtain ⟨r2, hr3, hF⟩ := bindS hF
    refine r_callB r2 h call154 (impl_areNames_ok (h.own 0 rfl) hr3) rfl rfl rfl rfl ?_
    intro w8 h
    exact rp rfl rfl (rp rfl rfl (r_nil (r_rB tabOk h hF ⟨rfl, trivial⟩)))
  replace hc4 := Bool.eq_false_iff.2 hc4
  replace hF := bifF hc4 hF
  exact r_setF hc4 (t := 26) rfl (r_not rfl rfl rfl (r_not rfl rfl rfl (rp rfl rfl (rp rfl rfl (r_nil (r_rB tabOk h hF ⟨rfl, trivial⟩))))))

def impl_Design_hasNames_L2 (d : TDesign) : Nat → (List ByteArray) → Int → Option ((List ByteArray) × Int)
  | 0, _, _ => none
  | n + 1, x3, i2 =>
    bif decide (i2 < (d.Ports.length : Int)) then
      (idx d.Ports i2).bind fun y2 =>
      (appS x3 ([y2.Name] : List ByteArray)).bind fun x4 =>
      impl_Design_hasNames_L2 d n x4 (W64 (i2 + 1))
    else
      some (x3, i2)

def impl_Design_hasNames_L1 (d : TDesign) : Nat → (List ByteArray) → Int → Option ((List ByteArray) × Int)
  | 0, _, _ => none
  | n + 1, x1, i1 =>
    bif decide (i1 < (d.Instances.length : Int)) then
      (idx d.Instances i1).bind fun y1 =>
      (appS x1 ([y1.Name] : List ByteArray)).bind fun x2 =>
      impl_Design_hasNames_L1 d n x2 (W64 (i1 + 1))
    else
      some (x1, i1)

def impl_Design_hasNames (n : Nat) (d : TDesign) : Option Bool :=
  (impl_Design_hasNames_L1 d n ([] : List ByteArray) 0).bind fun o => match o with
  | (x1, _) =>
    (impl_Design_hasNames_L2 d n ([] : List ByteArray) 0).bind fun o => match o with
    | (x3, _) =>
      bif decide ((x1.length : Int) ≤ 14) then
        bif decide ((d.Nets.length : Int) ≤ 30) then
          bif decide ((x3.length : Int) ≤ 8) then
            (impl_areNames n x1).bind fun r1 =>
            bif r1 then
              (impl_areNames n d.Nets).bind fun r2 =>
              bif r2 then
                (impl_areNames n x3).bind fun r3 =>
                some r3
              else
                some false
            else
              some false
          else
            some false
        else
          some false
      else
        some false

theorem impl_Design_hasNames_ok {n : Nat} {w : World} {d : TDesign} {cs1 : List Value} (ha1 : GoT.R w (old w) d cs1) {r : Bool} (hF : impl_Design_hasNames n d = some r) : RetV Tryz.prog 125 [GoT.v TDesign cs1] w r := by
  obtain ⟨p1, k1, p2, k2, p3, k3, rfl, s1, s2, s3⟩ := open_TDesign ha1
  refine retV_of_run Tryz.func125 rfl (m := 62) rfl rfl (fun h => ?_)
  rw [impl_Design_hasNames] at hF
  refine r_seq (r_region (r_box h rfl rfl ?_))
  intro w1 bb1 h
  refine rp rfl rfl (r_nil (r_seq (r_region (rp rfl rfl (rp rfl rfl (r_nil (r_seq (r_seq (r_region (rp rfl rfl (r_v (v_ld tabOk (h.box 0 rfl) (j := 0) rfl rfl rfl) rfl ?_)))))))))))
  refine rp rfl rfl (rp rfl rfl (r_nil ?_))
  replace h := h.nil (α := ByteArray)
  obtain ⟨o1, hF, hK1⟩ := bindS hF
  refine r_block (r_sub [(1, _), (3, _), (4, _), (10, _), (11, _), (12, _)] ⟨rfl, rfl, rfl, rfl, rfl, rfl, trivial⟩ ?_)
  refine r_loop (fun m e w' => ∃ (S1 : Nat → Prop) (p4 : Option Addr) (ln1 : Nat) (k4 : Nat) (x1 : (List ByteArray)) (i1 : Int), impl_Design_hasNames_L1 d m x1 i1 = some o1 ∧ e = [(1, .pointer (some ⟨bb1, 0, none⟩)), (3, .slice p4 ln1 k4), (4, .slice none 0 0), (10, .slice p1 d.Instances.length k1), (11, .int .i64 (d.Instances.length : Int)), (12, .int .i64 i1)] ∧ SH w w' [Ch.own S1 (x1 : List ByteArray) [.slice p4 ln1 k4], Ch.box bb1 [.slice p1 d.Instances.length k1, .slice p2 d.Nets.length k2, .slice p3 d.Ports.length k3] 45]) n ⟨_, _, _, _, _, _, hF, rfl, h⟩ ?_
  rintro m1 e1 w2 ⟨S1, p4, ln1, k4, x1, i1, hF, rfl, h⟩
  obtain rfl := (h.sl 0 rfl).2
  rcases m1 with _ | m1
  · rw [impl_Design_hasNames_L1] at hF
    cases hF
  rw [impl_Design_hasNames_L1] at hF
  refine r_seq (r_region (rp rfl rfl (r_nil (r_seq ?_))))
  refine r_if rfl hF (fun hF => ?_) (fun hF => ?_)
  · refine r_skip (r_seq (r_block (r_seq (r_region ?_))))
    obtain ⟨y1, hy1, hF⟩ := bindS hF
    have he1 := idx_some hy1
    obtain ⟨b1, o_1, q1, cs2, hp1, hq1, -, hr1, hc2⟩ := s1.at hy1
    obtain ⟨p5, k5, rfl, s4⟩ := open_TInstance hr1
    refine r_v (v_ix tabOk hp1 hq1 ⟨he1.1, he1.2.1⟩ rfl rfl rfl rfl rfl rfl) rfl (r_v (v_ld tabOk (hc2.below h.below) (j := 0) rfl rfl rfl) rfl (r_alloc tabOk h rfl rfl rfl ?_))
    intro w3 bb2 h
    refine r_stbox tabOk 0 h rfl rfl rfl rfl rfl rfl rfl ?_
    intro w4 h
    replace h : SH _ _ [Ch.box bb2 [.string y1.Name, .int .i64 y1.Cell, .slice p5 y1.Nets.length k5] 126, Ch.own S1 (x1 : List ByteArray) [.slice p4 x1.length k4], Ch.box bb1 [.slice p1 d.Instances.length k1, .slice p2 d.Nets.length k2, .slice p3 d.Ports.length k3] 45] := h
    refine r_nil (r_region (rp rfl rfl (rp rfl rfl (r_v (v_ld tabOk (h.box 0 rfl) (j := 0) rfl rfl rfl) rfl (r_bslice tabOk [.tmp 18] _ ([y1.Name] : List ByteArray) h rfl rfl rfl rfl rfl rfl rfl rfl rfl ⟨rfl, trivial⟩ rfl ?_)))))
    intro w5 p6 S2 h
    obtain ⟨x2, hx1, hF⟩ := bindS hF
    obtain ⟨g1, hx1⟩ := appS_some hx1
    refine r_appE tabOk 2 h rfl (h.sl 0 rfl).1 (h.sl 0 rfl).2 rfl rfl rfl rfl rfl rfl rfl rfl rfl g1 hx1 rfl ?_
    intro w6 p7 k6 S3 h
    refine rp rfl rfl (r_nil (r_blk (r_region (rp rfl rfl (rp rfl rfl (r_nil ?_))))))
    replace h := h.pick [2, 3] rfl
    exact r_back m1 [(1, _), (3, _), (4, _), (10, _), (11, _), (12, _)] (Nat.lt_succ_self m1) ⟨rfl, rfl, rfl, rfl, rfl, rfl, trivial⟩ ⟨_, _, _, _, _, _, hF, rfl, h⟩
  refine r_exit rfl ?_
  obtain rfl := someI hF; replace hF := hK1
  refine r_seq (r_seq (r_region (rp rfl rfl (r_v (v_ld tabOk (h.box 1 rfl) (j := 2) rfl rfl rfl) rfl (rp rfl rfl (rp rfl rfl (r_nil ?_)))))))
  replace h := h.nil (α := ByteArray)
  obtain ⟨o2, hF, hK2⟩ := bindS hF
  refine r_block (r_sub [(1, _), (3, _), (4, _), (23, _), (24, _), (25, _)] ⟨rfl, rfl, rfl, rfl, rfl, rfl, trivial⟩ ?_)
  refine r_loop (fun m e w' => ∃ (S4 : Nat → Prop) (p8 : Option Addr) (ln2 : Nat) (k7 : Nat) (x3 : (List ByteArray)) (i2 : Int), impl_Design_hasNames_L2 d m x3 i2 = some o2 ∧ e = [(1, .pointer (some ⟨bb1, 0, none⟩)), (3, .slice p4 x1.length k4), (4, .slice p8 ln2 k7), (23, .slice p3 d.Ports.length k3), (24, .int .i64 (d.Ports.length : Int)), (25, .int .i64 i2)] ∧ SH w w' [Ch.own S4 (x3 : List ByteArray) [.slice p8 ln2 k7], Ch.own S1 (x1 : List ByteArray) [.slice p4 x1.length k4], Ch.box bb1 [.slice p1 d.Instances.length k1, .slice p2 d.Nets.length k2, .slice p3 d.Ports.length k3] 45]) n ⟨_, _, _, _, _, _, hF, rfl, h⟩ ?_
  rintro m2 e2 w7 ⟨S4, p8, ln2, k7, x3, i2, hF, rfl, h⟩
  obtain rfl := (h.sl 0 rfl).2
  rcases m2 with _ | m2
  · rw [impl_Design_hasNames_L2] at hF
    cases hF
  rw [impl_Design_hasNames_L2] at hF
  refine r_seq (r_region (rp rfl rfl (r_nil (r_seq ?_))))
  refine r_if rfl hF (fun hF => ?_) (fun hF => ?_)
  · refine r_skip (r_seq (r_block (r_seq (r_region ?_))))
    obtain ⟨y2, hy2, hF⟩ := bindS hF
    have he2 := idx_some hy2
    obtain ⟨b2, o_2, q2, cs3, hp2, hq2, -, hr2, hc4⟩ := s3.at hy2
    obtain rfl := open_TPort hr2
    refine r_v (v_ix tabOk hp2 hq2 ⟨he2.1, he2.2.1⟩ rfl rfl rfl rfl rfl rfl) rfl (r_v (v_ld tabOk (hc4.below h.below) (j := 0) rfl rfl rfl) rfl (r_alloc tabOk h rfl rfl rfl ?_))
    intro w8 bb3 h
    refine r_stbox tabOk 0 h rfl rfl rfl rfl rfl rfl rfl ?_
    intro w9 h
    replace h : SH _ _ [Ch.box bb3 [.string y2.Name, .int .i64 y2.Dir, .int .i64 y2.Net] 148, Ch.own S4 (x3 : List ByteArray) [.slice p8 x3.length k7], Ch.own S1 (x1 : List ByteArray) [.slice p4 x1.length k4], Ch.box bb1 [.slice p1 d.Instances.length k1, .slice p2 d.Nets.length k2, .slice p3 d.Ports.length k3] 45] := h
    refine r_nil (r_region (rp rfl rfl (rp rfl rfl (r_v (v_ld tabOk (h.box 0 rfl) (j := 0) rfl rfl rfl) rfl (r_bslice tabOk [.tmp 31] _ ([y2.Name] : List ByteArray) h rfl rfl rfl rfl rfl rfl rfl rfl rfl ⟨rfl, trivial⟩ rfl ?_)))))
    intro w10 p9 S5 h
    obtain ⟨x4, hx2, hF⟩ := bindS hF
    obtain ⟨g2, hx2⟩ := appS_some hx2
    refine r_appE tabOk 2 h rfl (h.sl 0 rfl).1 (h.sl 0 rfl).2 rfl rfl rfl rfl rfl rfl rfl rfl rfl g2 hx2 rfl ?_
    intro w11 p10 k8 S6 h
    refine rp rfl rfl (r_nil (r_blk (r_region (rp rfl rfl (rp rfl rfl (r_nil ?_))))))
    replace h := h.pick [2, 3, 4] rfl
    exact r_back m2 [(1, _), (3, _), (4, _), (23, _), (24, _), (25, _)] (Nat.lt_succ_self m2) ⟨rfl, rfl, rfl, rfl, rfl, rfl, trivial⟩ ⟨_, _, _, _, _, _, hF, rfl, h⟩
  refine r_exit rfl ?_
  obtain rfl := someI hF; replace hF := hK2
  refine r_seq (r_region (rp rfl rfl (rp rfl rfl (rp rfl rfl (rp rfl rfl ?_)))))
  by_cases hc5 : (decide ((x1.length : Int) ≤ 14)) = true
  · replace hF := bifT hc5 hF
    refine r_setT hc5 (t := 38) rfl (r_wanted rfl (rp rfl rfl (r_wanted rfl (r_v (v_ld tabOk (h.box 2 rfl) (j := 1) rfl rfl rfl) rfl (r_wanted rfl (rp rfl rfl (r_wanted rfl (rp rfl rfl (rp rfl rfl (rp rfl rfl ?_))))))))))
    by_cases hc6 : (decide ((d.Nets.length : Int) ≤ 30)) = true
    · replace hF := bifT hc6 hF
      refine r_setT hc6 (t := 44) rfl (r_wanted rfl (rp rfl rfl (r_wanted rfl (rp rfl rfl (r_wanted rfl (rp rfl rfl (rp rfl rfl (rp rfl rfl ?_))))))))
      by_cases hc7 : (decide ((x3.length : Int) ≤ 8)) = true
      · replace hF := bifT hc7 hF
        refine r_setT hc7 (t := 49) rfl (r_wanted rfl (rp rfl rfl (r_wanted rfl ?_)))
        obtain ⟨r1, hr3, hF⟩ := bindS hF
        refine r_callB r1 h call154 (impl_areNames_ok (h.own 1 rfl) hr3) rfl rfl rfl rfl ?_
        intro w12 h
        refine rp rfl rfl (rp rfl rfl ?_)
        by_cases hc8 : r1 = true
        · replace hF := bifT hc8 hF
          refine r_setT hc8 (t := 53) rfl (r_wanted rfl (rp rfl rfl (r_wanted rfl (r_v (v_ld tabOk (h.box 2 rfl) (j := 1) rfl rfl rfl) rfl (r_wanted rfl ?_)))))
          obtain ⟨r2, hr4, hF⟩ := bindS hF
          refine r_callB r2 h call154 (impl_areNames_ok ⟨_, _, rfl, (h.oldS s2)⟩ hr4) rfl rfl rfl rfl ?_
          intro w13 h
          refine rp rfl rfl (rp rfl rfl ?_)
          by_cases hc9 : r2 = true
          · replace hF := bifT hc9 hF
            refine r_setT hc9 (t := 58) rfl (r_wanted rfl (rp rfl rfl (r_wanted rfl ?_)))
            obtain ⟨r3, hr5, hF⟩ := bindS hF
            refine r_callB r3 h call154 (impl_areNames_ok (h.own 0 rfl) hr5) rfl rfl rfl rfl ?_
            intro w14 h
            exact rp rfl rfl (rp rfl rfl (r_nil (r_rB tabOk h hF ⟨rfl, trivial⟩)))
          replace hc9 := Bool.eq_false_iff.2 hc9
          replace hF := bifF hc9 hF
          exact r_setF hc9 (t := 58) rfl (r_not rfl rfl rfl (r_not rfl rfl rfl (rp rfl rfl (rp rfl rfl (r_nil (r_rB tabOk h hF ⟨rfl, trivial⟩))))))
        replace hc8 := Bool.eq_false_iff.2 hc8
        replace hF := bifF hc8 hF
        exact r_setF hc8 (t := 53) rfl (r_not rfl rfl rfl (r_not rfl rfl rfl (r_not rfl rfl rfl (rp rfl rfl (rp rfl rfl (r_not rfl rfl rfl (r_not rfl rfl rfl (rp rfl rfl (rp rfl rfl (r_nil (r_rB tabOk h hF ⟨rfl, trivial⟩)))))))))))
      replace hc7 := Bool.eq_false_iff.2 hc7
      replace hF := bifF hc7 hF
      refine r_setF hc7 (t := 49) rfl (r_not rfl rfl rfl (r_not rfl rfl rfl (rp rfl rfl (rp rfl rfl (r_not rfl rfl rfl (r_not rfl rfl rfl (r_not rfl rfl rfl (rp rfl rfl (rp rfl rfl (r_not rfl rfl rfl (r_not rfl rfl rfl ?_)))))))))))
      exact rp rfl rfl (rp rfl rfl (r_nil (r_rB tabOk h hF ⟨rfl, trivial⟩)))
    replace hc6 := Bool.eq_false_iff.2 hc6
    replace hF := bifF hc6 hF
    refine r_setF hc6 (t := 44) rfl (r_not rfl rfl rfl (r_not rfl rfl rfl (r_not rfl rfl rfl (rp rfl rfl (rp rfl rfl (r_not rfl rfl rfl (r_not rfl rfl rfl (rp rfl rfl (rp rfl rfl (r_not rfl rfl rfl (r_not rfl rfl rfl ?_)))))))))))
    exact r_not rfl rfl rfl (rp rfl rfl (rp rfl rfl (r_not rfl rfl rfl (r_not rfl rfl rfl (rp rfl rfl (rp rfl rfl (r_nil (r_rB tabOk h hF ⟨rfl, trivial⟩))))))))
  replace hc5 := Bool.eq_false_iff.2 hc5
  replace hF := bifF hc5 hF
  refine r_setF hc5 (t := 38) rfl (r_not rfl rfl rfl (r_not rfl rfl rfl (r_not rfl rfl rfl (r_not rfl rfl rfl (rp rfl rfl (rp rfl rfl (r_not rfl rfl rfl (r_not rfl rfl rfl (r_not rfl rfl rfl (rp rfl rfl (rp rfl rfl ?_)))))))))))
  refine r_not rfl rfl rfl (r_not rfl rfl rfl (rp rfl rfl (rp rfl rfl (r_not rfl rfl rfl (r_not rfl rfl rfl (r_not rfl rfl rfl (rp rfl rfl (rp rfl rfl (r_not rfl rfl rfl (r_not rfl rfl rfl (rp rfl rfl ?_)))))))))))
  exact rp rfl rfl (r_nil (r_rB tabOk h hF ⟨rfl, trivial⟩))

def impl_length_impl_Cell (_ : Nat) (list : (List TCell)) : Option Int :=
  some (list.length : Int)

theorem impl_length_impl_Cell_ok {n : Nat} {w : World} {list : (List TCell)} {cs1 : List Value} (ha1 : GoT.R w (old w) list cs1) {r : Int} (hF : impl_length_impl_Cell n list = some r) : RetV Tryz.prog 155 [GoT.v (List TCell) cs1] w r := by
  obtain ⟨p1, k1, rfl, s1⟩ := ha1
  refine retV_of_run Tryz.func155 rfl (m := 5) rfl rfl (fun h => ?_)
  rw [impl_length_impl_Cell] at hF
  exact r_seq (r_region (rp rfl rfl (r_nil (r_seq (r_region (rp rfl rfl (rp rfl rfl (rp rfl rfl (r_nil (r_rI tabOk h hF ⟨rfl, trivial⟩))))))))))

def impl_length_string (_ : Nat) (list : (List ByteArray)) : Option Int :=
  some (list.length : Int)

theorem impl_length_string_ok {n : Nat} {w : World} {list : (List ByteArray)} {cs1 : List Value} (ha1 : GoT.R w (old w) list cs1) {r : Int} (hF : impl_length_string n list = some r) : RetV Tryz.prog 157 [GoT.v (List ByteArray) cs1] w r := by
  obtain ⟨p1, k1, rfl, s1⟩ := ha1
  refine retV_of_run Tryz.func157 rfl (m := 5) rfl rfl (fun h => ?_)
  rw [impl_length_string] at hF
  exact r_seq (r_region (rp rfl rfl (r_nil (r_seq (r_region (rp rfl rfl (rp rfl rfl (rp rfl rfl (r_nil (r_rI tabOk h hF ⟨rfl, trivial⟩))))))))))

def impl_Design_isNet (n : Nat) (d : TDesign) (net : Int) : Option Bool :=
  (impl_length_string n d.Nets).bind fun r1 =>
  (impl_within n net 0 (W64 (r1 - 1))).bind fun r2 =>
  some r2

theorem impl_Design_isNet_ok {n : Nat} {w : World} {d : TDesign} {net : Int} {cs1 : List Value} (ha1 : GoT.R w (old w) d cs1) {r : Bool} (hF : impl_Design_isNet n d net = some r) : RetV Tryz.prog 127 [GoT.v TDesign cs1, .int .i64 net] w r := by
  obtain ⟨p1, k1, p2, k2, p3, k3, rfl, s1, s2, s3⟩ := open_TDesign ha1
  refine retV_of_run Tryz.func127 rfl (m := 11) rfl rfl (fun h => ?_)
  rw [impl_Design_isNet] at hF
  refine r_seq (r_region (r_box h rfl rfl ?_))
  intro w1 bb1 h
  refine rp rfl rfl (r_nil (r_seq (r_region (rp rfl rfl (rp rfl rfl (r_v (v_ld tabOk (h.box 0 rfl) (j := 1) rfl rfl rfl) rfl ?_))))))
  obtain ⟨r1, hr1, hF⟩ := bindS hF
  refine r_callI r1 h call157 (impl_length_string_ok ⟨_, _, rfl, (h.oldS s2)⟩ hr1) rfl rfl rfl rfl ?_
  intro w2 h
  refine rp rfl rfl ?_
  obtain ⟨r2, hr2, hF⟩ := bindS hF
  refine r_callB r2 h call100 (impl_within_ok hr2) rfl rfl rfl rfl ?_
  intro w3 h
  exact rp rfl rfl (r_nil (r_rB tabOk h hF ⟨rfl, trivial⟩))

def impl_Design_isInstance_1 (n : Nat) (net : Int) (v0 : TDesign) : Option Bool :=
  (impl_Design_isNet n v0 net).bind fun r1 =>
  some (!r1)

theorem impl_Design_isInstance_1_ok {n : Nat} {w : World} {net : Int} {v0 : TDesign} {p1 : Option Addr} (ha1 : GoT.R w (old w) (some v0) [.pointer p1]) {r : Bool} (hF : impl_Design_isInstance_1 n net v0 = some r) : RetV Tryz.prog 156 [.int .i64 net, .pointer p1] w r := by
  obtain ⟨b1, o_1, cs1, rfl, -, hr1, hc1⟩ := PtR.get ha1 rfl
  obtain ⟨p2, k1, p3, k2, p4, k3, rfl, s1, s2, s3⟩ := open_TDesign hr1
  refine retV_of_run Tryz.func156 rfl (m := 8) rfl rfl (fun h => ?_)
  rw [impl_Design_isInstance_1] at hF
  refine r_seq (r_region (rp rfl rfl (r_nil (r_seq (r_region (r_v (v_ld tabOk (hc1.below h.below) (j := 0) rfl rfl rfl) rfl (rp rfl rfl ?_)))))))
  obtain ⟨r1, hr2, hF⟩ := bindS hF
  refine r_callB r1 h call127 (impl_Design_isNet_ok (mkR_TDesign v0 (h.oldS s1) (h.oldS s2) (h.oldS s3)) hr2) rfl rfl rfl rfl ?_
  intro w1 h
  exact rp rfl rfl (rp rfl rfl (r_nil (r_rB tabOk h hF ⟨rfl, trivial⟩)))

def slices_IndexFunc_int64_impl_Design_isInstance_1_L1 (s : (List Int)) (f_0 : TDesign) : Nat → Int → Option (Flow Int Int)
  | 0, _ => none
  | n + 1, i1 =>
    bif decide (i1 < (s.length : Int)) then
      (idx s i1).bind fun y1 =>
      (impl_Design_isInstance_1 n y1 f_0).bind fun r1 =>
      bif r1 then
        some (.ret i1)
      else
        slices_IndexFunc_int64_impl_Design_isInstance_1_L1 s f_0 n (W64 (i1 + 1))
    else
      some (.nxt i1)

def slices_IndexFunc_int64_impl_Design_isInstance_1 (n : Nat) (s : (List Int)) (f_0 : TDesign) : Option Int :=
  (slices_IndexFunc_int64_impl_Design_isInstance_1_L1 s f_0 n 0).bind fun o => match o with
  | .ret r => some r
  | .nxt _ =>
    some (-1)

theorem slices_IndexFunc_int64_impl_Design_isInstance_1_ok {n : Nat} {w : World} {s : (List Int)} {f_0 : TDesign} {cs1 : List Value} (ha1 : GoT.R w (old w) s cs1) {p2 : Option Addr} (ha2 : GoT.R w (old w) (some f_0) [.pointer p2]) {r : Int} (hF : slices_IndexFunc_int64_impl_Design_isInstance_1 n s f_0 = some r) : RetV Tryz.prog 159 [GoT.v (List Int) cs1, .func (.func 156) #[] #[.pointer p2]] w r := by
  obtain ⟨p1, k1, rfl, s1⟩ := ha1
  obtain ⟨b1, o_1, cs2, rfl, -, hr1, hc1⟩ := PtR.get ha2 rfl
  obtain ⟨p3, k2, p4, k3, p5, k4, rfl, s2, s3, s4⟩ := open_TDesign hr1
  refine retV_of_run Tryz.func159 rfl (m := 19) rfl rfl (fun h => ?_)
  rw [slices_IndexFunc_int64_impl_Design_isInstance_1] at hF
  refine r_seq (r_region (rp rfl rfl (r_nil (r_seq (r_seq (r_region (rp rfl rfl (rp rfl rfl (rp rfl rfl (r_nil ?_))))))))))
  obtain ⟨o1, hF, hK1⟩ := bindS hF
  refine r_block (r_sub [(0, _), (1, _), (7, _), (8, _)] ⟨rfl, rfl, rfl, rfl, trivial⟩ ?_)
  refine r_loop (fun m e w' => ∃ (i1 : Int), slices_IndexFunc_int64_impl_Design_isInstance_1_L1 s f_0 m i1 = some o1 ∧ e = [(0, .slice p1 s.length k1), (1, .func (.func 156) #[] #[.pointer (some ⟨b1, o_1, none⟩)]), (7, .int .i64 (s.length : Int)), (8, .int .i64 i1)] ∧ SH w w' []) n ⟨_, hF, rfl, h⟩ ?_
  rintro m1 e1 w1 ⟨i1, hF, rfl, h⟩
  rcases m1 with _ | m1
  · rw [slices_IndexFunc_int64_impl_Design_isInstance_1_L1] at hF
    cases hF
  rw [slices_IndexFunc_int64_impl_Design_isInstance_1_L1] at hF
  refine r_seq (r_region (rp rfl rfl (r_nil (r_seq ?_))))
  refine r_if rfl hF (fun hF => ?_) (fun hF => ?_)
  · refine r_skip (r_seq (r_block (r_seq (r_region (rp rfl rfl (rp rfl rfl (r_nil (r_seq (r_region (rp rfl rfl (rp rfl rfl ?_)))))))))))
    refine rp rfl rfl ?_
    obtain ⟨y1, hy1, hF⟩ := bindS hF
    have he1 := idx_some hy1
    obtain ⟨b2, o_2, q1, cs3, hp1, hq1, -, hr2, hc3⟩ := s1.at hy1
    obtain rfl := hr2
    refine r_v (v_ix tabOk hp1 hq1 ⟨he1.1, he1.2.1⟩ rfl rfl rfl rfl rfl rfl) rfl (r_v (v_ld tabOk (hc3.below h.below) (j := 0) rfl rfl rfl) rfl ?_)
    obtain ⟨r1, hr3, hF⟩ := bindS hF
    refine r_callB r1 h call156 (impl_Design_isInstance_1_ok (h.old ha2) hr3) rfl rfl rfl rfl ?_
    intro w2 h
    refine r_nil ?_
    refine r_if rfl hF (fun hF => ?_) (fun hF => ?_)
    · refine r_seq (r_region (rp rfl rfl (rp rfl rfl (r_nil ?_))))
      obtain rfl := someI hF; replace hF := hK1
      exact r_rI tabOk h hF ⟨rfl, trivial⟩
    exact r_skip (r_blk (r_region (rp rfl rfl (rp rfl rfl (r_nil (r_back m1 [(0, _), (1, _), (7, _), (8, _)] (Nat.lt_succ_self m1) ⟨rfl, rfl, rfl, rfl, trivial⟩ ⟨_, hF, rfl, h⟩))))))
  refine r_exit rfl ?_
  obtain rfl := someI hF; replace hF := hK1
  exact r_seq (r_region (rp rfl rfl (r_nil (r_rI tabOk h hF ⟨rfl, trivial⟩))))

def slices_ContainsFunc_int64_impl_Design_isInstance_1 (n : Nat) (s : (List Int)) (f_0 : TDesign) : Option Bool :=
  (slices_IndexFunc_int64_impl_Design_isInstance_1 n s f_0).bind fun r1 =>
  some (decide (r1 ≥ 0))

theorem slices_ContainsFunc_int64_impl_Design_isInstance_1_ok {n : Nat} {w : World} {s : (List Int)} {f_0 : TDesign} {cs1 : List Value} (ha1 : GoT.R w (old w) s cs1) {p2 : Option Addr} (ha2 : GoT.R w (old w) (some f_0) [.pointer p2]) {r : Bool} (hF : slices_ContainsFunc_int64_impl_Design_isInstance_1 n s f_0 = some r) : RetV Tryz.prog 136 [GoT.v (List Int) cs1, .func (.func 156) #[] #[.pointer p2]] w r := by
  obtain ⟨p1, k1, rfl, s1⟩ := ha1
  obtain ⟨b1, o_1, cs2, rfl, -, hr1, hc1⟩ := PtR.get ha2 rfl
  obtain ⟨p3, k2, p4, k3, p5, k4, rfl, s2, s3, s4⟩ := open_TDesign hr1
  refine retV_of_run Tryz.func136 rfl (m := 9) rfl rfl (fun h => ?_)
  rw [slices_ContainsFunc_int64_impl_Design_isInstance_1] at hF
  refine r_seq (r_region (rp rfl rfl (r_nil (r_seq (r_region (rp rfl rfl (rp rfl rfl ?_)))))))
  obtain ⟨r1, hr2, hF⟩ := bindS hF
  refine r_callI r1 h call159 (slices_IndexFunc_int64_impl_Design_isInstance_1_ok ⟨_, _, rfl, (h.oldS s1)⟩ (h.old ha2) hr2) rfl rfl rfl rfl ?_
  intro w1 h
  exact rp rfl rfl (rp rfl rfl (r_nil (r_rB tabOk h hF ⟨rfl, trivial⟩)))

def impl_Design_isInstance (n : Nat) (d : TDesign) (l : TLibrary) (x : TInstance) : Option Bool :=
  (impl_length_impl_Cell n l.Cells).bind fun r1 =>
  (impl_within n x.Cell 0 (W64 (r1 - 1))).bind fun r2 =>
  bif r2 then
    (idx l.Cells x.Cell).bind fun y1 =>
    bif ((x.Nets.length : Int) == (y1.Pins.length : Int)) then
      (slices_ContainsFunc_int64_impl_Design_isInstance_1 n x.Nets d).bind fun r3 =>
      some (!r3)
    else
      some false
  else
    some false

theorem impl_Design_isInstance_ok {n : Nat} {w : World} {d : TDesign} {l : TLibrary} {x : TInstance} {cs1 : List Value} (ha1 : GoT.R w (old w) d cs1) {cs2 : List Value} (ha2 : GoT.R w (old w) l cs2) {cs3 : List Value} (ha3 : GoT.R w (old w) x cs3) {r : Bool} (hF : impl_Design_isInstance n d l x = some r) : RetV Tryz.prog 126 [GoT.v TDesign cs1, GoT.v TLibrary cs2, GoT.v TInstance cs3] w r := by
  obtain ⟨p1, k1, p2, k2, p3, k3, rfl, s1, s2, s3⟩ := open_TDesign ha1
  obtain ⟨p4, k4, rfl, s4⟩ := open_TLibrary ha2
  obtain ⟨p5, k5, rfl, s5⟩ := open_TInstance ha3
  refine retV_of_run Tryz.func126 rfl (m := 35) rfl rfl (fun h => ?_)
  rw [impl_Design_isInstance] at hF
  refine r_seq (r_region (r_box h rfl rfl ?_))
  intro w1 bb1 h
  refine r_box h rfl rfl ?_
  intro w2 bb2 h
  refine r_box h rfl rfl ?_
  intro w3 bb3 h
  refine rp rfl rfl (r_nil (r_seq ?_))
  refine r_draw rfl (by kernel_rfl) ?_
  refine dp rfl rfl ?_
  refine d_v (fun _ hb => v_ld tabOk ((h.box 0 rfl).below hb) (j := 1) rfl rfl rfl) rfl ?_
  refine dp rfl rfl ?_
  refine d_v (fun _ hb => v_ld tabOk ((h.box 1 rfl).below hb) (j := 0) rfl rfl rfl) rfl ?_
  obtain ⟨r1, hr1, hF⟩ := bindS hF
  refine d_call r1 (vsI _) call155 (fun _ hb => impl_length_impl_Cell_ok ⟨_, _, rfl, ((h.ext hb).oldS s4)⟩ hr1) rfl rfl rfl rfl ?_
  refine dp rfl rfl ?_
  obtain ⟨r2, hr2, hF⟩ := bindS hF
  refine d_call r2 (vsB _) call100 (fun _ hb => impl_within_ok  hr2) rfl rfl rfl rfl ?_
  refine dp rfl rfl ?_
  by_cases hc1 : r2 = true
  · replace hF := bifT hc1 hF
    refine d_setT hc1 (t := 14) rfl (d_wanted rfl (dp rfl rfl (d_wanted rfl ?_)))
    refine d_v (fun _ hb => v_ld tabOk ((h.box 0 rfl).below hb) (j := 2) rfl rfl rfl) rfl ?_
    refine d_wanted rfl (dp rfl rfl (d_wanted rfl (dp rfl rfl (d_wanted rfl ?_))))
    refine d_v (fun _ hb => v_ld tabOk ((h.box 1 rfl).below hb) (j := 0) rfl rfl rfl) rfl ?_
    refine d_wanted rfl (dp rfl rfl (d_wanted rfl ?_))
    refine d_v (fun _ hb => v_ld tabOk ((h.box 0 rfl).below hb) (j := 1) rfl rfl rfl) rfl ?_
    refine d_wanted rfl ?_
    obtain ⟨y1, hy1, hF⟩ := bindS hF
    have he1 := idx_some hy1
    obtain ⟨b1, o_1, q1, cs4, hp1, hq1, -, hr3, hc2⟩ := s4.at hy1
    obtain ⟨p6, k6, p7, k7, p8, k8, rfl, s6, s7, s8⟩ := open_TCell hr3
    refine d_v (fun _ hb => v_ix tabOk hp1 hq1 ⟨he1.1, he1.2.1⟩ rfl rfl rfl rfl rfl rfl) rfl ?_
    refine d_wanted rfl (dp rfl rfl (d_wanted rfl ?_))
    refine d_v (fun _ hb => v_ld tabOk ((hc2.below h.below).below hb) (j := 2) rfl rfl rfl) rfl ?_
    refine d_wanted rfl (dp rfl rfl (d_wanted rfl (dp rfl rfl (dp rfl rfl (dp rfl rfl ?_)))))
    by_cases hc3 : ((x.Nets.length : Int) == (y1.Pins.length : Int)) = true
    · replace hF := bifT hc3 hF
      refine d_setT hc3 (t := 28) rfl (d_wanted rfl (dp rfl rfl (d_wanted rfl ?_)))
      refine d_v (fun _ hb => v_ld tabOk ((h.box 0 rfl).below hb) (j := 2) rfl rfl rfl) rfl ?_
      refine d_wanted rfl (dp rfl rfl (d_wanted rfl ?_))
      obtain ⟨r3, hr4, hF⟩ := bindS hF
      refine d_call r3 (vsB _) call136 (fun _ hb => slices_ContainsFunc_int64_impl_Design_isInstance_1_ok ⟨_, _, rfl, ((h.ext hb).oldS s5)⟩ (ptr_boxB (x := d) 2 (h.ext hb) rfl ((h.ext hb).old ha1)) hr4) rfl rfl rfl rfl ?_
      refine d_wanted rfl (dp rfl rfl (dp rfl rfl (dp rfl rfl ?_)))
      refine d_nil (fun w4 hb => ?_)
      replace h := h.ext hb
      clear hb
      exact r_rB tabOk h hF ⟨rfl, trivial⟩
    replace hc3 := Bool.eq_false_iff.2 hc3
    replace hF := bifF hc3 hF
    refine d_setF hc3 (t := 28) rfl (d_not rfl rfl rfl (d_not rfl rfl rfl (d_not rfl rfl rfl (d_not rfl rfl rfl (d_not rfl rfl rfl (dp rfl rfl (dp rfl rfl ?_)))))))
    refine d_nil (fun w5 hb => ?_)
    replace h := h.ext hb
    clear hb
    exact r_rB tabOk h hF ⟨rfl, trivial⟩
  replace hc1 := Bool.eq_false_iff.2 hc1
  replace hF := bifF hc1 hF
  refine d_setF hc1 (t := 14) rfl (d_not rfl rfl rfl (d_not rfl rfl rfl (d_not rfl rfl rfl (d_not rfl rfl rfl (d_not rfl rfl rfl (d_not rfl rfl rfl (d_not rfl rfl rfl (d_not rfl rfl rfl (d_not rfl rfl rfl (d_not rfl rfl rfl (d_not rfl rfl rfl ?_)))))))))))
  refine d_not rfl rfl rfl (dp rfl rfl (dp rfl rfl (d_not rfl rfl rfl (d_not rfl rfl rfl (d_not rfl rfl rfl (d_not rfl rfl rfl (d_not rfl rfl rfl (dp rfl rfl (dp rfl rfl ?_)))))))))
  refine d_nil (fun w6 hb => ?_)
  replace h := h.ext hb
  clear hb
  exact r_rB tabOk h hF ⟨rfl, trivial⟩

def impl_IsDesign_1 (_ : Nat) (a_n : Int) : Option Bool :=
  some (a_n != 1)

theorem impl_IsDesign_1_ok {n : Nat} {w : World} {a_n : Int}  {r : Bool} (hF : impl_IsDesign_1 n a_n = some r) : RetV Tryz.prog 129 [.int .i64 a_n] w r := by
  refine retV_of_run Tryz.func129 rfl (m := 5) rfl rfl (fun h => ?_)
  rw [impl_IsDesign_1] at hF
  exact r_seq (r_region (rp rfl rfl (r_nil (r_seq (r_region (rp rfl rfl (rp rfl rfl (rp rfl rfl (r_nil (r_rB tabOk h hF ⟨rfl, trivial⟩))))))))))

def slices_IndexFunc_int_impl_IsDesign_1_L1 (s : (List Int)) : Nat → Int → Option (Flow Int Int)
  | 0, _ => none
  | n + 1, i1 =>
    bif decide (i1 < (s.length : Int)) then
      (idx s i1).bind fun y1 =>
      (impl_IsDesign_1 n y1).bind fun r1 =>
      bif r1 then
        some (.ret i1)
      else
        slices_IndexFunc_int_impl_IsDesign_1_L1 s n (W64 (i1 + 1))
    else
      some (.nxt i1)

def slices_IndexFunc_int_impl_IsDesign_1 (n : Nat) (s : (List Int)) : Option Int :=
  (slices_IndexFunc_int_impl_IsDesign_1_L1 s n 0).bind fun o => match o with
  | .ret r => some r
  | .nxt _ =>
    some (-1)

theorem slices_IndexFunc_int_impl_IsDesign_1_ok {n : Nat} {w : World} {s : (List Int)} {cs1 : List Value} (ha1 : GoT.R w (old w) s cs1) {r : Int} (hF : slices_IndexFunc_int_impl_IsDesign_1 n s = some r) : RetV Tryz.prog 158 [GoT.v (List Int) cs1, .func (.func 129) #[] #[]] w r := by
  obtain ⟨p1, k1, rfl, s1⟩ := ha1
  refine retV_of_run Tryz.func158 rfl (m := 19) rfl rfl (fun h => ?_)
  rw [slices_IndexFunc_int_impl_IsDesign_1] at hF
  refine r_seq (r_region (rp rfl rfl (r_nil (r_seq (r_seq (r_region (rp rfl rfl (rp rfl rfl (rp rfl rfl (r_nil ?_))))))))))
  obtain ⟨o1, hF, hK1⟩ := bindS hF
  refine r_block (r_sub [(0, _), (1, _), (7, _), (8, _)] ⟨rfl, rfl, rfl, rfl, trivial⟩ ?_)
  refine r_loop (fun m e w' => ∃ (i1 : Int), slices_IndexFunc_int_impl_IsDesign_1_L1 s m i1 = some o1 ∧ e = [(0, .slice p1 s.length k1), (1, .func (.func 129) #[] #[]), (7, .int .i64 (s.length : Int)), (8, .int .i64 i1)] ∧ SH w w' []) n ⟨_, hF, rfl, h⟩ ?_
  rintro m1 e1 w1 ⟨i1, hF, rfl, h⟩
  rcases m1 with _ | m1
  · rw [slices_IndexFunc_int_impl_IsDesign_1_L1] at hF
    cases hF
  rw [slices_IndexFunc_int_impl_IsDesign_1_L1] at hF
  refine r_seq (r_region (rp rfl rfl (r_nil (r_seq ?_))))
  refine r_if rfl hF (fun hF => ?_) (fun hF => ?_)
  · refine r_skip (r_seq (r_block (r_seq (r_region (rp rfl rfl (rp rfl rfl (r_nil (r_seq (r_region (rp rfl rfl (rp rfl rfl ?_)))))))))))
    refine rp rfl rfl ?_
    obtain ⟨y1, hy1, hF⟩ := bindS hF
    have he1 := idx_some hy1
    obtain ⟨b1, o_1, q1, cs2, hp1, hq1, -, hr1, hc2⟩ := s1.at hy1
    obtain rfl := hr1
    refine r_v (v_ix tabOk hp1 hq1 ⟨he1.1, he1.2.1⟩ rfl rfl rfl rfl rfl rfl) rfl (r_v (v_ld tabOk (hc2.below h.below) (j := 0) rfl rfl rfl) rfl ?_)
    obtain ⟨r1, hr2, hF⟩ := bindS hF
    refine r_callB r1 h call129 (impl_IsDesign_1_ok hr2) rfl rfl rfl rfl ?_
    intro w2 h
    refine r_nil ?_
    refine r_if rfl hF (fun hF => ?_) (fun hF => ?_)
    · refine r_seq (r_region (rp rfl rfl (rp rfl rfl (r_nil ?_))))
      obtain rfl := someI hF; replace hF := hK1
      exact r_rI tabOk h hF ⟨rfl, trivial⟩
    exact r_skip (r_blk (r_region (rp rfl rfl (rp rfl rfl (r_nil (r_back m1 [(0, _), (1, _), (7, _), (8, _)] (Nat.lt_succ_self m1) ⟨rfl, rfl, rfl, rfl, trivial⟩ ⟨_, hF, rfl, h⟩))))))
  refine r_exit rfl ?_
  obtain rfl := someI hF; replace hF := hK1
  exact r_seq (r_region (rp rfl rfl (r_nil (r_rI tabOk h hF ⟨rfl, trivial⟩))))

def slices_ContainsFunc_int_impl_IsDesign_1 (n : Nat) (s : (List Int)) : Option Bool :=
  (slices_IndexFunc_int_impl_IsDesign_1 n s).bind fun r1 =>
  some (decide (r1 ≥ 0))

theorem slices_ContainsFunc_int_impl_IsDesign_1_ok {n : Nat} {w : World} {s : (List Int)} {cs1 : List Value} (ha1 : GoT.R w (old w) s cs1) {r : Bool} (hF : slices_ContainsFunc_int_impl_IsDesign_1 n s = some r) : RetV Tryz.prog 128 [GoT.v (List Int) cs1, .func (.func 129) #[] #[]] w r := by
  obtain ⟨p1, k1, rfl, s1⟩ := ha1
  refine retV_of_run Tryz.func128 rfl (m := 9) rfl rfl (fun h => ?_)
  rw [slices_ContainsFunc_int_impl_IsDesign_1] at hF
  refine r_seq (r_region (rp rfl rfl (r_nil (r_seq (r_region (rp rfl rfl (rp rfl rfl ?_)))))))
  obtain ⟨r1, hr1, hF⟩ := bindS hF
  refine r_callI r1 h call158 (slices_IndexFunc_int_impl_IsDesign_1_ok ⟨_, _, rfl, (h.oldS s1)⟩ hr1) rfl rfl rfl rfl ?_
  intro w1 h
  exact rp rfl rfl (rp rfl rfl (r_nil (r_rB tabOk h hF ⟨rfl, trivial⟩)))

def impl_IsDesign_L2 (a_1 : TDesign) : Nat → (List Int) → Int → Option (Flow Bool ((List Int) × Int))
  | 0, _, _ => none
  | n + 1, x3, i2 =>
    bif decide (i2 < (a_1.Ports.length : Int)) then
      (idx a_1.Ports i2).bind fun y5 =>
      (
        bif (y5.Dir != 1) then
          bif (y5.Dir != 2) then
            some true
          else
            (impl_Design_isNet n a_1 y5.Net).bind fun r2 =>
            some (!r2)
        else
          (impl_Design_isNet n a_1 y5.Net).bind fun r3 =>
          some (!r3)).bind fun b7 =>
      bif b7 then
        some (.ret false)
      else
        bif (y5.Dir == 1) then
          (idx x3 y5.Net).bind fun y6 =>
          (idx x3 y5.Net).bind fun _ =>
          impl_IsDesign_L2 a_1 n (setS x3 y5.Net (W64 (y6 + 1))) (W64 (i2 + 1))
        else
          impl_IsDesign_L2 a_1 n x3 (W64 (i2 + 1))
    else
      some (.nxt (x3, i2))

def impl_IsDesign_L1 (a_0 : TLibrary) (a_1 : TDesign) : Nat → (List Int) → Int → Option (Flow Bool ((List Int) × Int))
  | 0, _, _ => none
  | n + 1, x2, i1 =>
    bif decide (i1 < (a_1.Instances.length : Int)) then
      (idx a_1.Instances i1).bind fun y1 =>
      (impl_Design_isInstance n a_1 a_0 y1).bind fun r1 =>
      bif (!r1) then
        some (.ret false)
      else
        (idx y1.Nets (W64 ((y1.Nets.length : Int) - 1))).bind fun y2 =>
        (idx x2 y2).bind fun y3 =>
        (idx x2 y2).bind fun _ =>
        impl_IsDesign_L1 a_0 a_1 n (setS x2 y2 (W64 (y3 + 1))) (W64 (i1 + 1))
    else
      some (.nxt (x2, i1))

def impl_IsDesign (n : Nat) (a_0 : TLibrary) (a_1 : TDesign) : Option Bool :=
  (
    (impl_IsLibrary n a_0).bind fun r5 =>
    bif (!r5) then
      some true
    else
      (impl_Design_hasNames n a_1).bind fun r6 =>
      some (!r6)).bind fun b1 =>
  bif b1 then
    some false
  else
    (mkS (a_1.Nets.length : Int) (0 : Int)).bind fun x1 =>
    (impl_IsDesign_L1 a_0 a_1 n x1 0).bind fun o => match o with
    | .ret r => some r
    | .nxt (x2, _) =>
      (impl_IsDesign_L2 a_1 n x2 0).bind fun o => match o with
      | .ret r => some r
      | .nxt (x3, _) =>
        (slices_ContainsFunc_int_impl_IsDesign_1 n x3).bind fun r4 =>
        some (!r4)

theorem impl_IsDesign_ok {n : Nat} {w : World} {a_0 : TLibrary} {a_1 : TDesign} {cs1 : List Value} (ha1 : GoT.R w (old w) a_0 cs1) {cs2 : List Value} (ha2 : GoT.R w (old w) a_1 cs2) {r : Bool} (hF : impl_IsDesign n a_0 a_1 = some r) : RetV Tryz.prog 75 [GoT.v TLibrary cs1, GoT.v TDesign cs2] w r := by
  obtain ⟨p1, k1, rfl, s1⟩ := open_TLibrary ha1
  obtain ⟨p2, k2, p3, k3, p4, k4, rfl, s2, s3, s4⟩ := open_TDesign ha2
  refine retV_of_run Tryz.func75 rfl (m := 84) rfl rfl (fun h => ?_)
  rw [impl_IsDesign] at hF
  refine r_seq (r_region (r_box h rfl rfl ?_))
  intro w1 bb1 h
  refine r_box h rfl rfl ?_
  intro w2 bb2 h
  refine rp rfl rfl (r_nil (r_seq (r_seq ?_)))
  obtain ⟨KF2, hKF2, o4, hF, hK4⟩ := bindE hF
  refine r_cut (fun e w' => ∃ (b1 : Bool), KF2 b1 = some r ∧ e = [(2, .pointer (some ⟨bb1, 0, none⟩)), (3, .pointer (some ⟨bb2, 0, none⟩)), (17, .bool b1)] ∧ SH w w' [Ch.box bb2 [.slice p2 a_1.Instances.length k2, .slice p3 a_1.Nets.length k3, .slice p4 a_1.Ports.length k4] 45, Ch.box bb1 [.slice p1 a_0.Cells.length k1] 41]) ?_ ?_
  · refine r_region (r_v (v_ld tabOk (h.box 1 rfl) (j := 0) rfl rfl rfl) rfl ?_)
    obtain ⟨r5, hr12, hF⟩ := bindS hF
    refine r_callB r5 h call124 (impl_IsLibrary_ok (h.old ha1) hr12) rfl rfl rfl rfl ?_
    intro w17 h
    refine rp rfl rfl (rp rfl rfl ?_)
    by_cases hc16 : (!r5) = true
    · replace hF := bifT hc16 hF
      refine r_setT hc16 (t := 13) rfl (r_not rfl rfl rfl (r_not rfl rfl rfl (r_not rfl rfl rfl (rp rfl rfl (r_nil ?_)))))
      obtain rfl := someI hF
      exact r_cutgoal [(2, _), (3, _), (17, _)] ⟨rfl, rfl, rfl, trivial⟩ ⟨_, hK4, rfl, h⟩
    replace hc16 := Bool.eq_false_iff.2 hc16
    replace hF := bifF hc16 hF
    refine r_setF hc16 (t := 13) rfl (r_wanted rfl (r_v (v_ld tabOk (h.box 0 rfl) (j := 0) rfl rfl rfl) rfl (r_wanted rfl ?_)))
    obtain ⟨r6, hr13, hF⟩ := bindS hF
    refine r_callB r6 h call125 (impl_Design_hasNames_ok (h.old ha2) hr13) rfl rfl rfl rfl ?_
    intro w18 h
    refine r_wanted rfl (rp rfl rfl (rp rfl rfl (r_nil ?_)))
    obtain rfl := someI hF
    exact r_cutgoal [(2, _), (3, _), (17, _)] ⟨rfl, rfl, rfl, trivial⟩ ⟨_, hK4, rfl, h⟩
  rintro e4 w19 ⟨b1, hF, rfl, h⟩
  subst hKF2
  refine r_if rfl hF (fun hF => ?_) (fun hF => ?_)
  · exact r_seq (r_region (rp rfl rfl (r_nil (r_rB tabOk h hF ⟨rfl, trivial⟩))))
  refine r_skip (r_seq (r_region (rp rfl rfl (r_v (v_ld tabOk (h.box 0 rfl) (j := 1) rfl rfl rfl) rfl (rp rfl rfl ?_)))))
  obtain ⟨x1, hx1, hF⟩ := bindS hF
  obtain ⟨g1, g2, hx1⟩ := mkS_some hx1
  refine r_makeE tabOk Int h rfl rfl rfl rfl rfl rfl rfl rfl rfl g1 g2 hx1 rfl ?_
  intro w3 S1 p5 h
  refine rp rfl rfl (r_nil (r_seq (r_seq (r_region (rp rfl rfl (r_v (v_ld tabOk (h.box 1 rfl) (j := 0) rfl rfl rfl) rfl (rp rfl rfl (rp rfl rfl (r_nil ?_)))))))))
  obtain ⟨o1, hF, hK1⟩ := bindS hF
  refine r_block (r_sub [(2, _), (3, _), (5, _), (23, _), (24, _), (25, _)] ⟨rfl, rfl, rfl, rfl, rfl, rfl, trivial⟩ ?_)
  refine r_loop (fun m e w' => ∃ (x2 : (List Int)) (i1 : Int), impl_IsDesign_L1 a_0 a_1 m x2 i1 = some o1 ∧ e = [(2, .pointer (some ⟨bb1, 0, none⟩)), (3, .pointer (some ⟨bb2, 0, none⟩)), (5, .slice p5 x1.length x1.length), (23, .slice p2 a_1.Instances.length k2), (24, .int .i64 (a_1.Instances.length : Int)), (25, .int .i64 i1)] ∧ SH w w' [Ch.own S1 (x2 : List Int) [.slice p5 x1.length x1.length], Ch.box bb2 [.slice p2 a_1.Instances.length k2, .slice p3 a_1.Nets.length k3, .slice p4 a_1.Ports.length k4] 45, Ch.box bb1 [.slice p1 a_0.Cells.length k1] 41]) n ⟨_, _, hF, rfl, h⟩ ?_
  rintro m1 e1 w4 ⟨x2, i1, hF, rfl, h⟩
  rcases m1 with _ | m1
  · rw [impl_IsDesign_L1] at hF
    cases hF
  rw [impl_IsDesign_L1] at hF
  refine r_seq (r_region (rp rfl rfl (r_nil (r_seq ?_))))
  refine r_if rfl hF (fun hF => ?_) (fun hF => ?_)
  · refine r_skip (r_seq (r_block (r_seq (r_region ?_))))
    obtain ⟨y1, hy1, hF⟩ := bindS hF
    have he1 := idx_some hy1
    obtain ⟨b2, o_1, q1, cs3, hp1, hq1, -, hr1, hc3⟩ := s2.at hy1
    obtain ⟨p6, k5, rfl, s5⟩ := open_TInstance hr1
    refine r_v (v_ix tabOk hp1 hq1 ⟨he1.1, he1.2.1⟩ rfl rfl rfl rfl rfl rfl) rfl (r_v (v_ld tabOk (hc3.below h.below) (j := 0) rfl rfl rfl) rfl (r_alloc tabOk h rfl rfl rfl ?_))
    intro w5 bb3 h
    refine r_stbox tabOk 0 h rfl rfl rfl rfl rfl rfl rfl ?_
    intro w6 h
    refine r_nil (r_seq (r_seq (r_region (r_v (v_ld tabOk (h.box 2 rfl) (j := 0) rfl rfl rfl) rfl (r_v (v_ld tabOk (h.box 3 rfl) (j := 0) rfl rfl rfl) rfl (r_v (v_ld tabOk (h.box 0 rfl) (j := 0) rfl rfl rfl) rfl ?_))))))
    obtain ⟨r1, hr2, hF⟩ := bindS hF
    refine r_callB r1 h call126 (impl_Design_isInstance_ok (h.old ha2) (h.old ha1) (mkR_TInstance y1 (h.oldS s5)) hr2) rfl rfl rfl rfl ?_
    intro w7 h
    refine rp rfl rfl (r_nil ?_)
    refine r_if rfl hF (fun hF => ?_) (fun hF => ?_)
    · refine r_seq (r_region (rp rfl rfl (r_nil ?_)))
      obtain rfl := someI hF; replace hF := hK1
      exact r_rB tabOk h hF ⟨rfl, trivial⟩
    refine r_skip (r_region (rp rfl rfl (rp rfl rfl (r_v (v_ld tabOk (h.box 0 rfl) (j := 2) rfl rfl rfl) rfl (rp rfl rfl (r_v (v_ld tabOk (h.box 0 rfl) (j := 2) rfl rfl rfl) rfl (rp rfl rfl (rp rfl rfl ?_))))))))
    obtain ⟨y2, hy2, hF⟩ := bindS hF
    have he2 := idx_some hy2
    obtain ⟨b3, o_2, q2, cs4, hp2, hq2, -, hr3, hc5⟩ := s5.at hy2
    obtain rfl := hr3
    refine r_v (v_ix tabOk hp2 hq2 ⟨he2.1, he2.2.1⟩ rfl rfl rfl rfl rfl rfl) rfl (r_v (v_ld tabOk (hc5.below h.below) (j := 0) rfl rfl rfl) rfl ?_)
    obtain ⟨y3, hy3, hF⟩ := bindS hF
    have he3 := idx_some hy3
    obtain ⟨b4, o_3, q3, cs5, hp3, hq3, -, hr4, hc6⟩ := (h.sl 1 rfl).1.at hy3
    obtain rfl := hr4
    refine r_v (v_ix tabOk hp3 hq3 ⟨he3.1, lt_ln he3.2.1 (h.sl 1 rfl).2⟩ rfl rfl rfl rfl rfl rfl) rfl (r_v (v_ld tabOk hc6 (j := 0) rfl rfl rfl) rfl (rp rfl rfl ?_))
    obtain ⟨y4, hy4, hF⟩ := bindS hF
    have he4 := idx_some hy4
    obtain ⟨b5, o_4, q4, cs6, hp4, hq4, -, hr5, hc7⟩ := (h.sl 1 rfl).1.at hy4
    obtain rfl := hr5
    refine r_v (v_ix tabOk hp4 hq4 ⟨he4.1, lt_ln he4.2.1 (h.sl 1 rfl).2⟩ rfl rfl rfl rfl rfl rfl) rfl (r_stown tabOk 1 0 (W64 (y3 + 1)) h rfl hy4 hp4 hq4 rfl hc7 rfl rfl rfl rfl rfl rfl rfl ?_)
    intro w8 h
    refine r_nil (r_blk (r_region (rp rfl rfl (rp rfl rfl (r_nil ?_)))))
    replace h := h.pick [1, 2, 3] rfl
    exact r_back m1 [(2, _), (3, _), (5, _), (23, _), (24, _), (25, _)] (Nat.lt_succ_self m1) ⟨rfl, rfl, rfl, rfl, rfl, rfl, trivial⟩ ⟨_, _, hF, rfl, h⟩
  refine r_exit rfl ?_
  obtain rfl := someI hF; replace hF := hK1
  refine r_seq (r_seq (r_region (rp rfl rfl (r_v (v_ld tabOk (h.box 1 rfl) (j := 2) rfl rfl rfl) rfl (rp rfl rfl (rp rfl rfl (r_nil ?_)))))))
  obtain ⟨o2, hF, hK2⟩ := bindS hF
  refine r_block ?_
  replace h := h.pick [0, 1] rfl
  refine r_sub [(3, _), (5, _), (49, _), (50, _), (51, _)] ⟨rfl, rfl, rfl, rfl, rfl, trivial⟩ ?_
  refine r_loop (fun m e w' => ∃ (x3 : (List Int)) (i2 : Int), impl_IsDesign_L2 a_1 m x3 i2 = some o2 ∧ e = [(3, .pointer (some ⟨bb2, 0, none⟩)), (5, .slice p5 x1.length x1.length), (49, .slice p4 a_1.Ports.length k4), (50, .int .i64 (a_1.Ports.length : Int)), (51, .int .i64 i2)] ∧ SH w w' [Ch.own S1 (x3 : List Int) [.slice p5 x1.length x1.length], Ch.box bb2 [.slice p2 a_1.Instances.length k2, .slice p3 a_1.Nets.length k3, .slice p4 a_1.Ports.length k4] 45]) n ⟨_, _, hF, rfl, h⟩ ?_
  rintro m2 e2 w9 ⟨x3, i2, hF, rfl, h⟩
  rcases m2 with _ | m2
  · rw [impl_IsDesign_L2] at hF
    cases hF
  rw [impl_IsDesign_L2] at hF
  refine r_seq (r_region (rp rfl rfl (r_nil (r_seq ?_))))
  refine r_if rfl hF (fun hF => ?_) (fun hF => ?_)
  · refine r_skip (r_seq (r_block (r_seq (r_region ?_))))
    obtain ⟨y5, hy5, hF⟩ := bindS hF
    have he5 := idx_some hy5
    obtain ⟨b6, o_5, q5, cs7, hp5, hq5, -, hr6, hc9⟩ := s4.at hy5
    obtain rfl := open_TPort hr6
    refine r_v (v_ix tabOk hp5 hq5 ⟨he5.1, he5.2.1⟩ rfl rfl rfl rfl rfl rfl) rfl (r_v (v_ld tabOk (hc9.below h.below) (j := 0) rfl rfl rfl) rfl (r_alloc tabOk h rfl rfl rfl ?_))
    intro w10 bb4 h
    refine r_stbox tabOk 0 h rfl rfl rfl rfl rfl rfl rfl ?_
    intro w11 h
    replace h : SH _ _ [Ch.box bb4 [.string y5.Name, .int .i64 y5.Dir, .int .i64 y5.Net] 148, Ch.own S1 (x3 : List Int) [.slice p5 x1.length x1.length], Ch.box bb2 [.slice p2 a_1.Instances.length k2, .slice p3 a_1.Nets.length k3, .slice p4 a_1.Ports.length k4] 45] := h
    refine r_nil (r_seq (r_seq ?_))
    obtain ⟨KF1, hKF1, o3, hF, hK3⟩ := bindE hF
    refine r_cut (fun e w' => ∃ (b7 : Bool), KF1 b7 = some o2 ∧ e = [(3, .pointer (some ⟨bb2, 0, none⟩)), (5, .slice p5 x1.length x1.length), (9, .pointer (some ⟨bb4, 0, none⟩)), (49, .slice p4 a_1.Ports.length k4), (50, .int .i64 (a_1.Ports.length : Int)), (51, .int .i64 i2), (69, .bool b7)] ∧ SH w w' [Ch.box bb4 [.string y5.Name, .int .i64 y5.Dir, .int .i64 y5.Net] 148, Ch.own S1 (x3 : List Int) [.slice p5 x1.length x1.length], Ch.box bb2 [.slice p2 a_1.Instances.length k2, .slice p3 a_1.Nets.length k3, .slice p4 a_1.Ports.length k4] 45]) ?_ ?_
    · refine r_region (rp rfl rfl (r_v (v_ld tabOk (h.box 0 rfl) (j := 1) rfl rfl rfl) rfl (rp rfl rfl (rp rfl rfl ?_))))
      by_cases hc14 : (y5.Dir != 1) = true
      · replace hF := bifT hc14 hF
        refine r_setT hc14 (t := 58) rfl (r_wanted rfl (rp rfl rfl (r_wanted rfl (r_v (v_ld tabOk (h.box 0 rfl) (j := 1) rfl rfl rfl) rfl (r_wanted rfl (rp rfl rfl (rp rfl rfl (rp rfl rfl ?_))))))))
        by_cases hc15 : (y5.Dir != 2) = true
        · replace hF := bifT hc15 hF
          refine r_setT hc15 (t := 63) rfl (r_not rfl rfl rfl (r_not rfl rfl rfl (r_not rfl rfl rfl (r_not rfl rfl rfl (r_not rfl rfl rfl (rp rfl rfl (r_nil ?_)))))))
          obtain rfl := someI hF
          exact r_cutgoal [(3, _), (5, _), (9, _), (49, _), (50, _), (51, _), (69, _)] ⟨rfl, rfl, rfl, rfl, rfl, rfl, rfl, trivial⟩ ⟨_, hK3, rfl, h⟩
        replace hc15 := Bool.eq_false_iff.2 hc15
        replace hF := bifF hc15 hF
        refine r_setF hc15 (t := 63) rfl (r_wanted rfl (r_v (v_ld tabOk (h.box 2 rfl) (j := 0) rfl rfl rfl) rfl (r_wanted rfl (rp rfl rfl (r_wanted rfl (r_v (v_ld tabOk (h.box 0 rfl) (j := 2) rfl rfl rfl) rfl (r_wanted rfl ?_)))))))
        obtain ⟨r2, hr9, hF⟩ := bindS hF
        refine r_callB r2 h call127 (impl_Design_isNet_ok (h.old ha2) hr9) rfl rfl rfl rfl ?_
        intro w13 h
        refine r_wanted rfl (rp rfl rfl (rp rfl rfl (r_nil ?_)))
        obtain rfl := someI hF
        exact r_cutgoal [(3, _), (5, _), (9, _), (49, _), (50, _), (51, _), (69, _)] ⟨rfl, rfl, rfl, rfl, rfl, rfl, rfl, trivial⟩ ⟨_, hK3, rfl, h⟩
      replace hc14 := Bool.eq_false_iff.2 hc14
      replace hF := bifF hc14 hF
      refine r_setF hc14 (t := 58) rfl (r_not rfl rfl rfl (r_not rfl rfl rfl (r_not rfl rfl rfl (rp rfl rfl (rp rfl rfl (r_wanted rfl (r_v (v_ld tabOk (h.box 2 rfl) (j := 0) rfl rfl rfl) rfl (r_wanted rfl (rp rfl rfl (r_wanted rfl (r_v (v_ld tabOk (h.box 0 rfl) (j := 2) rfl rfl rfl) rfl ?_)))))))))))
      refine r_wanted rfl ?_
      obtain ⟨r3, hr10, hF⟩ := bindS hF
      refine r_callB r3 h call127 (impl_Design_isNet_ok (h.old ha2) hr10) rfl rfl rfl rfl ?_
      intro w14 h
      refine r_wanted rfl (rp rfl rfl (rp rfl rfl (r_nil ?_)))
      obtain rfl := someI hF
      exact r_cutgoal [(3, _), (5, _), (9, _), (49, _), (50, _), (51, _), (69, _)] ⟨rfl, rfl, rfl, rfl, rfl, rfl, rfl, trivial⟩ ⟨_, hK3, rfl, h⟩
    rintro e3 w15 ⟨b7, hF, rfl, h⟩
    subst hKF1
    refine r_if rfl hF (fun hF => ?_) (fun hF => ?_)
    · refine r_seq (r_region (rp rfl rfl (r_nil ?_)))
      obtain rfl := someI hF; replace hF := hK2
      exact r_rB tabOk h hF ⟨rfl, trivial⟩
    refine r_skip (r_seq (r_region (rp rfl rfl (r_v (v_ld tabOk (h.box 0 rfl) (j := 1) rfl rfl rfl) rfl (rp rfl rfl (r_nil ?_))))))
    refine r_if rfl hF (fun hF => ?_) (fun hF => ?_)
    · refine r_region (rp rfl rfl (rp rfl rfl (r_v (v_ld tabOk (h.box 0 rfl) (j := 2) rfl rfl rfl) rfl ?_)))
      obtain ⟨y6, hy6, hF⟩ := bindS hF
      have he6 := idx_some hy6
      obtain ⟨b8, o_6, q6, cs8, hp6, hq6, -, hr7, hc12⟩ := (h.sl 1 rfl).1.at hy6
      obtain rfl := hr7
      refine r_v (v_ix tabOk hp6 hq6 ⟨he6.1, lt_ln he6.2.1 (h.sl 1 rfl).2⟩ rfl rfl rfl rfl rfl rfl) rfl (r_v (v_ld tabOk hc12 (j := 0) rfl rfl rfl) rfl (rp rfl rfl ?_))
      obtain ⟨y7, hy7, hF⟩ := bindS hF
      have he7 := idx_some hy7
      obtain ⟨b9, o_7, q7, cs9, hp7, hq7, -, hr8, hc13⟩ := (h.sl 1 rfl).1.at hy7
      obtain rfl := hr8
      refine r_v (v_ix tabOk hp7 hq7 ⟨he7.1, lt_ln he7.2.1 (h.sl 1 rfl).2⟩ rfl rfl rfl rfl rfl rfl) rfl (r_stown tabOk 1 0 (W64 (y6 + 1)) h rfl hy7 hp7 hq7 rfl hc13 rfl rfl rfl rfl rfl rfl rfl ?_)
      intro w12 h
      refine r_nil (r_blk (r_region (rp rfl rfl (rp rfl rfl (r_nil ?_)))))
      replace h := h.pick [1, 2] rfl
      exact r_back m2 [(3, _), (5, _), (49, _), (50, _), (51, _)] (Nat.lt_succ_self m2) ⟨rfl, rfl, rfl, rfl, rfl, trivial⟩ ⟨_, _, hF, rfl, h⟩
    refine r_skip (r_blk (r_region (rp rfl rfl (rp rfl rfl (r_nil ?_)))))
    replace h := h.pick [1, 2] rfl
    exact r_back m2 [(3, _), (5, _), (49, _), (50, _), (51, _)] (Nat.lt_succ_self m2) ⟨rfl, rfl, rfl, rfl, rfl, trivial⟩ ⟨_, _, hF, rfl, h⟩
  refine r_exit rfl ?_
  obtain rfl := someI hF; replace hF := hK2
  refine r_seq (r_region (rp rfl rfl ?_))
  obtain ⟨r4, hr11, hF⟩ := bindS hF
  refine r_callB r4 h call128 (slices_ContainsFunc_int_impl_IsDesign_1_ok (h.own 0 rfl) hr11) rfl rfl rfl rfl ?_
  intro w16 h
  exact rp rfl rfl (rp rfl rfl (r_nil (r_rB tabOk h hF ⟨rfl, trivial⟩)))

def impl_Design_places_L2 (i1 : Int) (y1 : TInstance) : Nat → (List Tplace) → Int → Option ((List Tplace) × Int)
  | 0, _, _ => none
  | n + 1, x2, i2 =>
    bif decide (i2 < (y1.Nets.length : Int)) then
      (idx y1.Nets i2).bind fun y2 =>
      (appS x2 ([(⟨i1, i2, y2, (i2 == (W64 ((y1.Nets.length : Int) - 1)))⟩ : Tplace)] : List Tplace)).bind fun x3 =>
      impl_Design_places_L2 i1 y1 n x3 (W64 (i2 + 1))
    else
      some (x2, i2)

def impl_Design_places_L3 (d : TDesign) : Nat → (List Tplace) → Int → Option ((List Tplace) × Int)
  | 0, _, _ => none
  | n + 1, x4, i3 =>
    bif decide (i3 < (d.Ports.length : Int)) then
      (idx d.Ports i3).bind fun y3 =>
      (appS x4 ([(⟨(-1), i3, y3.Net, (y3.Dir == 1)⟩ : Tplace)] : List Tplace)).bind fun x5 =>
      impl_Design_places_L3 d n x5 (W64 (i3 + 1))
    else
      some (x4, i3)

def impl_Design_places_L1 (d : TDesign) : Nat → (List Tplace) → Int → Option ((List Tplace) × Int)
  | 0, _, _ => none
  | n + 1, x1, i1 =>
    bif decide (i1 < (d.Instances.length : Int)) then
      (idx d.Instances i1).bind fun y1 =>
      (impl_Design_places_L2 i1 y1 n x1 0).bind fun o => match o with
      | (x2, _) =>
        impl_Design_places_L1 d n x2 (W64 (i1 + 1))
    else
      some (x1, i1)

def impl_Design_places (n : Nat) (d : TDesign) : Option (List Tplace) :=
  (impl_Design_places_L1 d n ([] : List Tplace) 0).bind fun o => match o with
  | (x1, _) =>
    (impl_Design_places_L3 d n x1 0).bind fun o => match o with
    | (x4, _) =>
      some x4

theorem impl_Design_places_ok {n : Nat} {w : World} {d : TDesign} {cs1 : List Value} (ha1 : GoT.R w (old w) d cs1) {r : (List Tplace)} (hF : impl_Design_places n d = some r) : RetV Tryz.prog 76 [GoT.v TDesign cs1] w r := by
  obtain ⟨p1, k1, p2, k2, p3, k3, rfl, s1, s2, s3⟩ := open_TDesign ha1
  refine retV_of_run Tryz.func76 rfl (m := 61) rfl rfl (fun h => ?_)
  rw [impl_Design_places] at hF
  refine r_seq (r_region (r_box h rfl rfl ?_))
  intro w1 bb1 h
  refine rp rfl rfl (r_nil (r_seq (r_region (rp rfl rfl (r_nil (r_seq (r_seq (r_region (rp rfl rfl (r_v (v_ld tabOk (h.box 0 rfl) (j := 0) rfl rfl rfl) rfl (rp rfl rfl ?_)))))))))))
  refine rp rfl rfl (r_nil ?_)
  replace h := h.nil (α := Tplace)
  obtain ⟨o1, hF, hK1⟩ := bindS hF
  refine r_block (r_sub [(1, _), (3, _), (11, _), (12, _), (13, _)] ⟨rfl, rfl, rfl, rfl, rfl, trivial⟩ ?_)
  refine r_loop (fun m e w' => ∃ (S1 : Nat → Prop) (p4 : Option Addr) (ln1 : Nat) (k4 : Nat) (x1 : (List Tplace)) (i1 : Int), impl_Design_places_L1 d m x1 i1 = some o1 ∧ e = [(1, .pointer (some ⟨bb1, 0, none⟩)), (3, .slice p4 ln1 k4), (11, .slice p1 d.Instances.length k1), (12, .int .i64 (d.Instances.length : Int)), (13, .int .i64 i1)] ∧ SH w w' [Ch.own S1 (x1 : List Tplace) [.slice p4 ln1 k4], Ch.box bb1 [.slice p1 d.Instances.length k1, .slice p2 d.Nets.length k2, .slice p3 d.Ports.length k3] 45]) n ⟨_, _, _, _, _, _, hF, rfl, h⟩ ?_
  rintro m1 e1 w2 ⟨S1, p4, ln1, k4, x1, i1, hF, rfl, h⟩
  obtain rfl := (h.sl 0 rfl).2
  rcases m1 with _ | m1
  · rw [impl_Design_places_L1] at hF
    cases hF
  rw [impl_Design_places_L1] at hF
  refine r_seq (r_region (rp rfl rfl (r_nil (r_seq ?_))))
  refine r_if rfl hF (fun hF => ?_) (fun hF => ?_)
  · refine r_skip (r_seq (r_block (r_seq (r_region (rp rfl rfl ?_)))))
    obtain ⟨y1, hy1, hF⟩ := bindS hF
    have he1 := idx_some hy1
    obtain ⟨b1, o_1, q1, cs2, hp1, hq1, -, hr1, hc2⟩ := s1.at hy1
    obtain ⟨p5, k5, rfl, s4⟩ := open_TInstance hr1
    refine r_v (v_ix tabOk hp1 hq1 ⟨he1.1, he1.2.1⟩ rfl rfl rfl rfl rfl rfl) rfl (r_v (v_ld tabOk (hc2.below h.below) (j := 0) rfl rfl rfl) rfl (r_alloc tabOk h rfl rfl rfl ?_))
    intro w3 bb2 h
    refine rp rfl rfl (r_stbox tabOk 0 h rfl rfl rfl rfl rfl rfl rfl ?_)
    intro w4 h
    replace h : SH _ _ [Ch.box bb2 [.string y1.Name, .int .i64 y1.Cell, .slice p5 y1.Nets.length k5] 126, Ch.own S1 (x1 : List Tplace) [.slice p4 x1.length k4], Ch.box bb1 [.slice p1 d.Instances.length k1, .slice p2 d.Nets.length k2, .slice p3 d.Ports.length k3] 45] := h
    refine r_nil (r_seq (r_region (rp rfl rfl (r_v (v_ld tabOk (h.box 0 rfl) (j := 2) rfl rfl rfl) rfl (rp rfl rfl (rp rfl rfl (r_nil ?_)))))))
    obtain ⟨o2, hF, hK2⟩ := bindS hF
    refine r_block (r_sub [(1, _), (3, _), (4, _), (5, _), (11, _), (12, _), (13, _), (19, _), (20, _), (21, _)] ⟨rfl, rfl, rfl, rfl, rfl, rfl, rfl, rfl, rfl, rfl, trivial⟩ ?_)
    refine r_loop (fun m e w' => ∃ (S2 : Nat → Prop) (p6 : Option Addr) (ln2 : Nat) (k6 : Nat) (x2 : (List Tplace)) (i2 : Int), impl_Design_places_L2 i1 y1 m x2 i2 = some o2 ∧ e = [(1, .pointer (some ⟨bb1, 0, none⟩)), (3, .slice p6 ln2 k6), (4, .int .i64 i1), (5, .pointer (some ⟨bb2, 0, none⟩)), (11, .slice p1 d.Instances.length k1), (12, .int .i64 (d.Instances.length : Int)), (13, .int .i64 i1), (19, .slice p5 y1.Nets.length k5), (20, .int .i64 (y1.Nets.length : Int)), (21, .int .i64 i2)] ∧ SH w w' [Ch.box bb2 [.string y1.Name, .int .i64 y1.Cell, .slice p5 y1.Nets.length k5] 126, Ch.own S2 (x2 : List Tplace) [.slice p6 ln2 k6], Ch.box bb1 [.slice p1 d.Instances.length k1, .slice p2 d.Nets.length k2, .slice p3 d.Ports.length k3] 45]) m1 ⟨_, _, _, _, _, _, hF, rfl, h⟩ ?_
    rintro m2 e2 w5 ⟨S2, p6, ln2, k6, x2, i2, hF, rfl, h⟩
    obtain rfl := (h.sl 1 rfl).2
    rcases m2 with _ | m2
    · rw [impl_Design_places_L2] at hF
      cases hF
    rw [impl_Design_places_L2] at hF
    refine r_seq (r_region (rp rfl rfl (r_nil (r_seq ?_))))
    refine r_if rfl hF (fun hF => ?_) (fun hF => ?_)
    · refine r_skip (r_seq (r_block (r_seq (r_region (rp rfl rfl ?_)))))
      obtain ⟨y2, hy2, hF⟩ := bindS hF
      have he2 := idx_some hy2
      obtain ⟨b2, o_2, q2, cs3, hp2, hq2, -, hr2, hc4⟩ := s4.at hy2
      obtain rfl := hr2
      refine r_v (v_ix tabOk hp2 hq2 ⟨he2.1, he2.2.1⟩ rfl rfl rfl rfl rfl rfl) rfl (r_v (v_ld tabOk (hc4.below h.below) (j := 0) rfl rfl rfl) rfl (rp rfl rfl (rp rfl rfl (r_nil (r_region (rp rfl rfl (rp rfl rfl (rp rfl rfl (rp rfl rfl (rp rfl rfl (rp rfl rfl ?_)))))))))))
      refine r_v (v_ld tabOk (h.box 0 rfl) (j := 2) rfl rfl rfl) rfl (rp rfl rfl (rp rfl rfl (rp rfl rfl (r_v (v_build tabOk [0, 1, 2, 3] [.tmp 27, .tmp 28, .tmp 29, .tmp 35] rfl rfl rfl rfl rfl rfl rfl rfl) rfl (r_bslice tabOk [.tmp 36] _ ([(⟨i1, i2, y2, (i2 == (W64 ((y1.Nets.length : Int) - 1)))⟩ : Tplace)] : List Tplace) h rfl rfl rfl rfl rfl rfl rfl rfl rfl ⟨(mkR_Tplace (⟨i1, i2, y2, (i2 == (W64 ((y1.Nets.length : Int) - 1)))⟩ : Tplace)), trivial⟩ rfl ?_)))))
      intro w6 p7 S3 h
      obtain ⟨x3, hx1, hF⟩ := bindS hF
      obtain ⟨g1, hx1⟩ := appS_some hx1
      refine r_appE tabOk 2 h rfl (h.sl 0 rfl).1 (h.sl 0 rfl).2 rfl rfl rfl rfl rfl rfl rfl rfl rfl g1 hx1 rfl ?_
      intro w7 p8 k7 S4 h
      refine rp rfl rfl (r_nil (r_blk (r_region (rp rfl rfl (rp rfl rfl (r_nil ?_))))))
      replace h := h.pick [1, 2, 3] rfl
      exact r_back m2 [(1, _), (3, _), (4, _), (5, _), (11, _), (12, _), (13, _), (19, _), (20, _), (21, _)] (Nat.lt_succ_self m2) ⟨rfl, rfl, rfl, rfl, rfl, rfl, rfl, rfl, rfl, rfl, trivial⟩ ⟨_, _, _, _, _, _, hF, rfl, h⟩
    refine r_exit rfl ?_
    obtain rfl := someI hF; replace hF := hK2
    refine r_blk (r_region (rp rfl rfl (rp rfl rfl (r_nil ?_))))
    replace h := h.pick [1, 2] rfl
    exact r_back m1 [(1, _), (3, _), (11, _), (12, _), (13, _)] (Nat.lt_succ_self m1) ⟨rfl, rfl, rfl, rfl, rfl, trivial⟩ ⟨_, _, _, _, _, _, hF, rfl, h⟩
  refine r_exit rfl ?_
  obtain rfl := someI hF; replace hF := hK1
  refine r_seq (r_seq (r_region (rp rfl rfl (r_v (v_ld tabOk (h.box 1 rfl) (j := 2) rfl rfl rfl) rfl (rp rfl rfl (rp rfl rfl (r_nil ?_)))))))
  obtain ⟨o3, hF, hK3⟩ := bindS hF
  refine r_block ?_
  replace h := h.pick [0] rfl
  refine r_sub [(3, _), (42, _), (43, _), (44, _)] ⟨rfl, rfl, rfl, rfl, trivial⟩ ?_
  refine r_loop (fun m e w' => ∃ (S5 : Nat → Prop) (p9 : Option Addr) (ln3 : Nat) (k8 : Nat) (x4 : (List Tplace)) (i3 : Int), impl_Design_places_L3 d m x4 i3 = some o3 ∧ e = [(3, .slice p9 ln3 k8), (42, .slice p3 d.Ports.length k3), (43, .int .i64 (d.Ports.length : Int)), (44, .int .i64 i3)] ∧ SH w w' [Ch.own S5 (x4 : List Tplace) [.slice p9 ln3 k8]]) n ⟨_, _, _, _, _, _, hF, rfl, h⟩ ?_
  rintro m3 e3 w8 ⟨S5, p9, ln3, k8, x4, i3, hF, rfl, h⟩
  obtain rfl := (h.sl 0 rfl).2
  rcases m3 with _ | m3
  · rw [impl_Design_places_L3] at hF
    cases hF
  rw [impl_Design_places_L3] at hF
  refine r_seq (r_region (rp rfl rfl (r_nil (r_seq ?_))))
  refine r_if rfl hF (fun hF => ?_) (fun hF => ?_)
  · refine r_skip (r_seq (r_block (r_seq (r_region (rp rfl rfl ?_)))))
    obtain ⟨y3, hy3, hF⟩ := bindS hF
    have he3 := idx_some hy3
    obtain ⟨b3, o_3, q3, cs4, hp3, hq3, -, hr3, hc6⟩ := s3.at hy3
    obtain rfl := open_TPort hr3
    refine r_v (v_ix tabOk hp3 hq3 ⟨he3.1, he3.2.1⟩ rfl rfl rfl rfl rfl rfl) rfl (r_v (v_ld tabOk (hc6.below h.below) (j := 0) rfl rfl rfl) rfl (r_alloc tabOk h rfl rfl rfl ?_))
    intro w9 bb3 h
    refine rp rfl rfl (r_stbox tabOk 0 h rfl rfl rfl rfl rfl rfl rfl ?_)
    intro w10 h
    refine r_nil (r_region (rp rfl rfl (rp rfl rfl (rp rfl rfl (r_v (v_ld tabOk (h.box 0 rfl) (j := 2) rfl rfl rfl) rfl (rp rfl rfl (r_v (v_ld tabOk (h.box 0 rfl) (j := 1) rfl rfl rfl) rfl (rp rfl rfl (r_v (v_build tabOk [0, 1, 2, 3] [.const (.int .i64 (-1)), .tmp 50, .tmp 52, .tmp 55] rfl rfl rfl rfl rfl rfl rfl rfl) rfl (r_bslice tabOk [.tmp 56] _ ([(⟨(-1), i3, y3.Net, (y3.Dir == 1)⟩ : Tplace)] : List Tplace) h rfl rfl rfl rfl rfl rfl rfl rfl rfl ⟨(mkR_Tplace (⟨(-1), i3, y3.Net, (y3.Dir == 1)⟩ : Tplace)), trivial⟩ rfl ?_))))))))))
    intro w11 p10 S6 h
    obtain ⟨x5, hx2, hF⟩ := bindS hF
    obtain ⟨g2, hx2⟩ := appS_some hx2
    refine r_appE tabOk 2 h rfl (h.sl 0 rfl).1 (h.sl 0 rfl).2 rfl rfl rfl rfl rfl rfl rfl rfl rfl g2 hx2 rfl ?_
    intro w12 p11 k9 S7 h
    refine rp rfl rfl (r_nil (r_blk (r_region (rp rfl rfl (rp rfl rfl (r_nil ?_))))))
    replace h := h.pick [2] rfl
    exact r_back m3 [(3, _), (42, _), (43, _), (44, _)] (Nat.lt_succ_self m3) ⟨rfl, rfl, rfl, rfl, trivial⟩ ⟨_, _, _, _, _, _, hF, rfl, h⟩
  refine r_exit rfl ?_
  obtain rfl := someI hF; replace hF := hK3
  refine r_seq (r_region (rp rfl rfl (rp rfl rfl (r_nil ?_))))
  obtain rfl := someI hF
  exact r_retV tabOk (ρ := (List Tplace)) [GoT.v (List Tplace) [.slice p9 x4.length k8]] h ⟨rfl, trivial⟩ (PV.done h (pv_one (po_own 0 h rfl)))

def impl_Wire_isTree_L1 (a_w : TWire) : Nat → Int → Option (Flow Bool Int)
  | 0, _ => none
  | n + 1, i1 =>
    bif decide (i1 < (a_w.Parent.length : Int)) then
      (idx a_w.Parent i1).bind fun y1 =>
      bif (i1 == 0) then
        bif (y1 != (-1)) then
          some (.ret false)
        else
          (idx a_w.Res 0).bind fun y2 =>
          bif (y2 != 0) then
            some (.ret false)
          else
            bif decide (i1 > 0) then
              (impl_within n y1 0 (W64 (i1 - 1))).bind fun r1 =>
              bif (!r1) then
                some (.ret false)
              else
                impl_Wire_isTree_L1 a_w n (W64 (i1 + 1))
            else
              impl_Wire_isTree_L1 a_w n (W64 (i1 + 1))
      else
        bif decide (i1 > 0) then
          (impl_within n y1 0 (W64 (i1 - 1))).bind fun r2 =>
          bif (!r2) then
            some (.ret false)
          else
            impl_Wire_isTree_L1 a_w n (W64 (i1 + 1))
        else
          impl_Wire_isTree_L1 a_w n (W64 (i1 + 1))
    else
      some (.nxt i1)

def impl_Wire_isTree (n : Nat) (a_w : TWire) : Option Bool :=
  (impl_Wire_isTree_L1 a_w n 0).bind fun o => match o with
  | .ret r => some r
  | .nxt _ =>
    some true

theorem impl_Wire_isTree_ok {n : Nat} {w : World} {a_w : TWire} {cs1 : List Value} (ha1 : GoT.R w (old w) a_w cs1) {r : Bool} (hF : impl_Wire_isTree n a_w = some r) : RetV Tryz.prog 130 [GoT.v TWire cs1] w r := by
  obtain ⟨p1, k1, p2, k2, p3, k3, p4, k4, rfl, s1, s2, s3, s4⟩ := open_TWire ha1
  refine retV_of_run Tryz.func130 rfl (m := 38) rfl rfl (fun h => ?_)
  rw [impl_Wire_isTree] at hF
  refine r_seq (r_region (r_box h rfl rfl ?_))
  intro w1 bb1 h
  refine rp rfl rfl (r_nil (r_seq (r_seq (r_region (rp rfl rfl (r_v (v_ld tabOk (h.box 0 rfl) (j := 0) rfl rfl rfl) rfl (rp rfl rfl (rp rfl rfl (r_nil ?_)))))))))
  obtain ⟨o1, hF, hK1⟩ := bindS hF
  refine r_block (r_sub [(1, _), (6, _), (7, _), (8, _)] ⟨rfl, rfl, rfl, rfl, trivial⟩ ?_)
  refine r_loop (fun m e w' => ∃ (i1 : Int), impl_Wire_isTree_L1 a_w m i1 = some o1 ∧ e = [(1, .pointer (some ⟨bb1, 0, none⟩)), (6, .slice p1 a_w.Parent.length k1), (7, .int .i64 (a_w.Parent.length : Int)), (8, .int .i64 i1)] ∧ SH w w' [Ch.box bb1 [.slice p1 a_w.Parent.length k1, .slice p2 a_w.Res.length k2, .slice p3 a_w.Cap.length k3, .slice p4 a_w.Sink.length k4] 117]) n ⟨_, hF, rfl, h⟩ ?_
  rintro m1 e1 w2 ⟨i1, hF, rfl, h⟩
  rcases m1 with _ | m1
  · rw [impl_Wire_isTree_L1] at hF
    cases hF
  rw [impl_Wire_isTree_L1] at hF
  refine r_seq (r_region (rp rfl rfl (r_nil (r_seq ?_))))
  refine r_if rfl hF (fun hF => ?_) (fun hF => ?_)
  · refine r_skip (r_seq (r_block (r_seq (r_region (rp rfl rfl ?_)))))
    obtain ⟨y1, hy1, hF⟩ := bindS hF
    have he1 := idx_some hy1
    obtain ⟨b1, o_1, q1, cs2, hp1, hq1, -, hr1, hc2⟩ := s1.at hy1
    obtain rfl := hr1
    refine r_v (v_ix tabOk hp1 hq1 ⟨he1.1, he1.2.1⟩ rfl rfl rfl rfl rfl rfl) rfl (r_v (v_ld tabOk (hc2.below h.below) (j := 0) rfl rfl rfl) rfl (rp rfl rfl (rp rfl rfl (r_nil (r_seq (r_region (rp rfl rfl (rp rfl rfl (rp rfl rfl ?_)))))))))
    by_cases hc3 : (i1 == 0) = true
    · replace hF := bifT hc3 hF
      refine r_setT hc3 (t := 15) rfl (r_wanted rfl (rp rfl rfl (r_wanted rfl (rp rfl rfl (r_wanted rfl (rp rfl rfl ?_))))))
      by_cases hc4 : (y1 != (-1)) = true
      · replace hF := bifT hc4 hF
        refine r_setT hc4 (t := 18) rfl (r_not rfl rfl rfl (r_not rfl rfl rfl (r_not rfl rfl rfl (r_not rfl rfl rfl (r_not rfl rfl rfl (r_wanted rfl (rp rfl rfl (rp rfl rfl (rp rfl rfl (r_not rfl rfl rfl (r_not rfl rfl rfl ?_)))))))))))
        refine r_not rfl rfl rfl (r_not rfl rfl rfl (r_not rfl rfl rfl (r_not rfl rfl rfl (r_not rfl rfl rfl (r_not rfl rfl rfl (r_not rfl rfl rfl (rp rfl rfl (r_nil (r_condT rfl rfl (r_seq (r_region ?_)))))))))))
        refine rp rfl rfl (r_nil ?_)
        obtain rfl := someI hF; replace hF := hK1
        exact r_rB tabOk h hF ⟨rfl, trivial⟩
      replace hc4 := Bool.eq_false_iff.2 hc4
      replace hF := bifF hc4 hF
      refine r_setF hc4 (t := 18) rfl (r_wanted rfl (rp rfl rfl (r_wanted rfl (r_v (v_ld tabOk (h.box 0 rfl) (j := 1) rfl rfl rfl) rfl (r_wanted rfl ?_)))))
      obtain ⟨y2, hy2, hF⟩ := bindS hF
      have he2 := idx_some hy2
      obtain ⟨b2, o_2, q2, cs3, hp2, hq2, -, hr2, hc5⟩ := s2.at hy2
      obtain rfl := hr2
      refine r_v (v_ix tabOk hp2 hq2 ⟨he2.1, he2.2.1⟩ rfl rfl rfl rfl rfl rfl) rfl (r_wanted rfl (r_v (v_ld tabOk (hc5.below h.below) (j := 0) rfl rfl rfl) rfl (r_wanted rfl (rp rfl rfl (r_wanted rfl (rp rfl rfl (rp rfl rfl (rp rfl rfl ?_))))))))
      by_cases hc6 : (y2 != 0) = true
      · replace hF := bifT hc6 hF
        refine r_setT hc6 (t := 26) rfl (r_not rfl rfl rfl (r_not rfl rfl rfl (r_not rfl rfl rfl (r_not rfl rfl rfl (r_not rfl rfl rfl (r_not rfl rfl rfl (r_not rfl rfl rfl (r_not rfl rfl rfl (r_not rfl rfl rfl (rp rfl rfl (r_nil ?_)))))))))))
        refine r_condT rfl rfl (r_seq (r_region (rp rfl rfl (r_nil ?_))))
        obtain rfl := someI hF; replace hF := hK1
        exact r_rB tabOk h hF ⟨rfl, trivial⟩
      replace hc6 := Bool.eq_false_iff.2 hc6
      replace hF := bifF hc6 hF
      refine r_setF hc6 (t := 26) rfl (r_wanted rfl (rp rfl rfl (r_wanted rfl (rp rfl rfl (r_wanted rfl (rp rfl rfl ?_))))))
      by_cases hc7 : (decide (i1 > 0)) = true
      · replace hF := bifT hc7 hF
        refine r_setT hc7 (t := 29) rfl (r_wanted rfl (rp rfl rfl (r_wanted rfl (rp rfl rfl (r_wanted rfl (rp rfl rfl (r_wanted rfl ?_)))))))
        obtain ⟨r1, hr3, hF⟩ := bindS hF
        refine r_callB r1 h call100 (impl_within_ok hr3) rfl rfl rfl rfl ?_
        intro w3 h
        refine r_wanted rfl (rp rfl rfl (r_wanted rfl (rp rfl rfl (rp rfl rfl (r_nil ?_)))))
        refine r_if rfl hF (fun hF => ?_) (fun hF => ?_)
        · refine r_seq (r_region (rp rfl rfl (r_nil ?_)))
          obtain rfl := someI hF; replace hF := hK1
          exact r_rB tabOk h hF ⟨rfl, trivial⟩
        exact r_skip (r_blk (r_region (rp rfl rfl (rp rfl rfl (r_nil (r_back m1 [(1, _), (6, _), (7, _), (8, _)] (Nat.lt_succ_self m1) ⟨rfl, rfl, rfl, rfl, trivial⟩ ⟨_, hF, rfl, h⟩))))))
      replace hc7 := Bool.eq_false_iff.2 hc7
      replace hF := bifF hc7 hF
      refine r_setF hc7 (t := 29) rfl (r_not rfl rfl rfl (r_not rfl rfl rfl (r_not rfl rfl rfl (r_not rfl rfl rfl (r_not rfl rfl rfl (r_wanted rfl (rp rfl rfl (rp rfl rfl (r_nil (r_condF rfl rfl (r_skip ?_)))))))))))
      exact r_blk (r_region (rp rfl rfl (rp rfl rfl (r_nil (r_back m1 [(1, _), (6, _), (7, _), (8, _)] (Nat.lt_succ_self m1) ⟨rfl, rfl, rfl, rfl, trivial⟩ ⟨_, hF, rfl, h⟩)))))
    replace hc3 := Bool.eq_false_iff.2 hc3
    replace hF := bifF hc3 hF
    refine r_setF hc3 (t := 15) rfl (r_not rfl rfl rfl (r_not rfl rfl rfl (r_not rfl rfl rfl (r_not rfl rfl rfl (r_not rfl rfl rfl (r_not rfl rfl rfl (r_not rfl rfl rfl (r_not rfl rfl rfl (r_not rfl rfl rfl (rp rfl rfl (rp rfl rfl ?_)))))))))))
    refine r_wanted rfl (rp rfl rfl (r_wanted rfl (rp rfl rfl (r_wanted rfl (rp rfl rfl ?_)))))
    by_cases hc9 : (decide (i1 > 0)) = true
    · replace hF := bifT hc9 hF
      refine r_setT hc9 (t := 29) rfl (r_wanted rfl (rp rfl rfl (r_wanted rfl (rp rfl rfl (r_wanted rfl (rp rfl rfl (r_wanted rfl ?_)))))))
      obtain ⟨r2, hr4, hF⟩ := bindS hF
      refine r_callB r2 h call100 (impl_within_ok hr4) rfl rfl rfl rfl ?_
      intro w4 h
      refine r_wanted rfl (rp rfl rfl (r_wanted rfl (rp rfl rfl (rp rfl rfl (r_nil ?_)))))
      refine r_if rfl hF (fun hF => ?_) (fun hF => ?_)
      · refine r_seq (r_region (rp rfl rfl (r_nil ?_)))
        obtain rfl := someI hF; replace hF := hK1
        exact r_rB tabOk h hF ⟨rfl, trivial⟩
      exact r_skip (r_blk (r_region (rp rfl rfl (rp rfl rfl (r_nil (r_back m1 [(1, _), (6, _), (7, _), (8, _)] (Nat.lt_succ_self m1) ⟨rfl, rfl, rfl, rfl, trivial⟩ ⟨_, hF, rfl, h⟩))))))
    replace hc9 := Bool.eq_false_iff.2 hc9
    replace hF := bifF hc9 hF
    refine r_setF hc9 (t := 29) rfl (r_not rfl rfl rfl (r_not rfl rfl rfl (r_not rfl rfl rfl (r_not rfl rfl rfl (r_not rfl rfl rfl (r_wanted rfl (rp rfl rfl (rp rfl rfl (r_nil (r_condF rfl rfl (r_skip ?_)))))))))))
    exact r_blk (r_region (rp rfl rfl (rp rfl rfl (r_nil (r_back m1 [(1, _), (6, _), (7, _), (8, _)] (Nat.lt_succ_self m1) ⟨rfl, rfl, rfl, rfl, trivial⟩ ⟨_, hF, rfl, h⟩)))))
  refine r_exit rfl ?_
  obtain rfl := someI hF; replace hF := hK1
  exact r_seq (r_region (rp rfl rfl (r_nil (r_rB tabOk h hF ⟨rfl, trivial⟩))))

def impl_IsWire (n : Nat) (a_w : TWire) (sinks : Int) : Option Bool :=
  (impl_length_int64 n a_w.Parent).bind fun r1 =>
  (impl_within n r1 1 8).bind fun r2 =>
  bif r2 then
    (impl_length_int64 n a_w.Res).bind fun r3 =>
    bif (r3 == r1) then
      (impl_length_int64 n a_w.Cap).bind fun r4 =>
      bif (r4 == r1) then
        (impl_Wire_isTree n a_w).bind fun r5 =>
        bif r5 then
          (impl_areWithin n a_w.Res 0 1000).bind fun r6 =>
          bif r6 then
            (impl_areWithin n a_w.Cap 0 500).bind fun r7 =>
            bif r7 then
              (impl_length_int64 n a_w.Sink).bind fun r8 =>
              bif (r8 == sinks) then
                (impl_areWithin n a_w.Sink 0 (W64 (r1 - 1))).bind fun r9 =>
                some r9
              else
                some false
            else
              some false
          else
            some false
        else
          some false
      else
        some false
    else
      some false
  else
    some false

theorem impl_IsWire_ok {n : Nat} {w : World} {a_w : TWire} {sinks : Int} {cs1 : List Value} (ha1 : GoT.R w (old w) a_w cs1) {r : Bool} (hF : impl_IsWire n a_w sinks = some r) : RetV Tryz.prog 77 [GoT.v TWire cs1, .int .i64 sinks] w r := by
  obtain ⟨p1, k1, p2, k2, p3, k3, p4, k4, rfl, s1, s2, s3, s4⟩ := open_TWire ha1
  refine retV_of_run Tryz.func77 rfl (m := 53) rfl rfl (fun h => ?_)
  rw [impl_IsWire] at hF
  refine r_seq (r_region (r_box h rfl rfl ?_))
  intro w1 bb1 h
  refine rp rfl rfl (r_nil (r_seq (r_region (rp rfl rfl (r_v (v_ld tabOk (h.box 0 rfl) (j := 0) rfl rfl rfl) rfl ?_)))))
  obtain ⟨r1, hr1, hF⟩ := bindS hF
  refine r_callI r1 h call79 (impl_length_int64_ok ⟨_, _, rfl, (h.oldS s1)⟩ hr1) rfl rfl rfl rfl ?_
  intro w2 h
  refine rp rfl rfl (r_nil (r_seq (r_region (rp rfl rfl ?_))))
  obtain ⟨r2, hr2, hF⟩ := bindS hF
  refine r_callB r2 h call100 (impl_within_ok hr2) rfl rfl rfl rfl ?_
  intro w3 h
  refine rp rfl rfl ?_
  by_cases hc1 : r2 = true
  · replace hF := bifT hc1 hF
    refine r_setT hc1 (t := 11) rfl (r_wanted rfl (rp rfl rfl (r_wanted rfl (r_v (v_ld tabOk (h.box 0 rfl) (j := 1) rfl rfl rfl) rfl (r_wanted rfl ?_)))))
    obtain ⟨r3, hr3, hF⟩ := bindS hF
    refine r_callI r3 h call79 (impl_length_int64_ok ⟨_, _, rfl, (h.oldS s2)⟩ hr3) rfl rfl rfl rfl ?_
    intro w4 h
    refine r_wanted rfl (rp rfl rfl (r_wanted rfl (rp rfl rfl (rp rfl rfl (rp rfl rfl ?_)))))
    by_cases hc2 : (r3 == r1) = true
    · replace hF := bifT hc2 hF
      refine r_setT hc2 (t := 18) rfl (r_wanted rfl (rp rfl rfl (r_wanted rfl (r_v (v_ld tabOk (h.box 0 rfl) (j := 2) rfl rfl rfl) rfl (r_wanted rfl ?_)))))
      obtain ⟨r4, hr4, hF⟩ := bindS hF
      refine r_callI r4 h call79 (impl_length_int64_ok ⟨_, _, rfl, (h.oldS s3)⟩ hr4) rfl rfl rfl rfl ?_
      intro w5 h
      refine r_wanted rfl (rp rfl rfl (r_wanted rfl (rp rfl rfl (rp rfl rfl (rp rfl rfl ?_)))))
      by_cases hc3 : (r4 == r1) = true
      · replace hF := bifT hc3 hF
        refine r_setT hc3 (t := 25) rfl (r_wanted rfl (r_v (v_ld tabOk (h.box 0 rfl) (j := 0) rfl rfl rfl) rfl (r_wanted rfl ?_)))
        obtain ⟨r5, hr5, hF⟩ := bindS hF
        refine r_callB r5 h call130 (impl_Wire_isTree_ok (h.old ha1) hr5) rfl rfl rfl rfl ?_
        intro w6 h
        refine rp rfl rfl (rp rfl rfl ?_)
        by_cases hc4 : r5 = true
        · replace hF := bifT hc4 hF
          refine r_setT hc4 (t := 29) rfl (r_wanted rfl (rp rfl rfl (r_wanted rfl (r_v (v_ld tabOk (h.box 0 rfl) (j := 1) rfl rfl rfl) rfl (r_wanted rfl ?_)))))
          obtain ⟨r6, hr6, hF⟩ := bindS hF
          refine r_callB r6 h call82 (impl_areWithin_ok ⟨_, _, rfl, (h.oldS s2)⟩ hr6) rfl rfl rfl rfl ?_
          intro w7 h
          refine rp rfl rfl (rp rfl rfl ?_)
          by_cases hc5 : r6 = true
          · replace hF := bifT hc5 hF
            refine r_setT hc5 (t := 34) rfl (r_wanted rfl (rp rfl rfl (r_wanted rfl (r_v (v_ld tabOk (h.box 0 rfl) (j := 2) rfl rfl rfl) rfl (r_wanted rfl ?_)))))
            obtain ⟨r7, hr7, hF⟩ := bindS hF
            refine r_callB r7 h call82 (impl_areWithin_ok ⟨_, _, rfl, (h.oldS s3)⟩ hr7) rfl rfl rfl rfl ?_
            intro w8 h
            refine rp rfl rfl (rp rfl rfl ?_)
            by_cases hc6 : r7 = true
            · replace hF := bifT hc6 hF
              refine r_setT hc6 (t := 39) rfl (r_wanted rfl (rp rfl rfl (r_wanted rfl (r_v (v_ld tabOk (h.box 0 rfl) (j := 3) rfl rfl rfl) rfl (r_wanted rfl ?_)))))
              obtain ⟨r8, hr8, hF⟩ := bindS hF
              refine r_callI r8 h call79 (impl_length_int64_ok ⟨_, _, rfl, (h.oldS s4)⟩ hr8) rfl rfl rfl rfl ?_
              intro w9 h
              refine r_wanted rfl (rp rfl rfl (r_wanted rfl (rp rfl rfl (rp rfl rfl (rp rfl rfl ?_)))))
              by_cases hc7 : (r8 == sinks) = true
              · replace hF := bifT hc7 hF
                refine r_setT hc7 (t := 46) rfl (r_wanted rfl (rp rfl rfl (r_wanted rfl (r_v (v_ld tabOk (h.box 0 rfl) (j := 3) rfl rfl rfl) rfl (r_wanted rfl (rp rfl rfl (r_wanted rfl (rp rfl rfl (r_wanted rfl ?_)))))))))
                obtain ⟨r9, hr9, hF⟩ := bindS hF
                refine r_callB r9 h call82 (impl_areWithin_ok ⟨_, _, rfl, (h.oldS s4)⟩ hr9) rfl rfl rfl rfl ?_
                intro w10 h
                exact rp rfl rfl (rp rfl rfl (r_nil (r_rB tabOk h hF ⟨rfl, trivial⟩)))
              replace hc7 := Bool.eq_false_iff.2 hc7
              replace hF := bifF hc7 hF
              exact r_setF hc7 (t := 46) rfl (r_not rfl rfl rfl (r_not rfl rfl rfl (r_not rfl rfl rfl (r_not rfl rfl rfl (r_not rfl rfl rfl (rp rfl rfl (rp rfl rfl (r_nil (r_rB tabOk h hF ⟨rfl, trivial⟩)))))))))
            replace hc6 := Bool.eq_false_iff.2 hc6
            replace hF := bifF hc6 hF
            refine r_setF hc6 (t := 39) rfl (r_not rfl rfl rfl (r_not rfl rfl rfl (r_not rfl rfl rfl (r_not rfl rfl rfl (r_not rfl rfl rfl (rp rfl rfl (rp rfl rfl (r_not rfl rfl rfl (r_not rfl rfl rfl (r_not rfl rfl rfl (r_not rfl rfl rfl ?_)))))))))))
            exact r_not rfl rfl rfl (rp rfl rfl (rp rfl rfl (r_nil (r_rB tabOk h hF ⟨rfl, trivial⟩))))
          replace hc5 := Bool.eq_false_iff.2 hc5
          replace hF := bifF hc5 hF
          refine r_setF hc5 (t := 34) rfl (r_not rfl rfl rfl (r_not rfl rfl rfl (r_not rfl rfl rfl (rp rfl rfl (rp rfl rfl (r_not rfl rfl rfl (r_not rfl rfl rfl (r_not rfl rfl rfl (r_not rfl rfl rfl (r_not rfl rfl rfl (rp rfl rfl ?_)))))))))))
          exact rp rfl rfl (r_not rfl rfl rfl (r_not rfl rfl rfl (r_not rfl rfl rfl (r_not rfl rfl rfl (r_not rfl rfl rfl (rp rfl rfl (rp rfl rfl (r_nil (r_rB tabOk h hF ⟨rfl, trivial⟩)))))))))
        replace hc4 := Bool.eq_false_iff.2 hc4
        replace hF := bifF hc4 hF
        refine r_setF hc4 (t := 29) rfl (r_not rfl rfl rfl (r_not rfl rfl rfl (r_not rfl rfl rfl (rp rfl rfl (rp rfl rfl (r_not rfl rfl rfl (r_not rfl rfl rfl (r_not rfl rfl rfl (rp rfl rfl (rp rfl rfl (r_not rfl rfl rfl ?_)))))))))))
        refine r_not rfl rfl rfl (r_not rfl rfl rfl (r_not rfl rfl rfl (r_not rfl rfl rfl (rp rfl rfl (rp rfl rfl (r_not rfl rfl rfl (r_not rfl rfl rfl (r_not rfl rfl rfl (r_not rfl rfl rfl (r_not rfl rfl rfl (rp rfl rfl ?_)))))))))))
        exact rp rfl rfl (r_nil (r_rB tabOk h hF ⟨rfl, trivial⟩))
      replace hc3 := Bool.eq_false_iff.2 hc3
      replace hF := bifF hc3 hF
      refine r_setF hc3 (t := 25) rfl (r_not rfl rfl rfl (r_not rfl rfl rfl (rp rfl rfl (rp rfl rfl (r_not rfl rfl rfl (r_not rfl rfl rfl (r_not rfl rfl rfl (rp rfl rfl (rp rfl rfl (r_not rfl rfl rfl (r_not rfl rfl rfl ?_)))))))))))
      refine r_not rfl rfl rfl (rp rfl rfl (rp rfl rfl (r_not rfl rfl rfl (r_not rfl rfl rfl (r_not rfl rfl rfl (r_not rfl rfl rfl (r_not rfl rfl rfl (rp rfl rfl (rp rfl rfl (r_not rfl rfl rfl (r_not rfl rfl rfl ?_)))))))))))
      exact r_not rfl rfl rfl (r_not rfl rfl rfl (r_not rfl rfl rfl (rp rfl rfl (rp rfl rfl (r_nil (r_rB tabOk h hF ⟨rfl, trivial⟩))))))
    replace hc2 := Bool.eq_false_iff.2 hc2
    replace hF := bifF hc2 hF
    refine r_setF hc2 (t := 18) rfl (r_not rfl rfl rfl (r_not rfl rfl rfl (r_not rfl rfl rfl (r_not rfl rfl rfl (r_not rfl rfl rfl (rp rfl rfl (rp rfl rfl (r_not rfl rfl rfl (r_not rfl rfl rfl (rp rfl rfl (rp rfl rfl ?_)))))))))))
    refine r_not rfl rfl rfl (r_not rfl rfl rfl (r_not rfl rfl rfl (rp rfl rfl (rp rfl rfl (r_not rfl rfl rfl (r_not rfl rfl rfl (r_not rfl rfl rfl (rp rfl rfl (rp rfl rfl (r_not rfl rfl rfl (r_not rfl rfl rfl ?_)))))))))))
    refine r_not rfl rfl rfl (r_not rfl rfl rfl (r_not rfl rfl rfl (rp rfl rfl (rp rfl rfl (r_not rfl rfl rfl (r_not rfl rfl rfl (r_not rfl rfl rfl (r_not rfl rfl rfl (r_not rfl rfl rfl (rp rfl rfl (rp rfl rfl ?_)))))))))))
    exact r_nil (r_rB tabOk h hF ⟨rfl, trivial⟩)
  replace hc1 := Bool.eq_false_iff.2 hc1
  replace hF := bifF hc1 hF
  refine r_setF hc1 (t := 11) rfl (r_not rfl rfl rfl (r_not rfl rfl rfl (r_not rfl rfl rfl (r_not rfl rfl rfl (r_not rfl rfl rfl (rp rfl rfl (rp rfl rfl (r_not rfl rfl rfl (r_not rfl rfl rfl (r_not rfl rfl rfl (r_not rfl rfl rfl ?_)))))))))))
  refine r_not rfl rfl rfl (rp rfl rfl (rp rfl rfl (r_not rfl rfl rfl (r_not rfl rfl rfl (rp rfl rfl (rp rfl rfl (r_not rfl rfl rfl (r_not rfl rfl rfl (r_not rfl rfl rfl (rp rfl rfl (rp rfl rfl ?_)))))))))))
  refine r_not rfl rfl rfl (r_not rfl rfl rfl (r_not rfl rfl rfl (rp rfl rfl (rp rfl rfl (r_not rfl rfl rfl (r_not rfl rfl rfl (r_not rfl rfl rfl (r_not rfl rfl rfl (r_not rfl rfl rfl (rp rfl rfl (rp rfl rfl ?_)))))))))))
  exact r_not rfl rfl rfl (r_not rfl rfl rfl (r_not rfl rfl rfl (r_not rfl rfl rfl (r_not rfl rfl rfl (rp rfl rfl (rp rfl rfl (r_nil (r_rB tabOk h hF ⟨rfl, trivial⟩))))))))

def impl_IsBlock_L2 (b : TBlock) (x2 : (List Int)) : Nat → Int → Option (Flow Bool Int)
  | 0, _ => none
  | n + 1, i2 =>
    bif decide (i2 < (b.Wires.length : Int)) then
      (idx b.Wires i2).bind fun y4 =>
      (idx x2 i2).bind fun y5 =>
      (impl_IsWire n y4 y5).bind fun r2 =>
      bif (!r2) then
        some (.ret false)
      else
        impl_IsBlock_L2 b x2 n (W64 (i2 + 1))
    else
      some (.nxt i2)

def impl_IsBlock_L1 (r1 : (List Tplace)) : Nat → (List Int) → Int → Option ((List Int) × Int)
  | 0, _, _ => none
  | n + 1, x2, i1 =>
    bif decide (i1 < (r1.length : Int)) then
      (idx r1 i1).bind fun y1 =>
      bif (!y1.drives) then
        (idx x2 y1.net).bind fun y2 =>
        (idx x2 y1.net).bind fun _ =>
        impl_IsBlock_L1 r1 n (setS x2 y1.net (W64 (y2 + 1))) (W64 (i1 + 1))
      else
        impl_IsBlock_L1 r1 n x2 (W64 (i1 + 1))
    else
      some (x2, i1)

def impl_IsBlock (n : Nat) (b : TBlock) : Option Bool :=
  (
    (impl_IsDesign n (⟨b.Library.Cells⟩ : TLibrary) (⟨b.Design.Instances, b.Design.Nets, b.Design.Ports⟩ : TDesign)).bind fun r3 =>
    bif (!r3) then
      some true
    else
      some ((b.Wires.length : Int) != (b.Design.Nets.length : Int))).bind fun b1 =>
  bif b1 then
    some false
  else
    (mkS (b.Wires.length : Int) (0 : Int)).bind fun x1 =>
    (impl_Design_places n (⟨b.Design.Instances, b.Design.Nets, b.Design.Ports⟩ : TDesign)).bind fun r1 =>
    (impl_IsBlock_L1 r1 n x1 0).bind fun o => match o with
    | (x2, _) =>
      (impl_IsBlock_L2 b x2 n 0).bind fun o => match o with
      | .ret r => some r
      | .nxt _ =>
        some true

theorem impl_IsBlock_ok {n : Nat} {w : World} {b : TBlock} {cs1 : List Value} (ha1 : GoT.R w (old w) b cs1) {r : Bool} (hF : impl_IsBlock n b = some r) : RetV Tryz.prog 39 [GoT.v TBlock cs1] w r := by
  obtain ⟨p1, k1, p2, k2, p3, k3, p4, k4, p5, k5, rfl, s1, s2, s3, s4, s5⟩ := open_TBlock ha1
  refine retV_of_run Tryz.func39 rfl (m := 63) rfl rfl (fun h => ?_)
  rw [impl_IsBlock] at hF
  refine r_seq (r_region (r_box h rfl rfl ?_))
  intro w1 bb1 h
  refine rp rfl rfl (r_nil (r_seq (r_seq ?_)))
  obtain ⟨KF1, hKF1, o3, hF, hK3⟩ := bindE hF
  refine r_cut (fun e w' => ∃ (b1 : Bool), KF1 b1 = some r ∧ e = [(1, .pointer (some ⟨bb1, 0, none⟩)), (23, .bool b1)] ∧ SH w w' [Ch.box bb1 [.slice p1 b.Library.Cells.length k1, .slice p2 b.Design.Instances.length k2, .slice p3 b.Design.Nets.length k3, .slice p4 b.Design.Ports.length k4, .slice p5 b.Wires.length k5] 48]) ?_ ?_
  · refine r_region (rp rfl rfl (r_v (v_ld tabOk (h.box 0 rfl) (j := 0) rfl rfl rfl) rfl (rp rfl rfl (r_v (v_ld tabOk (h.box 0 rfl) (j := 1) rfl rfl rfl) rfl ?_))))
    obtain ⟨r3, hr8, hF⟩ := bindS hF
    refine r_callB r3 h call75 (impl_IsDesign_ok (mkR_TLibrary (⟨b.Library.Cells⟩ : TLibrary) (h.oldS s1)) (mkR_TDesign (⟨b.Design.Instances, b.Design.Nets, b.Design.Ports⟩ : TDesign) (h.oldS s2) (h.oldS s3) (h.oldS s4)) hr8) rfl rfl rfl rfl ?_
    intro w12 h
    refine rp rfl rfl (rp rfl rfl ?_)
    by_cases hc11 : (!r3) = true
    · replace hF := bifT hc11 hF
      refine r_setT hc11 (t := 14) rfl (r_not rfl rfl rfl (r_not rfl rfl rfl (r_not rfl rfl rfl (r_not rfl rfl rfl (r_not rfl rfl rfl (r_not rfl rfl rfl (r_not rfl rfl rfl (r_not rfl rfl rfl (rp rfl rfl (r_nil ?_))))))))))
      obtain rfl := someI hF
      exact r_cutgoal [(1, _), (23, _)] ⟨rfl, rfl, trivial⟩ ⟨_, hK3, rfl, h⟩
    replace hc11 := Bool.eq_false_iff.2 hc11
    replace hF := bifF hc11 hF
    refine r_setF hc11 (t := 14) rfl (r_wanted rfl (rp rfl rfl (r_wanted rfl (r_v (v_ld tabOk (h.box 0 rfl) (j := 4) rfl rfl rfl) rfl (r_wanted rfl (rp rfl rfl (r_wanted rfl (rp rfl rfl (r_wanted rfl (rp rfl rfl (r_wanted rfl ?_)))))))))))
    refine r_v (v_ld tabOk (h.box 0 rfl) (j := 2) rfl rfl rfl) rfl (r_wanted rfl (rp rfl rfl (r_wanted rfl (rp rfl rfl (rp rfl rfl (r_nil ?_))))))
    obtain rfl := someI hF
    exact r_cutgoal [(1, _), (23, _)] ⟨rfl, rfl, trivial⟩ ⟨_, hK3, rfl, h⟩
  rintro e3 w13 ⟨b1, hF, rfl, h⟩
  subst hKF1
  refine r_if rfl hF (fun hF => ?_) (fun hF => ?_)
  · exact r_seq (r_region (rp rfl rfl (r_nil (r_rB tabOk h hF ⟨rfl, trivial⟩))))
  refine r_skip (r_seq (r_region (rp rfl rfl (r_v (v_ld tabOk (h.box 0 rfl) (j := 4) rfl rfl rfl) rfl (rp rfl rfl ?_)))))
  obtain ⟨x1, hx1, hF⟩ := bindS hF
  obtain ⟨g1, g2, hx1⟩ := mkS_some hx1
  refine r_makeE tabOk Int h rfl rfl rfl rfl rfl rfl rfl rfl rfl g1 g2 hx1 rfl ?_
  intro w2 S1 p6 h
  refine rp rfl rfl (r_nil (r_seq (r_seq (r_region (rp rfl rfl (r_v (v_ld tabOk (h.box 1 rfl) (j := 1) rfl rfl rfl) rfl ?_))))))
  obtain ⟨r1, hr1, hF⟩ := bindS hF
  refine r_callL r1 h call76 (impl_Design_places_ok (mkR_TDesign (⟨b.Design.Instances, b.Design.Nets, b.Design.Ports⟩ : TDesign) (h.oldS s2) (h.oldS s3) (h.oldS s4)) hr1) rfl rfl rfl rfl ?_
  intro w3 S2 p7 k6 h
  refine rp rfl rfl (rp rfl rfl (r_nil ?_))
  obtain ⟨o1, hF, hK1⟩ := bindS hF
  refine r_block (r_sub [(1, _), (3, _), (30, _), (31, _), (32, _)] ⟨rfl, rfl, rfl, rfl, rfl, trivial⟩ ?_)
  refine r_loop (fun m e w' => ∃ (x2 : (List Int)) (i1 : Int), impl_IsBlock_L1 r1 m x2 i1 = some o1 ∧ e = [(1, .pointer (some ⟨bb1, 0, none⟩)), (3, .slice p6 x1.length x1.length), (30, .slice p7 r1.length k6), (31, .int .i64 (r1.length : Int)), (32, .int .i64 i1)] ∧ SH w w' [Ch.own S2 (r1 : List Tplace) [.slice p7 r1.length k6], Ch.own S1 (x2 : List Int) [.slice p6 x1.length x1.length], Ch.box bb1 [.slice p1 b.Library.Cells.length k1, .slice p2 b.Design.Instances.length k2, .slice p3 b.Design.Nets.length k3, .slice p4 b.Design.Ports.length k4, .slice p5 b.Wires.length k5] 48]) n ⟨_, _, hF, rfl, h⟩ ?_
  rintro m1 e1 w4 ⟨x2, i1, hF, rfl, h⟩
  rcases m1 with _ | m1
  · rw [impl_IsBlock_L1] at hF
    cases hF
  rw [impl_IsBlock_L1] at hF
  refine r_seq (r_region (rp rfl rfl (r_nil (r_seq ?_))))
  refine r_if rfl hF (fun hF => ?_) (fun hF => ?_)
  · refine r_skip (r_seq (r_block (r_seq (r_region ?_))))
    obtain ⟨y1, hy1, hF⟩ := bindS hF
    have he1 := idx_some hy1
    obtain ⟨b2, o_1, q1, cs2, hp1, hq1, -, hr2, hc3⟩ := (h.sl 0 rfl).1.at hy1
    obtain rfl := open_Tplace hr2
    refine r_v (v_ix tabOk hp1 hq1 ⟨he1.1, lt_ln he1.2.1 (h.sl 0 rfl).2⟩ rfl rfl rfl rfl rfl rfl) rfl (r_v (v_ld tabOk hc3 (j := 0) rfl rfl rfl) rfl (r_alloc tabOk h rfl rfl rfl ?_))
    intro w5 bb2 h
    refine r_stbox tabOk 0 h rfl rfl rfl rfl rfl rfl rfl ?_
    intro w6 h
    refine r_nil (r_seq (r_region (rp rfl rfl (r_v (v_ld tabOk (h.box 0 rfl) (j := 3) rfl rfl rfl) rfl (rp rfl rfl (r_nil ?_))))))
    refine r_if rfl hF (fun hF => ?_) (fun hF => ?_)
    · refine r_region (rp rfl rfl (rp rfl rfl (r_v (v_ld tabOk (h.box 0 rfl) (j := 2) rfl rfl rfl) rfl ?_)))
      obtain ⟨y2, hy2, hF⟩ := bindS hF
      have he2 := idx_some hy2
      obtain ⟨b3, o_2, q2, cs3, hp2, hq2, -, hr3, hc5⟩ := (h.sl 2 rfl).1.at hy2
      obtain rfl := hr3
      refine r_v (v_ix tabOk hp2 hq2 ⟨he2.1, lt_ln he2.2.1 (h.sl 2 rfl).2⟩ rfl rfl rfl rfl rfl rfl) rfl (r_v (v_ld tabOk hc5 (j := 0) rfl rfl rfl) rfl (rp rfl rfl ?_))
      obtain ⟨y3, hy3, hF⟩ := bindS hF
      have he3 := idx_some hy3
      obtain ⟨b4, o_3, q3, cs4, hp3, hq3, -, hr4, hc6⟩ := (h.sl 2 rfl).1.at hy3
      obtain rfl := hr4
      refine r_v (v_ix tabOk hp3 hq3 ⟨he3.1, lt_ln he3.2.1 (h.sl 2 rfl).2⟩ rfl rfl rfl rfl rfl rfl) rfl (r_stown tabOk 2 0 (W64 (y2 + 1)) h rfl hy3 hp3 hq3 rfl hc6 rfl rfl rfl rfl rfl rfl rfl ?_)
      intro w7 h
      refine r_nil (r_blk (r_region (rp rfl rfl (rp rfl rfl (r_nil ?_)))))
      replace h := h.pick [1, 2, 3] rfl
      exact r_back m1 [(1, _), (3, _), (30, _), (31, _), (32, _)] (Nat.lt_succ_self m1) ⟨rfl, rfl, rfl, rfl, rfl, trivial⟩ ⟨_, _, hF, rfl, h⟩
    refine r_skip (r_blk (r_region (rp rfl rfl (rp rfl rfl (r_nil ?_)))))
    replace h := h.pick [1, 2, 3] rfl
    exact r_back m1 [(1, _), (3, _), (30, _), (31, _), (32, _)] (Nat.lt_succ_self m1) ⟨rfl, rfl, rfl, rfl, rfl, trivial⟩ ⟨_, _, hF, rfl, h⟩
  refine r_exit rfl ?_
  obtain rfl := someI hF; replace hF := hK1
  refine r_seq (r_seq (r_region (rp rfl rfl (r_v (v_ld tabOk (h.box 2 rfl) (j := 4) rfl rfl rfl) rfl (rp rfl rfl (rp rfl rfl (r_nil ?_)))))))
  obtain ⟨o2, hF, hK2⟩ := bindS hF
  refine r_block ?_
  replace h := h.pick [1] rfl
  refine r_sub [(3, _), (48, _), (49, _), (50, _)] ⟨rfl, rfl, rfl, rfl, trivial⟩ ?_
  refine r_loop (fun m e w' => ∃ (i2 : Int), impl_IsBlock_L2 b x2 m i2 = some o2 ∧ e = [(3, .slice p6 x1.length x1.length), (48, .slice p5 b.Wires.length k5), (49, .int .i64 (b.Wires.length : Int)), (50, .int .i64 i2)] ∧ SH w w' [Ch.own S1 (x2 : List Int) [.slice p6 x1.length x1.length]]) n ⟨_, hF, rfl, h⟩ ?_
  rintro m2 e2 w8 ⟨i2, hF, rfl, h⟩
  rcases m2 with _ | m2
  · rw [impl_IsBlock_L2] at hF
    cases hF
  rw [impl_IsBlock_L2] at hF
  refine r_seq (r_region (rp rfl rfl (r_nil (r_seq ?_))))
  refine r_if rfl hF (fun hF => ?_) (fun hF => ?_)
  · refine r_skip (r_seq (r_block (r_seq (r_region (rp rfl rfl ?_)))))
    obtain ⟨y4, hy4, hF⟩ := bindS hF
    have he4 := idx_some hy4
    obtain ⟨b5, o_4, q4, cs5, hp4, hq4, -, hr5, hc8⟩ := s5.at hy4
    obtain ⟨p8, k7, p9, k8, p10, k9, p11, k10, rfl, s6, s7, s8, s9⟩ := open_TWire hr5
    refine r_v (v_ix tabOk hp4 hq4 ⟨he4.1, he4.2.1⟩ rfl rfl rfl rfl rfl rfl) rfl (r_v (v_ld tabOk (hc8.below h.below) (j := 0) rfl rfl rfl) rfl (r_alloc tabOk h rfl rfl rfl ?_))
    intro w9 bb3 h
    refine rp rfl rfl (r_stbox tabOk 0 h rfl rfl rfl rfl rfl rfl rfl ?_)
    intro w10 h
    replace h : SH _ _ [Ch.box bb3 [.slice p8 y4.Parent.length k7, .slice p9 y4.Res.length k8, .slice p10 y4.Cap.length k9, .slice p11 y4.Sink.length k10] 117, Ch.own S1 (x2 : List Int) [.slice p6 x1.length x1.length]] := h
    refine r_nil (r_seq ?_)
    refine r_draw rfl (by kernel_rfl) ?_
    refine d_v (fun _ hb => v_ld tabOk ((h.box 0 rfl).below hb) (j := 0) rfl rfl rfl) rfl ?_
    refine dp rfl rfl (dp rfl rfl ?_)
    obtain ⟨y5, hy5, hF⟩ := bindS hF
    have he5 := idx_some hy5
    obtain ⟨b6, o_5, q5, cs6, hp5, hq5, -, hr6, hc9⟩ := (h.sl 1 rfl).1.at hy5
    obtain rfl := hr6
    refine d_v (fun _ hb => v_ix tabOk hp5 hq5 ⟨he5.1, lt_ln he5.2.1 (h.sl 1 rfl).2⟩ rfl rfl rfl rfl rfl rfl) rfl ?_
    refine d_v (fun _ hb => v_ld tabOk (hc9.below hb) (j := 0) rfl rfl rfl) rfl ?_
    obtain ⟨r2, hr7, hF⟩ := bindS hF
    refine d_call r2 (vsB _) call77 (fun _ hb => impl_IsWire_ok (mkR_TWire y4 ((h.ext hb).oldS s6) ((h.ext hb).oldS s7) ((h.ext hb).oldS s8) ((h.ext hb).oldS s9)) hr7) rfl rfl rfl rfl ?_
    refine dp rfl rfl ?_
    refine d_nil (fun w11 hb => ?_)
    replace h := h.ext hb
    clear hb
    refine r_if rfl hF (fun hF => ?_) (fun hF => ?_)
    · refine r_seq (r_region (rp rfl rfl (r_nil ?_)))
      obtain rfl := someI hF; replace hF := hK2
      exact r_rB tabOk h hF ⟨rfl, trivial⟩
    refine r_skip (r_blk (r_region (rp rfl rfl (rp rfl rfl (r_nil ?_)))))
    replace h := h.pick [1] rfl
    exact r_back m2 [(3, _), (48, _), (49, _), (50, _)] (Nat.lt_succ_self m2) ⟨rfl, rfl, rfl, rfl, trivial⟩ ⟨_, hF, rfl, h⟩
  refine r_exit rfl ?_
  obtain rfl := someI hF; replace hF := hK2
  exact r_seq (r_region (rp rfl rfl (r_nil (r_rB tabOk h hF ⟨rfl, trivial⟩))))

end Go.Fw


namespace Go.Fw
open Go

def w_Int64S (a : (List Int)) : Nat := a.length
theorem okof_Int64S {a : (List Int)} (h : (rngL rngI) a) (w : w_Int64S a ≤ 1048576) : (okL okI) a :=
  ⟨by simp only [w_Int64S] at w; omega, fun x hx => h.2 x hx⟩
def rng_Table (x : TTable) : Prop := (rngL rngI) x.Slews ∧ (rngL rngI) x.Loads ∧ (rngL rngI) x.Values
def w_Table (x : TTable) : Nat := w_Int64S x.Slews + w_Int64S x.Loads + w_Int64S x.Values
structure ok_Table (x : TTable) : Prop where
  Slews : (okL okI) x.Slews
  Loads : (okL okI) x.Loads
  Values : (okL okI) x.Values
theorem okof_Table {x : TTable} (h : rng_Table x) (w : w_Table x ≤ 1048576) : ok_Table x := ⟨okof_Int64S (h.1) (by simp only [w_Table] at w; omega), okof_Int64S (h.2.1) (by simp only [w_Table] at w; omega), okof_Int64S (h.2.2) (by simp only [w_Table] at w; omega)⟩
def w_TableS (a : (List TTable)) : Nat := a.length + (a.map fun x => w_Table x).sum
theorem okof_TableS {a : (List TTable)} (h : (rngL rng_Table) a) (w : w_TableS a ≤ 1048576) : (okL ok_Table) a :=
  ⟨by simp only [w_TableS] at w; omega, fun x hx => okof_Table (h.2 x hx) (by have := sum_le (wt := fun x : TTable => w_Table x) hx; simp only [w_TableS] at w; omega)⟩
def rng_Arc (x : TArc) : Prop := rngI x.Kind ∧ rngI x.From ∧ rngI x.To ∧ rngI x.Sense ∧ (rngL rng_Table) x.Delay ∧ (rngL rng_Table) x.Slew
def w_Arc (x : TArc) : Nat := w_TableS x.Delay + w_TableS x.Slew
structure ok_Arc (x : TArc) : Prop where
  Kind : okI x.Kind
  From : okI x.From
  To : okI x.To
  Sense : okI x.Sense
  Delay : (okL ok_Table) x.Delay
  Slew : (okL ok_Table) x.Slew
theorem okof_Arc {x : TArc} (h : rng_Arc x) (w : w_Arc x ≤ 1048576) : ok_Arc x := ⟨h.1, h.2.1, h.2.2.1, h.2.2.2.1, okof_TableS (h.2.2.2.2.1) (by simp only [w_Arc] at w; omega), okof_TableS (h.2.2.2.2.2) (by simp only [w_Arc] at w; omega)⟩
theorem eq_Int64S {a : (List Int)} (h : w_Int64S a ≤ 1048576) : Ev (fun n => laws_eqInt64S n a a) true := by
  have hl : a.length ≤ 1048576 := by simp only [w_Int64S] at h; omega
  unfold laws_eqInt64S
  exact Ev.ff (by simp) (Ev.bind (b := .nxt (a.length : Int)) (eq_loop (eqf := fun _ x y => some (!(x != y))) (fun x _ => Ev.now (by simp))
    (fun n => by simp only [laws_eqInt64S_L1, lt_nat_f (Nat.le_refl _), cond_false])
    (fun n j x hx => by
      have hj := (List.getElem?_eq_some_iff.1 hx).1
      simp only [laws_eqInt64S_L1, lt_nat_t hj, cond_true, idx_at hx, Option.bind_some, Bool.not_not, w64_succ (show j < 9223372036854775807 by omega)])) .done)

theorem eq_Table {a : TTable} (h : w_Table a ≤ 1048576) : Ev (fun n => laws_eqTable n a a) true := by
  unfold laws_eqTable
  simp only [w_Table] at h
  exact Ev.bind (eq_Int64S (a := a.Slews) (by omega)) (Ev.ff rfl (Ev.bind (eq_Int64S (a := a.Loads) (by omega)) (Ev.ff rfl (Ev.bind (eq_Int64S (a := a.Values) (by omega)) (Ev.ff rfl (.done))))))

theorem eq_TableS {a : (List TTable)} (h : w_TableS a ≤ 1048576) : Ev (fun n => laws_eqTableS n a a) true := by
  have hl : a.length ≤ 1048576 := by simp only [w_TableS] at h; omega
  unfold laws_eqTableS
  exact Ev.ff (by simp) (Ev.bind (b := .nxt (a.length : Int)) (eq_loop (eqf := laws_eqTable) (fun x hx => eq_Table (by have := sum_le (wt := fun x : TTable => w_Table x) hx; simp only [w_TableS] at h; omega))
    (fun n => by simp only [laws_eqTableS_L1, lt_nat_f (Nat.le_refl _), cond_false])
    (fun n j x hx => by
      have hj := (List.getElem?_eq_some_iff.1 hx).1
      simp only [laws_eqTableS_L1, lt_nat_t hj, cond_true, idx_at hx, Option.bind_some, Bool.not_not, w64_succ (show j < 9223372036854775807 by omega)])) .done)

theorem eq_Arc {a : TArc} (h : w_Arc a ≤ 1048576) : Ev (fun n => laws_eqArc n a a) true := by
  unfold laws_eqArc
  simp only [w_Arc] at h
  exact Ev.ff not_ne_self (Ev.ff not_ne_self (Ev.ff not_ne_self (Ev.ff not_ne_self (Ev.bind (eq_TableS (a := a.Delay) (by omega)) (Ev.ff rfl (Ev.bind (eq_TableS (a := a.Slew) (by omega)) (Ev.ff rfl (.done))))))))

def w_ArcS (a : (List TArc)) : Nat := a.length + (a.map fun x => w_Arc x).sum
theorem okof_ArcS {a : (List TArc)} (h : (rngL rng_Arc) a) (w : w_ArcS a ≤ 1048576) : (okL ok_Arc) a :=
  ⟨by simp only [w_ArcS] at w; omega, fun x hx => okof_Arc (h.2 x hx) (by have := sum_le (wt := fun x : TArc => w_Arc x) hx; simp only [w_ArcS] at w; omega)⟩
theorem eq_ArcS {a : (List TArc)} (h : w_ArcS a ≤ 1048576) : Ev (fun n => laws_eqArcS n a a) true := by
  have hl : a.length ≤ 1048576 := by simp only [w_ArcS] at h; omega
  unfold laws_eqArcS
  exact Ev.ff (by simp) (Ev.bind (b := .nxt (a.length : Int)) (eq_loop (eqf := laws_eqArc) (fun x hx => eq_Arc (by have := sum_le (wt := fun x : TArc => w_Arc x) hx; simp only [w_ArcS] at h; omega))
    (fun n => by simp only [laws_eqArcS_L1, lt_nat_f (Nat.le_refl _), cond_false])
    (fun n j x hx => by
      have hj := (List.getElem?_eq_some_iff.1 hx).1
      simp only [laws_eqArcS_L1, lt_nat_t hj, cond_true, idx_at hx, Option.bind_some, Bool.not_not, w64_succ (show j < 9223372036854775807 by omega)])) .done)

def rng_Pin (x : TPin) : Prop := rngS x.Name ∧ rngI x.Dir ∧ rngI x.Cap ∧ rngB x.Clock
def w_Pin (x : TPin) : Nat := x.Name.size
structure ok_Pin (x : TPin) : Prop where
  Name : okS x.Name
  Dir : okI x.Dir
  Cap : okI x.Cap
  Clock : okT x.Clock
theorem okof_Pin {x : TPin} (h : rng_Pin x) (w : w_Pin x ≤ 1048576) : ok_Pin x := ⟨(by unfold okS; simp only [w_Pin] at w; omega), h.2.1, h.2.2.1, trivial⟩
def w_PinS (a : (List TPin)) : Nat := a.length + (a.map fun x => w_Pin x).sum
theorem okof_PinS {a : (List TPin)} (h : (rngL rng_Pin) a) (w : w_PinS a ≤ 1048576) : (okL ok_Pin) a :=
  ⟨by simp only [w_PinS] at w; omega, fun x hx => okof_Pin (h.2 x hx) (by have := sum_le (wt := fun x : TPin => w_Pin x) hx; simp only [w_PinS] at w; omega)⟩
def rng_Cell (x : TCell) : Prop := rngS x.Name ∧ rngI x.Kind ∧ (rngL rng_Pin) x.Pins ∧ (rngL rng_Arc) x.Arcs ∧ (rngL rngI) x.Truth ∧ rngI x.Leak ∧ rngI x.Energy
def w_Cell (x : TCell) : Nat := x.Name.size + w_PinS x.Pins + w_ArcS x.Arcs + w_Int64S x.Truth
structure ok_Cell (x : TCell) : Prop where
  Name : okS x.Name
  Kind : okI x.Kind
  Pins : (okL ok_Pin) x.Pins
  Arcs : (okL ok_Arc) x.Arcs
  Truth : (okL okI) x.Truth
  Leak : okI x.Leak
  Energy : okI x.Energy
theorem okof_Cell {x : TCell} (h : rng_Cell x) (w : w_Cell x ≤ 1048576) : ok_Cell x := ⟨(by unfold okS; simp only [w_Cell] at w; omega), h.2.1, okof_PinS (h.2.2.1) (by simp only [w_Cell] at w; omega), okof_ArcS (h.2.2.2.1) (by simp only [w_Cell] at w; omega), okof_Int64S (h.2.2.2.2.1) (by simp only [w_Cell] at w; omega), h.2.2.2.2.2.1, h.2.2.2.2.2.2⟩
def w_CellS (a : (List TCell)) : Nat := a.length + (a.map fun x => w_Cell x).sum
theorem okof_CellS {a : (List TCell)} (h : (rngL rng_Cell) a) (w : w_CellS a ≤ 1048576) : (okL ok_Cell) a :=
  ⟨by simp only [w_CellS] at w; omega, fun x hx => okof_Cell (h.2 x hx) (by have := sum_le (wt := fun x : TCell => w_Cell x) hx; simp only [w_CellS] at w; omega)⟩
def rng_Library (x : TLibrary) : Prop := (rngL rng_Cell) x.Cells
def w_Library (x : TLibrary) : Nat := w_CellS x.Cells
structure ok_Library (x : TLibrary) : Prop where
  Cells : (okL ok_Cell) x.Cells
theorem okof_Library {x : TLibrary} (h : rng_Library x) (w : w_Library x ≤ 1048576) : ok_Library x := ⟨okof_CellS (h) (by simp only [w_Library] at w; omega)⟩
def rng_Instance (x : TInstance) : Prop := rngS x.Name ∧ rngI x.Cell ∧ (rngL rngI) x.Nets
def w_Instance (x : TInstance) : Nat := x.Name.size + w_Int64S x.Nets
structure ok_Instance (x : TInstance) : Prop where
  Name : okS x.Name
  Cell : okI x.Cell
  Nets : (okL okI) x.Nets
theorem okof_Instance {x : TInstance} (h : rng_Instance x) (w : w_Instance x ≤ 1048576) : ok_Instance x := ⟨(by unfold okS; simp only [w_Instance] at w; omega), h.2.1, okof_Int64S (h.2.2) (by simp only [w_Instance] at w; omega)⟩
def w_InstanceS (a : (List TInstance)) : Nat := a.length + (a.map fun x => w_Instance x).sum
theorem okof_InstanceS {a : (List TInstance)} (h : (rngL rng_Instance) a) (w : w_InstanceS a ≤ 1048576) : (okL ok_Instance) a :=
  ⟨by simp only [w_InstanceS] at w; omega, fun x hx => okof_Instance (h.2 x hx) (by have := sum_le (wt := fun x : TInstance => w_Instance x) hx; simp only [w_InstanceS] at w; omega)⟩
def w_StringS (a : (List ByteArray)) : Nat := a.length + (a.map fun x => x.size).sum
theorem okof_StringS {a : (List ByteArray)} (h : (rngL rngS) a) (w : w_StringS a ≤ 1048576) : (okL okS) a :=
  ⟨by simp only [w_StringS] at w; omega, fun x hx => (by unfold okS; have := sum_le (wt := fun x : ByteArray => x.size) hx; simp only [w_StringS] at w; omega)⟩
def rng_Port (x : TPort) : Prop := rngS x.Name ∧ rngI x.Dir ∧ rngI x.Net
def w_Port (x : TPort) : Nat := x.Name.size
structure ok_Port (x : TPort) : Prop where
  Name : okS x.Name
  Dir : okI x.Dir
  Net : okI x.Net
theorem okof_Port {x : TPort} (h : rng_Port x) (w : w_Port x ≤ 1048576) : ok_Port x := ⟨(by unfold okS; simp only [w_Port] at w; omega), h.2.1, h.2.2⟩
def w_PortS (a : (List TPort)) : Nat := a.length + (a.map fun x => w_Port x).sum
theorem okof_PortS {a : (List TPort)} (h : (rngL rng_Port) a) (w : w_PortS a ≤ 1048576) : (okL ok_Port) a :=
  ⟨by simp only [w_PortS] at w; omega, fun x hx => okof_Port (h.2 x hx) (by have := sum_le (wt := fun x : TPort => w_Port x) hx; simp only [w_PortS] at w; omega)⟩
def rng_Design (x : TDesign) : Prop := (rngL rng_Instance) x.Instances ∧ (rngL rngS) x.Nets ∧ (rngL rng_Port) x.Ports
def w_Design (x : TDesign) : Nat := w_InstanceS x.Instances + w_StringS x.Nets + w_PortS x.Ports
structure ok_Design (x : TDesign) : Prop where
  Instances : (okL ok_Instance) x.Instances
  Nets : (okL okS) x.Nets
  Ports : (okL ok_Port) x.Ports
theorem okof_Design {x : TDesign} (h : rng_Design x) (w : w_Design x ≤ 1048576) : ok_Design x := ⟨okof_InstanceS (h.1) (by simp only [w_Design] at w; omega), okof_StringS (h.2.1) (by simp only [w_Design] at w; omega), okof_PortS (h.2.2) (by simp only [w_Design] at w; omega)⟩
def rng_Wire (x : TWire) : Prop := (rngL rngI) x.Parent ∧ (rngL rngI) x.Res ∧ (rngL rngI) x.Cap ∧ (rngL rngI) x.Sink
def w_Wire (x : TWire) : Nat := w_Int64S x.Parent + w_Int64S x.Res + w_Int64S x.Cap + w_Int64S x.Sink
structure ok_Wire (x : TWire) : Prop where
  Parent : (okL okI) x.Parent
  Res : (okL okI) x.Res
  Cap : (okL okI) x.Cap
  Sink : (okL okI) x.Sink
theorem okof_Wire {x : TWire} (h : rng_Wire x) (w : w_Wire x ≤ 1048576) : ok_Wire x := ⟨okof_Int64S (h.1) (by simp only [w_Wire] at w; omega), okof_Int64S (h.2.1) (by simp only [w_Wire] at w; omega), okof_Int64S (h.2.2.1) (by simp only [w_Wire] at w; omega), okof_Int64S (h.2.2.2) (by simp only [w_Wire] at w; omega)⟩
def w_WireS (a : (List TWire)) : Nat := a.length + (a.map fun x => w_Wire x).sum
theorem okof_WireS {a : (List TWire)} (h : (rngL rng_Wire) a) (w : w_WireS a ≤ 1048576) : (okL ok_Wire) a :=
  ⟨by simp only [w_WireS] at w; omega, fun x hx => okof_Wire (h.2 x hx) (by have := sum_le (wt := fun x : TWire => w_Wire x) hx; simp only [w_WireS] at w; omega)⟩
def rng_Block (x : TBlock) : Prop := rng_Library x.Library ∧ rng_Design x.Design ∧ (rngL rng_Wire) x.Wires
def w_Block (x : TBlock) : Nat := w_Library x.Library + w_Design x.Design + w_WireS x.Wires
structure ok_Block (x : TBlock) : Prop where
  Library : ok_Library x.Library
  Design : ok_Design x.Design
  Wires : (okL ok_Wire) x.Wires
theorem okof_Block {x : TBlock} (h : rng_Block x) (w : w_Block x ≤ 1048576) : ok_Block x := ⟨okof_Library (h.1) (by simp only [w_Block] at w; omega), okof_Design (h.2.1) (by simp only [w_Block] at w; omega), okof_WireS (h.2.2) (by simp only [w_Block] at w; omega)⟩
theorem eq_Pin {a : TPin} (h : w_Pin a ≤ 1048576) : Ev (fun n => laws_eqPin n a a) true := by
  unfold laws_eqPin
  simp only [w_Pin] at h
  exact Ev.ff not_ne_selfS (Ev.ff not_ne_self (Ev.ff not_ne_self (Ev.ff not_ne_selfB (.done))))

theorem eq_PinS {a : (List TPin)} (h : w_PinS a ≤ 1048576) : Ev (fun n => laws_eqPinS n a a) true := by
  have hl : a.length ≤ 1048576 := by simp only [w_PinS] at h; omega
  unfold laws_eqPinS
  exact Ev.ff (by simp) (Ev.bind (b := .nxt (a.length : Int)) (eq_loop (eqf := laws_eqPin) (fun x hx => eq_Pin (by have := sum_le (wt := fun x : TPin => w_Pin x) hx; simp only [w_PinS] at h; omega))
    (fun n => by simp only [laws_eqPinS_L1, lt_nat_f (Nat.le_refl _), cond_false])
    (fun n j x hx => by
      have hj := (List.getElem?_eq_some_iff.1 hx).1
      simp only [laws_eqPinS_L1, lt_nat_t hj, cond_true, idx_at hx, Option.bind_some, Bool.not_not, w64_succ (show j < 9223372036854775807 by omega)])) .done)

theorem eq_Cell {a : TCell} (h : w_Cell a ≤ 1048576) : Ev (fun n => laws_eqCell n a a) true := by
  unfold laws_eqCell
  simp only [w_Cell] at h
  exact Ev.ff not_ne_selfS (Ev.ff not_ne_self (Ev.bind (eq_PinS (a := a.Pins) (by omega)) (Ev.ff rfl (Ev.bind (eq_ArcS (a := a.Arcs) (by omega)) (Ev.ff rfl (Ev.bind (eq_Int64S (a := a.Truth) (by omega)) (Ev.ff rfl (Ev.ff not_ne_self (Ev.ff not_ne_self (.done))))))))))

theorem eq_CellS {a : (List TCell)} (h : w_CellS a ≤ 1048576) : Ev (fun n => laws_eqCellS n a a) true := by
  have hl : a.length ≤ 1048576 := by simp only [w_CellS] at h; omega
  unfold laws_eqCellS
  exact Ev.ff (by simp) (Ev.bind (b := .nxt (a.length : Int)) (eq_loop (eqf := laws_eqCell) (fun x hx => eq_Cell (by have := sum_le (wt := fun x : TCell => w_Cell x) hx; simp only [w_CellS] at h; omega))
    (fun n => by simp only [laws_eqCellS_L1, lt_nat_f (Nat.le_refl _), cond_false])
    (fun n j x hx => by
      have hj := (List.getElem?_eq_some_iff.1 hx).1
      simp only [laws_eqCellS_L1, lt_nat_t hj, cond_true, idx_at hx, Option.bind_some, Bool.not_not, w64_succ (show j < 9223372036854775807 by omega)])) .done)

theorem eq_Library {a : TLibrary} (h : w_Library a ≤ 1048576) : Ev (fun n => laws_eqLibrary n a a) true := by
  unfold laws_eqLibrary
  simp only [w_Library] at h
  exact Ev.bind (eq_CellS (a := a.Cells) (by omega)) (Ev.ff rfl (.done))

theorem eq_Instance {a : TInstance} (h : w_Instance a ≤ 1048576) : Ev (fun n => laws_eqInstance n a a) true := by
  unfold laws_eqInstance
  simp only [w_Instance] at h
  exact Ev.ff not_ne_selfS (Ev.ff not_ne_self (Ev.bind (eq_Int64S (a := a.Nets) (by omega)) (Ev.ff rfl (.done))))

theorem eq_InstanceS {a : (List TInstance)} (h : w_InstanceS a ≤ 1048576) : Ev (fun n => laws_eqInstanceS n a a) true := by
  have hl : a.length ≤ 1048576 := by simp only [w_InstanceS] at h; omega
  unfold laws_eqInstanceS
  exact Ev.ff (by simp) (Ev.bind (b := .nxt (a.length : Int)) (eq_loop (eqf := laws_eqInstance) (fun x hx => eq_Instance (by have := sum_le (wt := fun x : TInstance => w_Instance x) hx; simp only [w_InstanceS] at h; omega))
    (fun n => by simp only [laws_eqInstanceS_L1, lt_nat_f (Nat.le_refl _), cond_false])
    (fun n j x hx => by
      have hj := (List.getElem?_eq_some_iff.1 hx).1
      simp only [laws_eqInstanceS_L1, lt_nat_t hj, cond_true, idx_at hx, Option.bind_some, Bool.not_not, w64_succ (show j < 9223372036854775807 by omega)])) .done)

theorem eq_StringS {a : (List ByteArray)} (h : w_StringS a ≤ 1048576) : Ev (fun n => laws_eqStringS n a a) true := by
  have hl : a.length ≤ 1048576 := by simp only [w_StringS] at h; omega
  unfold laws_eqStringS
  exact Ev.ff (by simp) (Ev.bind (b := .nxt (a.length : Int)) (eq_loop (eqf := fun _ x y => some (!(x.toList != y.toList))) (fun x _ => Ev.now (by simp))
    (fun n => by simp only [laws_eqStringS_L1, lt_nat_f (Nat.le_refl _), cond_false])
    (fun n j x hx => by
      have hj := (List.getElem?_eq_some_iff.1 hx).1
      simp only [laws_eqStringS_L1, lt_nat_t hj, cond_true, idx_at hx, Option.bind_some, Bool.not_not, w64_succ (show j < 9223372036854775807 by omega)])) .done)

theorem eq_Port {a : TPort} (h : w_Port a ≤ 1048576) : Ev (fun n => laws_eqPort n a a) true := by
  unfold laws_eqPort
  simp only [w_Port] at h
  exact Ev.ff not_ne_selfS (Ev.ff not_ne_self (Ev.ff not_ne_self (.done)))

theorem eq_PortS {a : (List TPort)} (h : w_PortS a ≤ 1048576) : Ev (fun n => laws_eqPortS n a a) true := by
  have hl : a.length ≤ 1048576 := by simp only [w_PortS] at h; omega
  unfold laws_eqPortS
  exact Ev.ff (by simp) (Ev.bind (b := .nxt (a.length : Int)) (eq_loop (eqf := laws_eqPort) (fun x hx => eq_Port (by have := sum_le (wt := fun x : TPort => w_Port x) hx; simp only [w_PortS] at h; omega))
    (fun n => by simp only [laws_eqPortS_L1, lt_nat_f (Nat.le_refl _), cond_false])
    (fun n j x hx => by
      have hj := (List.getElem?_eq_some_iff.1 hx).1
      simp only [laws_eqPortS_L1, lt_nat_t hj, cond_true, idx_at hx, Option.bind_some, Bool.not_not, w64_succ (show j < 9223372036854775807 by omega)])) .done)

theorem eq_Design {a : TDesign} (h : w_Design a ≤ 1048576) : Ev (fun n => laws_eqDesign n a a) true := by
  unfold laws_eqDesign
  simp only [w_Design] at h
  exact Ev.bind (eq_InstanceS (a := a.Instances) (by omega)) (Ev.ff rfl (Ev.bind (eq_StringS (a := a.Nets) (by omega)) (Ev.ff rfl (Ev.bind (eq_PortS (a := a.Ports) (by omega)) (Ev.ff rfl (.done))))))

theorem eq_Wire {a : TWire} (h : w_Wire a ≤ 1048576) : Ev (fun n => laws_eqWire n a a) true := by
  unfold laws_eqWire
  simp only [w_Wire] at h
  exact Ev.bind (eq_Int64S (a := a.Parent) (by omega)) (Ev.ff rfl (Ev.bind (eq_Int64S (a := a.Res) (by omega)) (Ev.ff rfl (Ev.bind (eq_Int64S (a := a.Cap) (by omega)) (Ev.ff rfl (Ev.bind (eq_Int64S (a := a.Sink) (by omega)) (Ev.ff rfl (.done))))))))

theorem eq_WireS {a : (List TWire)} (h : w_WireS a ≤ 1048576) : Ev (fun n => laws_eqWireS n a a) true := by
  have hl : a.length ≤ 1048576 := by simp only [w_WireS] at h; omega
  unfold laws_eqWireS
  exact Ev.ff (by simp) (Ev.bind (b := .nxt (a.length : Int)) (eq_loop (eqf := laws_eqWire) (fun x hx => eq_Wire (by have := sum_le (wt := fun x : TWire => w_Wire x) hx; simp only [w_WireS] at h; omega))
    (fun n => by simp only [laws_eqWireS_L1, lt_nat_f (Nat.le_refl _), cond_false])
    (fun n j x hx => by
      have hj := (List.getElem?_eq_some_iff.1 hx).1
      simp only [laws_eqWireS_L1, lt_nat_t hj, cond_true, idx_at hx, Option.bind_some, Bool.not_not, w64_succ (show j < 9223372036854775807 by omega)])) .done)

theorem eq_Block {a : TBlock} (h : w_Block a ≤ 1048576) : Ev (fun n => laws_eqBlock n a a) true := by
  unfold laws_eqBlock
  simp only [w_Block] at h
  exact Ev.bind (eq_Library (a := a.Library) (by omega)) (Ev.ff rfl (Ev.bind (eq_Design (a := a.Design) (by omega)) (Ev.ff rfl (Ev.bind (eq_WireS (a := a.Wires) (by omega)) (Ev.ff rfl (.done))))))

theorem sz_Int64S {a : (List Int)} {left : Int} (h : (rngL rngI) a) (h0 : 0 ≤ left) (h1 : left ≤ 1048576) : Sz (fun n => laws_szInt64S n a left) (fun r => r = left - (w_Int64S a : Int)) :=
  Sz.less h0 h1 (by omega) (by have := h.1; omega) (fun _ => rfl)

theorem sz_Table {a : TTable} {left : Int} (h : rng_Table a) (h0 : 0 ≤ left) (h1 : left ≤ 1048576) : Sz (fun n => laws_szTable n a left) (fun r => r = left - (w_Table a : Int)) := by
  unfold laws_szTable
  obtain ⟨h_0, h_1, h_2⟩ := h
  exact Sz.step (sz_Int64S (a := a.Slews) h_0 (by omega) (by omega)) fun r0 p0 q0 => Sz.step (sz_Int64S (a := a.Loads) h_1 (by omega) (by omega)) fun r1 p1 q1 => Sz.step (sz_Int64S (a := a.Values) h_2 (by omega) (by omega)) fun r2 p2 q2 => Sz.done p2 (by simp only [w_Table]; omega)

theorem sz_TableS {a : (List TTable)} {left : Int} (h : (rngL rng_Table) a) (h0 : 0 ≤ left) (h1 : left ≤ 1048576) : Sz (fun n => laws_szTableS n a left) (fun r => r = left - (w_TableS a : Int)) :=
  Sz.list (Lf := laws_szTableS_L1 a) (wt := fun x : TTable => w_Table x) (el := laws_szTable) h0 h1 h.1 (fun x hx left p q => sz_Table (h.2 x hx) p q)
    (fun acc n => by simp only [laws_szTableS_L1, lt_nat_f (Nat.le_refl _), cond_false])
    (fun acc n j x hx => by
      have hj := (List.getElem?_eq_some_iff.1 hx).1
      have hl := h.1
      simp only [laws_szTableS_L1, lt_nat_t hj, cond_true, idx_at hx, Option.bind_some, w64_succ (show j < 9223372036854775807 by omega)])
    (fun _ => rfl)

theorem sz_Arc {a : TArc} {left : Int} (h : rng_Arc a) (h0 : 0 ≤ left) (h1 : left ≤ 1048576) : Sz (fun n => laws_szArc n a left) (fun r => r = left - (w_Arc a : Int)) := by
  unfold laws_szArc
  obtain ⟨h_0, h_1, h_2, h_3, h_4, h_5⟩ := h
  exact Sz.step (sz_TableS (a := a.Delay) h_4 (by omega) (by omega)) fun r0 p0 q0 => Sz.step (sz_TableS (a := a.Slew) h_5 (by omega) (by omega)) fun r1 p1 q1 => Sz.done p1 (by simp only [w_Arc]; omega)

theorem sz_ArcS {a : (List TArc)} {left : Int} (h : (rngL rng_Arc) a) (h0 : 0 ≤ left) (h1 : left ≤ 1048576) : Sz (fun n => laws_szArcS n a left) (fun r => r = left - (w_ArcS a : Int)) :=
  Sz.list (Lf := laws_szArcS_L1 a) (wt := fun x : TArc => w_Arc x) (el := laws_szArc) h0 h1 h.1 (fun x hx left p q => sz_Arc (h.2 x hx) p q)
    (fun acc n => by simp only [laws_szArcS_L1, lt_nat_f (Nat.le_refl _), cond_false])
    (fun acc n j x hx => by
      have hj := (List.getElem?_eq_some_iff.1 hx).1
      have hl := h.1
      simp only [laws_szArcS_L1, lt_nat_t hj, cond_true, idx_at hx, Option.bind_some, w64_succ (show j < 9223372036854775807 by omega)])
    (fun _ => rfl)

theorem sz_Pin {a : TPin} {left : Int} (h : rng_Pin a) (h0 : 0 ≤ left) (h1 : left ≤ 1048576) : Sz (fun n => laws_szPin n a left) (fun r => r = left - (w_Pin a : Int)) := by
  unfold laws_szPin
  obtain ⟨h_0, h_1, h_2, h_3⟩ := h
  exact Sz.strStep h_0 (by omega) (by omega) fun p0 q0 => Sz.done p0 (by simp only [w_Pin]; omega)

theorem sz_PinS {a : (List TPin)} {left : Int} (h : (rngL rng_Pin) a) (h0 : 0 ≤ left) (h1 : left ≤ 1048576) : Sz (fun n => laws_szPinS n a left) (fun r => r = left - (w_PinS a : Int)) :=
  Sz.list (Lf := laws_szPinS_L1 a) (wt := fun x : TPin => w_Pin x) (el := laws_szPin) h0 h1 h.1 (fun x hx left p q => sz_Pin (h.2 x hx) p q)
    (fun acc n => by simp only [laws_szPinS_L1, lt_nat_f (Nat.le_refl _), cond_false])
    (fun acc n j x hx => by
      have hj := (List.getElem?_eq_some_iff.1 hx).1
      have hl := h.1
      simp only [laws_szPinS_L1, lt_nat_t hj, cond_true, idx_at hx, Option.bind_some, w64_succ (show j < 9223372036854775807 by omega)])
    (fun _ => rfl)

theorem sz_Cell {a : TCell} {left : Int} (h : rng_Cell a) (h0 : 0 ≤ left) (h1 : left ≤ 1048576) : Sz (fun n => laws_szCell n a left) (fun r => r = left - (w_Cell a : Int)) := by
  unfold laws_szCell
  obtain ⟨h_0, h_1, h_2, h_3, h_4, h_5, h_6⟩ := h
  exact Sz.strStep h_0 (by omega) (by omega) fun p0 q0 => Sz.step (sz_PinS (a := a.Pins) h_2 (by omega) (by omega)) fun r1 p1 q1 => Sz.step (sz_ArcS (a := a.Arcs) h_3 (by omega) (by omega)) fun r2 p2 q2 => Sz.step (sz_Int64S (a := a.Truth) h_4 (by omega) (by omega)) fun r3 p3 q3 => Sz.done p3 (by simp only [w_Cell]; omega)

theorem sz_CellS {a : (List TCell)} {left : Int} (h : (rngL rng_Cell) a) (h0 : 0 ≤ left) (h1 : left ≤ 1048576) : Sz (fun n => laws_szCellS n a left) (fun r => r = left - (w_CellS a : Int)) :=
  Sz.list (Lf := laws_szCellS_L1 a) (wt := fun x : TCell => w_Cell x) (el := laws_szCell) h0 h1 h.1 (fun x hx left p q => sz_Cell (h.2 x hx) p q)
    (fun acc n => by simp only [laws_szCellS_L1, lt_nat_f (Nat.le_refl _), cond_false])
    (fun acc n j x hx => by
      have hj := (List.getElem?_eq_some_iff.1 hx).1
      have hl := h.1
      simp only [laws_szCellS_L1, lt_nat_t hj, cond_true, idx_at hx, Option.bind_some, w64_succ (show j < 9223372036854775807 by omega)])
    (fun _ => rfl)

theorem sz_Library {a : TLibrary} {left : Int} (h : rng_Library a) (h0 : 0 ≤ left) (h1 : left ≤ 1048576) : Sz (fun n => laws_szLibrary n a left) (fun r => r = left - (w_Library a : Int)) := by
  unfold laws_szLibrary
  have h_0 := h
  exact Sz.step (sz_CellS (a := a.Cells) h_0 (by omega) (by omega)) fun r0 p0 q0 => Sz.done p0 (by simp only [w_Library]; omega)

theorem sz_Instance {a : TInstance} {left : Int} (h : rng_Instance a) (h0 : 0 ≤ left) (h1 : left ≤ 1048576) : Sz (fun n => laws_szInstance n a left) (fun r => r = left - (w_Instance a : Int)) := by
  unfold laws_szInstance
  obtain ⟨h_0, h_1, h_2⟩ := h
  exact Sz.strStep h_0 (by omega) (by omega) fun p0 q0 => Sz.step (sz_Int64S (a := a.Nets) h_2 (by omega) (by omega)) fun r1 p1 q1 => Sz.done p1 (by simp only [w_Instance]; omega)

theorem sz_InstanceS {a : (List TInstance)} {left : Int} (h : (rngL rng_Instance) a) (h0 : 0 ≤ left) (h1 : left ≤ 1048576) : Sz (fun n => laws_szInstanceS n a left) (fun r => r = left - (w_InstanceS a : Int)) :=
  Sz.list (Lf := laws_szInstanceS_L1 a) (wt := fun x : TInstance => w_Instance x) (el := laws_szInstance) h0 h1 h.1 (fun x hx left p q => sz_Instance (h.2 x hx) p q)
    (fun acc n => by simp only [laws_szInstanceS_L1, lt_nat_f (Nat.le_refl _), cond_false])
    (fun acc n j x hx => by
      have hj := (List.getElem?_eq_some_iff.1 hx).1
      have hl := h.1
      simp only [laws_szInstanceS_L1, lt_nat_t hj, cond_true, idx_at hx, Option.bind_some, w64_succ (show j < 9223372036854775807 by omega)])
    (fun _ => rfl)

theorem sz_StringS {a : (List ByteArray)} {left : Int} (h : (rngL rngS) a) (h0 : 0 ≤ left) (h1 : left ≤ 1048576) : Sz (fun n => laws_szStringS n a left) (fun r => r = left - (w_StringS a : Int)) :=
  Sz.list (Lf := laws_szStringS_L1 a) (wt := fun x : ByteArray => x.size) (el := fun _ (x : ByteArray) acc => some (W64 (acc - (x.size : Int)))) h0 h1 h.1 (fun x hx left p q => Sz.str (h.2 x hx) p q)
    (fun acc n => by simp only [laws_szStringS_L1, lt_nat_f (Nat.le_refl _), cond_false])
    (fun acc n j x hx => by
      have hj := (List.getElem?_eq_some_iff.1 hx).1
      have hl := h.1
      simp only [laws_szStringS_L1, lt_nat_t hj, cond_true, idx_at hx, Option.bind_some, w64_succ (show j < 9223372036854775807 by omega)])
    (fun _ => rfl)

theorem sz_Port {a : TPort} {left : Int} (h : rng_Port a) (h0 : 0 ≤ left) (h1 : left ≤ 1048576) : Sz (fun n => laws_szPort n a left) (fun r => r = left - (w_Port a : Int)) := by
  unfold laws_szPort
  obtain ⟨h_0, h_1, h_2⟩ := h
  exact Sz.strStep h_0 (by omega) (by omega) fun p0 q0 => Sz.done p0 (by simp only [w_Port]; omega)

theorem sz_PortS {a : (List TPort)} {left : Int} (h : (rngL rng_Port) a) (h0 : 0 ≤ left) (h1 : left ≤ 1048576) : Sz (fun n => laws_szPortS n a left) (fun r => r = left - (w_PortS a : Int)) :=
  Sz.list (Lf := laws_szPortS_L1 a) (wt := fun x : TPort => w_Port x) (el := laws_szPort) h0 h1 h.1 (fun x hx left p q => sz_Port (h.2 x hx) p q)
    (fun acc n => by simp only [laws_szPortS_L1, lt_nat_f (Nat.le_refl _), cond_false])
    (fun acc n j x hx => by
      have hj := (List.getElem?_eq_some_iff.1 hx).1
      have hl := h.1
      simp only [laws_szPortS_L1, lt_nat_t hj, cond_true, idx_at hx, Option.bind_some, w64_succ (show j < 9223372036854775807 by omega)])
    (fun _ => rfl)

theorem sz_Design {a : TDesign} {left : Int} (h : rng_Design a) (h0 : 0 ≤ left) (h1 : left ≤ 1048576) : Sz (fun n => laws_szDesign n a left) (fun r => r = left - (w_Design a : Int)) := by
  unfold laws_szDesign
  obtain ⟨h_0, h_1, h_2⟩ := h
  exact Sz.step (sz_InstanceS (a := a.Instances) h_0 (by omega) (by omega)) fun r0 p0 q0 => Sz.step (sz_StringS (a := a.Nets) h_1 (by omega) (by omega)) fun r1 p1 q1 => Sz.step (sz_PortS (a := a.Ports) h_2 (by omega) (by omega)) fun r2 p2 q2 => Sz.done p2 (by simp only [w_Design]; omega)

theorem sz_Wire {a : TWire} {left : Int} (h : rng_Wire a) (h0 : 0 ≤ left) (h1 : left ≤ 1048576) : Sz (fun n => laws_szWire n a left) (fun r => r = left - (w_Wire a : Int)) := by
  unfold laws_szWire
  obtain ⟨h_0, h_1, h_2, h_3⟩ := h
  exact Sz.step (sz_Int64S (a := a.Parent) h_0 (by omega) (by omega)) fun r0 p0 q0 => Sz.step (sz_Int64S (a := a.Res) h_1 (by omega) (by omega)) fun r1 p1 q1 => Sz.step (sz_Int64S (a := a.Cap) h_2 (by omega) (by omega)) fun r2 p2 q2 => Sz.step (sz_Int64S (a := a.Sink) h_3 (by omega) (by omega)) fun r3 p3 q3 => Sz.done p3 (by simp only [w_Wire]; omega)

theorem sz_WireS {a : (List TWire)} {left : Int} (h : (rngL rng_Wire) a) (h0 : 0 ≤ left) (h1 : left ≤ 1048576) : Sz (fun n => laws_szWireS n a left) (fun r => r = left - (w_WireS a : Int)) :=
  Sz.list (Lf := laws_szWireS_L1 a) (wt := fun x : TWire => w_Wire x) (el := laws_szWire) h0 h1 h.1 (fun x hx left p q => sz_Wire (h.2 x hx) p q)
    (fun acc n => by simp only [laws_szWireS_L1, lt_nat_f (Nat.le_refl _), cond_false])
    (fun acc n j x hx => by
      have hj := (List.getElem?_eq_some_iff.1 hx).1
      have hl := h.1
      simp only [laws_szWireS_L1, lt_nat_t hj, cond_true, idx_at hx, Option.bind_some, w64_succ (show j < 9223372036854775807 by omega)])
    (fun _ => rfl)

theorem sz_Block {a : TBlock} {left : Int} (h : rng_Block a) (h0 : 0 ≤ left) (h1 : left ≤ 1048576) : Sz (fun n => laws_szBlock n a left) (fun r => r = left - (w_Block a : Int)) := by
  unfold laws_szBlock
  obtain ⟨h_0, h_1, h_2⟩ := h
  exact Sz.step (sz_Library (a := a.Library) h_0 (by omega) (by omega)) fun r0 p0 q0 => Sz.step (sz_Design (a := a.Design) h_1 (by omega) (by omega)) fun r1 p1 q1 => Sz.step (sz_WireS (a := a.Wires) h_2 (by omega) (by omega)) fun r2 p2 q2 => Sz.done p2 (by simp only [w_Block]; omega)

theorem to_Int64S {a : (List Int)} (h : w_Int64S a ≤ 1048576) : Ev (fun n => laws_toInt64S n a) a := by
  have hl : a.length ≤ 1048576 := by simp only [w_Int64S] at h; omega
  unfold laws_toInt64S
  exact Ev.bindN (mkS_len (by omega)) (Ev.bind (b := (a, (a.length : Int))) (to_loop (cp := fun _ x => some x) (fun _ _ => .done)
    (fun acc n => by simp only [laws_toInt64S_L1, lt_nat_f (Nat.le_refl _), cond_false])
    (fun acc n j x y hx hy => by
      have hj := (List.getElem?_eq_some_iff.1 hx).1
      simp only [laws_toInt64S_L1, lt_nat_t hj, cond_true, idx_at hx, idx_at hy, Option.bind_some, w64_succ (show j < 9223372036854775807 by omega)])) .done)

theorem to_Table {a : TTable} (h : w_Table a ≤ 1048576) : Ev (fun n => laws_toTable n a) a := by
  unfold laws_toTable
  simp only [w_Table] at h
  exact Ev.bind (to_Int64S (a := a.Slews) (by omega)) (Ev.bind (to_Int64S (a := a.Loads) (by omega)) (Ev.bind (to_Int64S (a := a.Values) (by omega)) (.done)))

theorem to_TableS {a : (List TTable)} (h : w_TableS a ≤ 1048576) : Ev (fun n => laws_toTableS n a) a := by
  have hl : a.length ≤ 1048576 := by simp only [w_TableS] at h; omega
  unfold laws_toTableS
  exact Ev.bindN (mkS_len (by omega)) (Ev.bind (b := (a, (a.length : Int))) (to_loop (cp := laws_toTable) (fun x hx => to_Table (by have := sum_le (wt := fun x : TTable => w_Table x) hx; simp only [w_TableS] at h; omega))
    (fun acc n => by simp only [laws_toTableS_L1, lt_nat_f (Nat.le_refl _), cond_false])
    (fun acc n j x y hx hy => by
      have hj := (List.getElem?_eq_some_iff.1 hx).1
      simp only [laws_toTableS_L1, lt_nat_t hj, cond_true, idx_at hx, idx_at hy, Option.bind_some, w64_succ (show j < 9223372036854775807 by omega)])) .done)

theorem to_Arc {a : TArc} (h : w_Arc a ≤ 1048576) : Ev (fun n => laws_toArc n a) a := by
  unfold laws_toArc
  simp only [w_Arc] at h
  exact Ev.bind (to_TableS (a := a.Delay) (by omega)) (Ev.bind (to_TableS (a := a.Slew) (by omega)) (.done))

theorem to_ArcS {a : (List TArc)} (h : w_ArcS a ≤ 1048576) : Ev (fun n => laws_toArcS n a) a := by
  have hl : a.length ≤ 1048576 := by simp only [w_ArcS] at h; omega
  unfold laws_toArcS
  exact Ev.bindN (mkS_len (by omega)) (Ev.bind (b := (a, (a.length : Int))) (to_loop (cp := laws_toArc) (fun x hx => to_Arc (by have := sum_le (wt := fun x : TArc => w_Arc x) hx; simp only [w_ArcS] at h; omega))
    (fun acc n => by simp only [laws_toArcS_L1, lt_nat_f (Nat.le_refl _), cond_false])
    (fun acc n j x y hx hy => by
      have hj := (List.getElem?_eq_some_iff.1 hx).1
      simp only [laws_toArcS_L1, lt_nat_t hj, cond_true, idx_at hx, idx_at hy, Option.bind_some, w64_succ (show j < 9223372036854775807 by omega)])) .done)

theorem to_Pin {a : TPin} (h : w_Pin a ≤ 1048576) : Ev (fun n => laws_toPin n a) a := by
  unfold laws_toPin
  simp only [w_Pin] at h
  exact .done

theorem to_PinS {a : (List TPin)} (h : w_PinS a ≤ 1048576) : Ev (fun n => laws_toPinS n a) a := by
  have hl : a.length ≤ 1048576 := by simp only [w_PinS] at h; omega
  unfold laws_toPinS
  exact Ev.bindN (mkS_len (by omega)) (Ev.bind (b := (a, (a.length : Int))) (to_loop (cp := laws_toPin) (fun x hx => to_Pin (by have := sum_le (wt := fun x : TPin => w_Pin x) hx; simp only [w_PinS] at h; omega))
    (fun acc n => by simp only [laws_toPinS_L1, lt_nat_f (Nat.le_refl _), cond_false])
    (fun acc n j x y hx hy => by
      have hj := (List.getElem?_eq_some_iff.1 hx).1
      simp only [laws_toPinS_L1, lt_nat_t hj, cond_true, idx_at hx, idx_at hy, Option.bind_some, w64_succ (show j < 9223372036854775807 by omega)])) .done)

theorem to_Cell {a : TCell} (h : w_Cell a ≤ 1048576) : Ev (fun n => laws_toCell n a) a := by
  unfold laws_toCell
  simp only [w_Cell] at h
  exact Ev.bind (to_PinS (a := a.Pins) (by omega)) (Ev.bind (to_ArcS (a := a.Arcs) (by omega)) (Ev.bind (to_Int64S (a := a.Truth) (by omega)) (.done)))

theorem to_CellS {a : (List TCell)} (h : w_CellS a ≤ 1048576) : Ev (fun n => laws_toCellS n a) a := by
  have hl : a.length ≤ 1048576 := by simp only [w_CellS] at h; omega
  unfold laws_toCellS
  exact Ev.bindN (mkS_len (by omega)) (Ev.bind (b := (a, (a.length : Int))) (to_loop (cp := laws_toCell) (fun x hx => to_Cell (by have := sum_le (wt := fun x : TCell => w_Cell x) hx; simp only [w_CellS] at h; omega))
    (fun acc n => by simp only [laws_toCellS_L1, lt_nat_f (Nat.le_refl _), cond_false])
    (fun acc n j x y hx hy => by
      have hj := (List.getElem?_eq_some_iff.1 hx).1
      simp only [laws_toCellS_L1, lt_nat_t hj, cond_true, idx_at hx, idx_at hy, Option.bind_some, w64_succ (show j < 9223372036854775807 by omega)])) .done)

theorem to_Library {a : TLibrary} (h : w_Library a ≤ 1048576) : Ev (fun n => laws_toLibrary n a) a := by
  unfold laws_toLibrary
  simp only [w_Library] at h
  exact Ev.bind (to_CellS (a := a.Cells) (by omega)) (.done)

theorem to_Instance {a : TInstance} (h : w_Instance a ≤ 1048576) : Ev (fun n => laws_toInstance n a) a := by
  unfold laws_toInstance
  simp only [w_Instance] at h
  exact Ev.bind (to_Int64S (a := a.Nets) (by omega)) (.done)

theorem to_InstanceS {a : (List TInstance)} (h : w_InstanceS a ≤ 1048576) : Ev (fun n => laws_toInstanceS n a) a := by
  have hl : a.length ≤ 1048576 := by simp only [w_InstanceS] at h; omega
  unfold laws_toInstanceS
  exact Ev.bindN (mkS_len (by omega)) (Ev.bind (b := (a, (a.length : Int))) (to_loop (cp := laws_toInstance) (fun x hx => to_Instance (by have := sum_le (wt := fun x : TInstance => w_Instance x) hx; simp only [w_InstanceS] at h; omega))
    (fun acc n => by simp only [laws_toInstanceS_L1, lt_nat_f (Nat.le_refl _), cond_false])
    (fun acc n j x y hx hy => by
      have hj := (List.getElem?_eq_some_iff.1 hx).1
      simp only [laws_toInstanceS_L1, lt_nat_t hj, cond_true, idx_at hx, idx_at hy, Option.bind_some, w64_succ (show j < 9223372036854775807 by omega)])) .done)

theorem to_StringS {a : (List ByteArray)} (h : w_StringS a ≤ 1048576) : Ev (fun n => laws_toStringS n a) a := by
  have hl : a.length ≤ 1048576 := by simp only [w_StringS] at h; omega
  unfold laws_toStringS
  exact Ev.bindN (mkS_len (by omega)) (Ev.bind (b := (a, (a.length : Int))) (to_loop (cp := fun _ x => some x) (fun _ _ => .done)
    (fun acc n => by simp only [laws_toStringS_L1, lt_nat_f (Nat.le_refl _), cond_false])
    (fun acc n j x y hx hy => by
      have hj := (List.getElem?_eq_some_iff.1 hx).1
      simp only [laws_toStringS_L1, lt_nat_t hj, cond_true, idx_at hx, idx_at hy, Option.bind_some, w64_succ (show j < 9223372036854775807 by omega)])) .done)

theorem to_Port {a : TPort} (h : w_Port a ≤ 1048576) : Ev (fun n => laws_toPort n a) a := by
  unfold laws_toPort
  simp only [w_Port] at h
  exact .done

theorem to_PortS {a : (List TPort)} (h : w_PortS a ≤ 1048576) : Ev (fun n => laws_toPortS n a) a := by
  have hl : a.length ≤ 1048576 := by simp only [w_PortS] at h; omega
  unfold laws_toPortS
  exact Ev.bindN (mkS_len (by omega)) (Ev.bind (b := (a, (a.length : Int))) (to_loop (cp := laws_toPort) (fun x hx => to_Port (by have := sum_le (wt := fun x : TPort => w_Port x) hx; simp only [w_PortS] at h; omega))
    (fun acc n => by simp only [laws_toPortS_L1, lt_nat_f (Nat.le_refl _), cond_false])
    (fun acc n j x y hx hy => by
      have hj := (List.getElem?_eq_some_iff.1 hx).1
      simp only [laws_toPortS_L1, lt_nat_t hj, cond_true, idx_at hx, idx_at hy, Option.bind_some, w64_succ (show j < 9223372036854775807 by omega)])) .done)

theorem to_Design {a : TDesign} (h : w_Design a ≤ 1048576) : Ev (fun n => laws_toDesign n a) a := by
  unfold laws_toDesign
  simp only [w_Design] at h
  exact Ev.bind (to_InstanceS (a := a.Instances) (by omega)) (Ev.bind (to_StringS (a := a.Nets) (by omega)) (Ev.bind (to_PortS (a := a.Ports) (by omega)) (.done)))

theorem to_Wire {a : TWire} (h : w_Wire a ≤ 1048576) : Ev (fun n => laws_toWire n a) a := by
  unfold laws_toWire
  simp only [w_Wire] at h
  exact Ev.bind (to_Int64S (a := a.Parent) (by omega)) (Ev.bind (to_Int64S (a := a.Res) (by omega)) (Ev.bind (to_Int64S (a := a.Cap) (by omega)) (Ev.bind (to_Int64S (a := a.Sink) (by omega)) (.done))))

theorem to_WireS {a : (List TWire)} (h : w_WireS a ≤ 1048576) : Ev (fun n => laws_toWireS n a) a := by
  have hl : a.length ≤ 1048576 := by simp only [w_WireS] at h; omega
  unfold laws_toWireS
  exact Ev.bindN (mkS_len (by omega)) (Ev.bind (b := (a, (a.length : Int))) (to_loop (cp := laws_toWire) (fun x hx => to_Wire (by have := sum_le (wt := fun x : TWire => w_Wire x) hx; simp only [w_WireS] at h; omega))
    (fun acc n => by simp only [laws_toWireS_L1, lt_nat_f (Nat.le_refl _), cond_false])
    (fun acc n j x y hx hy => by
      have hj := (List.getElem?_eq_some_iff.1 hx).1
      simp only [laws_toWireS_L1, lt_nat_t hj, cond_true, idx_at hx, idx_at hy, Option.bind_some, w64_succ (show j < 9223372036854775807 by omega)])) .done)

theorem to_Block {a : TBlock} (h : w_Block a ≤ 1048576) : Ev (fun n => laws_toBlock n a) a := by
  unfold laws_toBlock
  simp only [w_Block] at h
  exact Ev.bind (to_Library (a := a.Library) (by omega)) (Ev.bind (to_Design (a := a.Design) (by omega)) (Ev.bind (to_WireS (a := a.Wires) (by omega)) (.done)))

end Go.Fw


namespace Go.Fw
open Go

theorem bif_some {α : Type} {c : Bool} {x y : α} : (bif c then some x else some y) = some (bif c then x else y) := by cases c <;> rfl

/-- The place of the first element with a property, or -1. -/
def ixL {α : Type} (p : α → Bool) (xs : List α) : Int := match xs.findIdx? p with | some j => (j : Int) | none => -1

theorem ixL_ge {α : Type} {p : α → Bool} {xs : List α} : decide (ixL p xs ≥ 0) = xs.any p := by
  unfold ixL
  cases h : xs.findIdx? p with
  | some j =>
    have := List.findIdx?_eq_some_iff_getElem.1 h
    obtain ⟨hj, hp, _⟩ := this
    have h2 : xs.any p = true := List.any_eq_true.2 ⟨_, List.getElem_mem hj, hp⟩
    rw [h2]; simp
  | none =>
    have := List.findIdx?_eq_none_iff.1 h
    have h2 : xs.any p = false := by rw [List.any_eq_false]; intro x hx; simp [this x hx]
    rw [h2]; rfl

theorem find_loop {α σ : Type} {xs : List α} {p : α → Bool} {Lf : Nat → Int → Option (Flow Int σ)} {pf : Nat → α → Option Bool} {fin : σ} (hp : ∀ x, x ∈ xs → Ev (fun n => pf n x) (p x))
    (hend : ∀ n, Lf (n + 1) (xs.length : Int) = some (.nxt fin))
    (hstep : ∀ (n j : Nat) (x : α), xs[j]? = some x → Lf (n + 1) (j : Int) = (pf n x).bind fun r => bif r then some (.ret (j : Int)) else Lf n ((j + 1 : Nat) : Int)) :
    Ev (fun n => Lf n 0) (match xs.findIdx? p with | some j => .ret (j : Int) | none => .nxt fin) := by
  have main : ∀ k j, j + k = xs.length → Ev (fun n => Lf n (j : Int)) (match (xs.drop j).findIdx? p with | some i => .ret ((j + i : Nat) : Int) | none => .nxt fin) := by
    intro k
    induction k with
    | zero =>
      intro j hj
      obtain rfl : j = xs.length := by omega
      rw [List.drop_eq_nil_of_le (Nat.le_refl _)]
      exact Ev.step hend .done
    | succ k ih =>
      intro j hj
      have hlt : j < xs.length := by omega
      have hd : xs.drop j = xs[j] :: xs.drop (j + 1) := List.drop_eq_getElem_cons hlt
      refine Ev.step (fun n => hstep n j _ (List.getElem?_eq_getElem hlt)) (Ev.bind (hp _ (List.getElem_mem hlt)) ?_)
      rw [hd, List.findIdx?_cons]
      cases hc : p xs[j] with
      | true => exact Ev.tt rfl .done
      | false =>
        refine Ev.ff rfl ((ih (j + 1) (by omega)).cast ?_)
        cases (xs.drop (j + 1)).findIdx? p with
        | none => rfl
        | some i => simp only [Bool.false_eq_true, if_false, Option.map_some]; congr 2; omega
  have := main xs.length 0 (by omega)
  simp only [List.drop_zero, Nat.zero_add] at this
  exact this

theorem index_ev {α σ : Type} {xs : List α} {p : α → Bool} {Lf : Nat → Int → Option (Flow Int σ)} {pf : Nat → α → Option Bool} {fin : σ} (hp : ∀ x, x ∈ xs → Ev (fun n => pf n x) (p x))
    (hend : ∀ n, Lf (n + 1) (xs.length : Int) = some (.nxt fin))
    (hstep : ∀ (n j : Nat) (x : α), xs[j]? = some x → Lf (n + 1) (j : Int) = (pf n x).bind fun r => bif r then some (.ret (j : Int)) else Lf n ((j + 1 : Nat) : Int))
    {F : Nat → Option Int} (hF : ∀ n, F n = (Lf n 0).bind fun o => match o with | .ret r => some r | .nxt _ => some (-1)) : Ev F (ixL p xs) := by
  refine Ev.congr hF (Ev.bind (find_loop hp hend hstep) ?_)
  unfold ixL
  cases xs.findIdx? p <;> exact .done

theorem any_allN {α : Type} {p : α → Bool} {xs : List α} {d : α} : xs.any p = !allN (fun j => !p (xs.getD j d)) xs.length := by
  rw [Bool.eq_iff_iff, List.any_eq_true, Bool.not_eq_true', allN_false]
  constructor
  · rintro ⟨x, hx, hp⟩
    obtain ⟨j, hj, rfl⟩ := List.getElem_of_mem hx
    exact ⟨j, hj, by simp [hj, hp]⟩
  · rintro ⟨j, hj, hp⟩
    exact ⟨xs[j], List.getElem_mem hj, by simpa [hj] using hp⟩

theorem all_allN {α : Type} {p : α → Bool} {xs : List α} {d : α} : xs.all p = allN (fun j => p (xs.getD j d)) xs.length := by
  rw [Bool.eq_iff_iff, List.all_eq_true, allN_iff]
  constructor
  · intro h j hj
    simpa [hj] using h xs[j] (List.getElem_mem hj)
  · intro h x hx
    obtain ⟨j, hj, rfl⟩ := List.getElem_of_mem hx
    simpa [hj] using h j hj

theorem not_any {α : Type} {p : α → Bool} {xs : List α} : (!xs.any fun x => !p x) = xs.all p := by
  rw [Bool.eq_iff_iff]; simp [List.all_eq_true]

/-- A loop over the elements that checks. -/
theorem all_loop {α ρ σ : Type} {xs : List α} {p : α → Bool} {Lf : Nat → Int → Option (Flow ρ σ)} {bad : ρ} {fin : σ}
    (hend : ∀ n, Lf (n + 1) (xs.length : Int) = some (.nxt fin))
    (hstep : ∀ j, ∀ h : j < xs.length, ∀ X, Ev (fun n => Lf n ((j + 1 : Nat) : Int)) X → Ev (fun n => Lf (n + 1) (j : Int)) (bif p xs[j] then X else .ret bad)) :
    Ev (fun n => Lf n 0) (bif xs.all p then .nxt fin else .ret bad) := by
  have main : ∀ k j, j + k = xs.length → Ev (fun n => Lf n (j : Int)) (bif (xs.drop j).all p then .nxt fin else .ret bad) := by
    intro k
    induction k with
    | zero =>
      intro j hj
      obtain rfl : j = xs.length := by omega
      rw [List.drop_eq_nil_of_le (Nat.le_refl _)]
      exact Ev.step hend .done
    | succ k ih =>
      intro j hj
      have hlt : j < xs.length := by omega
      have hd : xs.drop j = xs[j] :: xs.drop (j + 1) := List.drop_eq_getElem_cons hlt
      refine (Ev.succ (hstep j hlt _ (ih (j + 1) (by omega)))).cast ?_
      rw [hd, List.all_cons]
      cases p xs[j] <;> rfl
  have := main xs.length 0 (by omega)
  simpa using this

/-- A loop over the elements that builds. -/
theorem fold_from {α ρ τ : Type} {xs : List α} {Lf : Nat → τ → Int → Option ρ} {step : τ → α → τ} {fin : τ → ρ} (i0 : Nat) (t0 : τ) (Inv : Nat → τ → Prop) (hi0 : i0 ≤ xs.length) (h0 : Inv i0 t0)
    (hinv : ∀ j t, ∀ h : j < xs.length, Inv j t → Inv (j + 1) (step t xs[j]))
    (hend : ∀ n t, Lf (n + 1) t (xs.length : Int) = some (fin t))
    (hstep : ∀ j t, ∀ h : j < xs.length, Inv j t → ∀ X, Ev (fun n => Lf n (step t xs[j]) ((j + 1 : Nat) : Int)) X → Ev (fun n => Lf (n + 1) t (j : Int)) X) :
    Ev (fun n => Lf n t0 (i0 : Int)) (fin ((xs.drop i0).foldl step t0)) ∧ Inv xs.length ((xs.drop i0).foldl step t0) := by
  have main : ∀ k j t, j + k = xs.length → Inv j t → Ev (fun n => Lf n t (j : Int)) (fin ((xs.drop j).foldl step t)) ∧ Inv xs.length ((xs.drop j).foldl step t) := by
    intro k
    induction k with
    | zero =>
      intro j t hj hi
      obtain rfl : j = xs.length := by omega
      rw [List.drop_eq_nil_of_le (Nat.le_refl _)]
      exact ⟨Ev.step (fun n => hend n t) .done, hi⟩
    | succ k ih =>
      intro j t hj hi
      have hlt : j < xs.length := by omega
      have hd : xs.drop j = xs[j] :: xs.drop (j + 1) := List.drop_eq_getElem_cons hlt
      obtain ⟨h1, h2⟩ := ih (j + 1) (step t xs[j]) (by omega) (hinv j t hlt hi)
      rw [hd, List.foldl_cons]
      exact ⟨Ev.succ (hstep j t hlt hi _ h1), h2⟩
  exact main (xs.length - i0) i0 t0 (by omega) h0

theorem appS_ok {α : Type} {xs ys : List α} (h : xs.length + ys.length ≤ 2147483648) : appS xs ys = some (xs ++ ys) := by
  unfold appS big; rw [if_pos h]
end Go.Fw


namespace Go.Fw
open Go
set_option maxRecDepth 100000


theorem l01In_eq {n : Nat} {x lo hi : Int} : spec_l01In n x lo hi = some (inI x lo hi) := by
  simp only [spec_l01In, bif_some, bif_and]; rfl
theorem within_eq {n : Nat} {x lo hi : Int} : impl_within n x lo hi = some (inI x lo hi) := by
  simp only [impl_within, bif_some, bif_and]; rfl

/-! ### Names -/

/-- The byte at a place, as a number. -/
def bt (s : ByteArray) (j : Nat) : Nat := (s.data.toList.getD j 0).toNat
theorem atS_at {s : ByteArray} {j : Nat} (h : j < s.size) : atS s (j : Int) = some (bt s j : Int) := by
  have h' : j < s.data.size := h
  have hl : j < s.data.toList.length := by simpa using h'
  unfold atS
  rw [if_pos (by omega), Int.toNat_natCast]
  have : s[j]? = some (s.data.toList.getD j 0) := by
    rw [getElem?_pos s j h, List.getD_eq_getElem?_getD, List.getElem?_eq_getElem hl]
    rfl
  rw [this]
  rfl

def letB (b : Nat) : Bool := decide (97 ≤ b) && decide (b ≤ 122)
def digB (b : Nat) : Bool := decide (48 ≤ b) && decide (b ≤ 57)
def chB (s : ByteArray) (j : Nat) : Bool := letB (bt s j) || digB (bt s j) && decide (0 < j)
def nameB (s : ByteArray) : Bool := (decide (1 ≤ s.size) && decide (s.size ≤ 8)) && allN (chB s) s.size

theorem l03Name_ev {s : ByteArray} (h : okS s) : Ev (fun n => spec_l03Name n s) (nameB s) := by
  unfold okS at h
  have hL : Ev (fun n => spec_l03Name_L1 s n 0) (bif allN (chB s) s.size then .nxt (s.size : Int) else .ret false) := by
    refine ev_all ?_ (fun j hj X hX => ?_)
    · exact Ev.succ (by simp only [spec_l03Name_L1, lt_nat_f (Nat.le_refl _), cond_false]; exact .done)
    · refine Ev.succ ?_
      simp only [spec_l03Name_L1, lt_nat_t hj, cond_true, atS_at hj, Option.bind_some, bif_some, bif_and, w64_succ (show j < 9223372036854775807 by omega)]
      have e1 : (decide ((bt s j : Int) ≥ 97) && decide ((bt s j : Int) ≤ 122)) = letB (bt s j) := by unfold letB; rw [Bool.eq_iff_iff]; simp; omega
      have e2 : (decide ((bt s j : Int) ≥ 48) && decide ((bt s j : Int) ≤ 57)) = digB (bt s j) := by unfold digB; rw [Bool.eq_iff_iff]; simp; omega
      have e3 : decide ((j : Int) > 0) = decide (0 < j) := by rw [Bool.eq_iff_iff]; simp
      rw [e1, e2, e3]
      unfold chB
      cases letB (bt s j) <;> cases digB (bt s j) <;> cases decide (0 < j) <;> first | exact hX | exact .done
  unfold spec_l03Name
  refine Ev.cast (r := bif allN (chB s) s.size then (decide (1 ≤ s.size) && decide (s.size ≤ 8)) else false) (Ev.bindB hL (fun _ => ?_) (fun _ => .done)) ?_
  · simp only [bif_some, bif_and]
    exact Ev.now (by congr 1; rw [Bool.eq_iff_iff]; simp; omega)
  · unfold nameB
    cases allN (chB s) s.size <;> simp

def cutset : List UInt8 := [97, 98, 99, 100, 101, 102, 103, 104, 105, 106, 107, 108, 109, 110, 111, 112, 113, 114, 115, 116, 117, 118, 119, 120, 121, 122, 48, 49, 50, 51, 52, 53, 54, 55, 56, 57]
theorem cutset_mem (b : UInt8) : cutset.contains b = (letB b.toNat || digB b.toNat) := by
  have h0 : (List.range 256).all (fun m => cutset.contains (UInt8.ofNat m) == (letB (UInt8.ofNat m).toNat || digB (UInt8.ofNat m).toNat)) = true := by kernel_rfl
  have h := List.all_eq_true.1 h0 b.toNat (List.mem_range.2 b.toNat_lt)
  rw [beq_iff_eq] at h
  simpa using h
def letters : List UInt8 := [97, 98, 99, 100, 101, 102, 103, 104, 105, 106, 107, 108, 109, 110, 111, 112, 113, 114, 115, 116, 117, 118, 119, 120, 121, 122]
theorem letters_ix (m : Nat) (hm : m < 256) : decide ((Lib.indexByte letters m.toUInt8) ≥ 0) = letB m := by
  have h0 : (List.range 256).all (fun m => decide ((Lib.indexByte letters m.toUInt8) ≥ 0) == letB m) = true := by kernel_rfl
  have h := List.all_eq_true.1 h0 m (List.mem_range.2 hm)
  rwa [beq_iff_eq] at h

theorem dropWhile_nil {α : Type} {p : α → Bool} {l : List α} : l.dropWhile p = [] ↔ ∀ x, x ∈ l → p x = true := by
  induction l with
  | nil => simp
  | cons y l ih =>
    rw [List.dropWhile_cons]
    by_cases h : p y = true
    · rw [if_pos h, ih]; simp [h]
    · rw [if_neg h]; simp [h]

theorem dropWhile_all {α : Type} {p : α → Bool} {l : List α} (h : ∀ x, x ∈ l.dropWhile p → p x = true) : ∀ x, x ∈ l → p x = true := by
  induction l with
  | nil => simp
  | cons y l ih =>
    rw [List.dropWhile_cons] at h
    by_cases hy : p y = true
    · rw [if_pos hy] at h
      intro x hx
      rcases List.mem_cons.1 hx with rfl | hx
      · exact hy
      · exact ih h x hx
    · rw [if_neg hy] at h
      exact h

theorem trim_nil {l cs : List UInt8} : Lib.trimS l cs = [] ↔ ∀ x, x ∈ l → cs.contains x = true := by
  unfold Lib.trimS Lib.trimRightS Lib.trimLeftS
  rw [dropWhile_nil]
  constructor
  · intro h x hx
    exact dropWhile_all (p := (cs.contains ·)) (l := l.reverse) (fun y hy => h y (List.mem_reverse.2 hy)) x (List.mem_reverse.2 hx)
  · intro h x hx
    exact h x (List.mem_reverse.1 ((List.dropWhile_suffix _).subset (List.mem_reverse.1 hx)))

theorem toList_eq_iff {a b : ByteArray} : (a.toList == b.toList) = decide (a = b) := by
  rw [Bool.eq_iff_iff, beq_iff_eq, decide_eq_true_iff]
  constructor
  · intro h
    exact ByteArray.ext (by have := congrArg List.toArray h; simpa [ByteArray.toList_eq] using this)
  · rintro rfl; rfl
end Go.Fw


namespace Go.Fw
open Go
set_option maxRecDepth 100000

theorem bt_eq {s : ByteArray} {j : Nat} (h : j < s.data.toList.length) : bt s j = (s.data.toList[j]).toNat := by
  unfold bt; rw [List.getD_eq_getElem?_getD, List.getElem?_eq_getElem h]; rfl
theorem bt_lt {s : ByteArray} {j : Nat} : bt s j < 256 := UInt8.toNat_lt _

theorem isName_eq {n : Nat} {s : ByteArray} (h : okS s) : impl_isName n s = some (nameB s) := by
  unfold okS at h
  have hl : s.data.toList.length = s.size := by simp
  simp only [impl_isName, within_eq, Option.bind_some]
  cases hI : inI (s.size : Int) 1 8 with
  | false =>
    have hs : (decide (1 ≤ s.size) && decide (s.size ≤ 8)) = false := by rw [inI_false] at hI; rw [Bool.and_eq_false_iff, decide_eq_false_iff_not, decide_eq_false_iff_not]; omega
    simp [nameB, hs]
  | true =>
    have hs : 1 ≤ s.size ∧ s.size ≤ 8 := by rw [inI_iff] at hI; omega
    have hT : strings_Trim n s (⟨#[97, 98, 99, 100, 101, 102, 103, 104, 105, 106, 107, 108, 109, 110, 111, 112, 113, 114, 115, 116, 117, 118, 119, 120, 121, 122, 48, 49, 50, 51, 52, 53, 54, 55, 56, 57]⟩ : ByteArray) = some ⟨(Lib.trimS s.data.toList cutset).toArray⟩ := by
      unfold strings_Trim
      rw [if_pos ⟨by omega, by decide, by decide⟩]
      rfl
    rw [hT]
    simp only [cond_true, Option.bind_some]
    have hE : (((⟨(Lib.trimS s.data.toList cutset).toArray⟩ : ByteArray).toList == (⟨#[]⟩ : ByteArray).toList)) = allN (fun j => letB (bt s j) || digB (bt s j)) s.size := by
      rw [toList_eq_iff, Bool.eq_iff_iff, decide_eq_true_iff, allN_iff]
      have : ((⟨(Lib.trimS s.data.toList cutset).toArray⟩ : ByteArray) = ⟨#[]⟩) ↔ Lib.trimS s.data.toList cutset = [] := by
        constructor
        · intro he
          have := congrArg (fun x : ByteArray => x.data.toList) he
          simpa using this
        · intro he; rw [he]
      rw [this, trim_nil]
      constructor
      · intro hx j hj
        have hj' : j < s.data.toList.length := by omega
        have := hx _ (List.getElem_mem hj')
        rw [cutset_mem, ← bt_eq hj'] at this
        exact this
      · intro hx x hm
        obtain ⟨j, hj, rfl⟩ := List.getElem_of_mem hm
        have := hx j (by omega)
        rw [cutset_mem, ← bt_eq hj]
        exact this
    rw [hE]
    have h0 : atS s 0 = some (bt s 0 : Int) := atS_at (j := 0) (by omega)
    have hI2 : decide (Lib.indexByte letters (bt s 0 : Int).toNat.toUInt8 ≥ 0) = letB (bt s 0) := by
      rw [Int.toNat_natCast]; exact letters_ix _ bt_lt
    have hF : ∀ b : Bool, (bif b then (atS s 0).bind fun y1 => (strings_IndexByte n (⟨#[97, 98, 99, 100, 101, 102, 103, 104, 105, 106, 107, 108, 109, 110, 111, 112, 113, 114, 115, 116, 117, 118, 119, 120, 121, 122]⟩ : ByteArray) (⟨y1⟩ : IntK .u8)).bind fun r3 => some (decide (r3 ≥ 0)) else some false) = some (b && letB (bt s 0)) := by
      intro b
      cases b with
      | false => rfl
      | true =>
        rw [h0]
        simp only [cond_true, Option.bind_some, strings_IndexByte, Bool.true_and]
        exact congrArg some hI2
    rw [hF]
    congr 1
    have hs' : (decide (1 ≤ s.size) && decide (s.size ≤ 8)) = true := by simp [hs]
    unfold nameB
    rw [hs', Bool.true_and, Bool.eq_iff_iff, Bool.and_eq_true, allN_iff, allN_iff]
    simp only [chB, Bool.or_eq_true, Bool.and_eq_true, decide_eq_true_eq]
    constructor
    · rintro ⟨h1, h2⟩ j hj
      rcases Nat.eq_zero_or_pos j with rfl | hp
      · exact .inl h2
      · exact (h1 j hj).imp id (fun h => ⟨h, hp⟩)
    · intro h1
      refine ⟨fun j hj => (h1 j hj).imp id (fun h => h.1), ?_⟩
      rcases h1 0 (by omega) with h2 | h2
      · exact h2
      · omega

/-! ### Lists of names -/

def strAt (xs : List ByteArray) (j : Nat) : ByteArray := xs.getD j ByteArray.empty
theorem strAt_eq {xs : List ByteArray} {j : Nat} (h : j < xs.length) : strAt xs j = xs[j] := by simp [strAt, h]
theorem idx_str {xs : List ByteArray} {j : Nat} (h : j < xs.length) : idx xs (j : Int) = some (strAt xs j) := by rw [idx_lt h, strAt_eq h]
def neB (xs : List ByteArray) (j i : Nat) : Bool := !decide (strAt xs i = strAt xs j)
def namesB (xs : List ByteArray) : Bool := allN (fun j => nameB (strAt xs j) && allN (neB xs j) j) xs.length

theorem l05Names_ev {xs : List ByteArray} (h : okL okS xs) : Ev (fun n => spec_l05Names n xs) (namesB xs) := by
  have hl := h.len
  have hL2 : ∀ j, j < xs.length → Ev (fun n => spec_l05Names_L2 xs (j : Int) n 0) (bif allN (neB xs j) j then .nxt (j : Int) else .ret false) := by
    intro j hj
    refine ev_all ?_ (fun i hi X hX => Ev.succ ?_)
    · exact Ev.succ (by simp only [spec_l05Names_L2, lt_nat_f (Nat.le_refl _), cond_false]; exact .done)
    · simp only [spec_l05Names_L2, lt_nat_t hi, cond_true, idx_str (show i < xs.length by omega), idx_str hj, Option.bind_some, toList_eq_iff, w64_succ (show i < 9223372036854775807 by omega)]
      unfold neB
      cases decide (strAt xs i = strAt xs j)
      · exact hX
      · exact .done
  have hL1 : Ev (fun n => spec_l05Names_L1 xs n 0) (bif namesB xs then .nxt (xs.length : Int) else .ret false) := by
    refine ev_all ?_ (fun j hj X hX => Ev.succ ?_)
    · exact Ev.succ (by simp only [spec_l05Names_L1, lt_nat_f (Nat.le_refl _), cond_false]; exact .done)
    · simp only [spec_l05Names_L1, lt_nat_t hj, cond_true, idx_str hj, Option.bind_some, w64_succ (show j < 9223372036854775807 by omega)]
      refine Ev.bind (l03Name_ev (by rw [strAt_eq hj]; exact h.at hj)) ?_
      cases nameB (strAt xs j)
      · exact .done
      · refine Ev.ff rfl (Ev.bind (hL2 j hj) ?_)
        cases allN (neB xs j) j
        · exact .done
        · exact hX
  unfold spec_l05Names
  refine Ev.bind hL1 ?_
  cases namesB xs <;> exact .done

theorem strIndex_ev {xs : List ByteArray} {v : ByteArray} (hl : xs.length ≤ 1048576) : Ev (fun n => slices_Index_string n xs v) (ixL (fun x => decide (v = x)) xs) :=
  index_ev (fin := (xs.length : Int)) (Lf := slices_Index_string_L1 xs v) (pf := fun _ x => some (decide (v = x))) (fun _ _ => .done)
    (fun n => by simp only [slices_Index_string_L1, lt_nat_f (Nat.le_refl _), cond_false])
    (fun n j x hx => by
      have hj := (List.getElem?_eq_some_iff.1 hx).1
      simp only [slices_Index_string_L1, lt_nat_t hj, cond_true, idx_at hx, Option.bind_some, toList_eq_iff, w64_succ (show j < 9223372036854775807 by omega)])
    (fun n => by unfold slices_Index_string; congr 1; funext o; cases o <;> rfl)

theorem strContains_ev {xs : List ByteArray} {v : ByteArray} (hl : xs.length ≤ 1048576) : Ev (fun n => slices_Contains_string n xs v) (xs.any fun x => decide (v = x)) := by
  unfold slices_Contains_string
  exact Ev.bind (strIndex_ev hl) (Ev.now (by rw [ixL_ge]))

theorem areNames_ev {xs : List ByteArray} (h : okL okS xs) : Ev (fun n => impl_areNames n xs) (namesB xs) := by
  have hl := h.len
  have hL1 : Ev (fun n => impl_areNames_L1 xs n 0) (bif namesB xs then .nxt (xs.length : Int) else .ret false) := by
    refine ev_all ?_ (fun j hj X hX => Ev.succ ?_)
    · exact Ev.succ (by simp only [impl_areNames_L1, lt_nat_f (Nat.le_refl _), cond_false]; exact .done)
    · have hs : subS xs 0 (j : Int) = some (xs.take j) := by
        unfold subS
        rw [if_pos ⟨by omega, by omega, by omega⟩]
        simp
      simp only [impl_areNames_L1, lt_nat_t hj, cond_true, idx_str hj, Option.bind_some, hs, isName_eq (show okS (strAt xs j) by rw [strAt_eq hj]; exact h.at hj), w64_succ (show j < 9223372036854775807 by omega)]
      cases nameB (strAt xs j)
      · exact .done
      · refine Ev.ff rfl (Ev.bind (strContains_ev (by simp; omega)) ?_)
        have : ((xs.take j).any fun x => decide (strAt xs j = x)) = !allN (neB xs j) j := by
          rw [any_allN (d := ByteArray.empty)]
          congr 1
          rw [List.length_take, Nat.min_eq_left (by omega)]
          refine allN_congr (fun i hi => ?_)
          unfold neB strAt
          congr 1
          have : (xs.take j).getD i ByteArray.empty = xs.getD i ByteArray.empty := by simp [List.getD_eq_getElem?_getD, List.getElem?_take, hi]
          rw [this]
          exact decide_eq_decide.2 eq_comm
        rw [this]
        cases allN (neB xs j) j
        · exact .done
        · exact hX
  unfold impl_areNames
  refine Ev.bind hL1 ?_
  cases namesB xs <;> exact .done
end Go.Fw


namespace Go.Fw
open Go
set_option maxRecDepth 100000

theorem areWithin1_eq {n : Nat} {x lo hi : Int} : impl_areWithin_1 n x lo hi = some (!inI x lo hi) := by simp only [impl_areWithin_1, within_eq, Option.bind_some]

theorem areWithin_ev {xs : List Int} {lo hi : Int} (hl : xs.length ≤ 1048576) : Ev (fun n => impl_areWithin n xs lo hi) (xs.all fun x => inI x lo hi) := by
  have h1 : Ev (fun n => slices_IndexFunc_int64_impl_areWithin_1 n xs lo hi) (ixL (fun x => !inI x lo hi) xs) :=
    index_ev (fin := (xs.length : Int)) (Lf := slices_IndexFunc_int64_impl_areWithin_1_L1 xs lo hi) (pf := fun _ x => some (!inI x lo hi)) (fun _ _ => .done)
      (fun n => by simp only [slices_IndexFunc_int64_impl_areWithin_1_L1, lt_nat_f (Nat.le_refl _), cond_false])
      (fun n j x hx => by
        have hj := (List.getElem?_eq_some_iff.1 hx).1
        simp only [slices_IndexFunc_int64_impl_areWithin_1_L1, lt_nat_t hj, cond_true, idx_at hx, Option.bind_some, areWithin1_eq, w64_succ (show j < 9223372036854775807 by omega)])
      (fun n => by unfold slices_IndexFunc_int64_impl_areWithin_1; congr 1; funext o; cases o <;> rfl)
  unfold impl_areWithin slices_ContainsFunc_int64_impl_areWithin_1
  refine Ev.bind (Ev.bind h1 (Ev.now rfl)) (Ev.now ?_)
  rw [ixL_ge, not_any]

def stepB (xs : List Int) (j : Nat) : Bool := decide (j = 0) || decide (at0 xs (j - 1) < at0 xs j)
def incB (xs : List Int) : Bool := allN (stepB xs) xs.length

theorem isIncreasing_ev {xs : List Int} (hl : xs.length ≤ 1048576) : Ev (fun n => impl_isIncreasing n xs) (incB xs) := by
  have hL : Ev (fun n => impl_isIncreasing_L1 xs n 1) (bif incB xs then .nxt (max 1 xs.length : Int) else .ret false) := by
    by_cases h0 : xs.length = 0
    · have hb : incB xs = true := by unfold incB; rw [h0]; rfl
      rw [hb]
      refine Ev.succ ?_
      have : decide ((1 : Int) < (xs.length : Int)) = false := by rw [h0]; decide
      simp only [impl_isIncreasing_L1, this, cond_false]
      exact Ev.now (by rw [h0]; rfl)
    · have := ev_from (Lf := impl_isIncreasing_L1 xs) (len := xs.length) (i0 := 1) (f := stepB xs) (bad := false) (fin := .nxt (max 1 xs.length : Int)) (by omega)
        (Ev.succ (by
          simp only [impl_isIncreasing_L1, lt_nat_f (Nat.le_refl _), cond_false]
          exact Ev.now (by congr 2; omega)))
        (fun j h1 hj X hX => Ev.succ (by
          simp only [impl_isIncreasing_L1, lt_nat_t hj, cond_true, w64_succ (show j < 9223372036854775807 by omega), show (j : Int) - 1 = ((j - 1 : Nat) : Int) by omega, w64_of (show -9223372036854775808 ≤ ((j - 1 : Nat) : Int) by omega) (by omega), idx_at0 (show j - 1 < xs.length by omega), idx_at0 hj, Option.bind_some]
          unfold stepB
          by_cases hc : at0 xs (j - 1) < at0 xs j
          · have e1 : decide (at0 xs (j - 1) ≥ at0 xs j) = false := by simp; omega
            rw [e1]; simp only [hc, decide_true, Bool.or_true, cond_true, cond_false]; exact hX
          · have e1 : decide (at0 xs (j - 1) ≥ at0 xs j) = true := by simp; omega
            have e2 : decide (j = 0) = false := by simp; omega
            rw [e1, e2]; simp only [hc, decide_false, Bool.or_self, cond_true, cond_false]; exact .done))
      have e : allN (fun j => stepB xs (1 + j)) (xs.length - 1) = incB xs := by
        unfold incB
        rw [Bool.eq_iff_iff, allN_iff, allN_iff]
        constructor
        · intro h j hj
          cases j with
          | zero => rfl
          | succ j => have := h j (by omega); rwa [Nat.add_comm] at this
        · intro h j hj
          exact h (1 + j) (by omega)
      rw [e] at this
      exact this
  unfold impl_isIncreasing
  refine Ev.bind hL ?_
  cases incB xs <;> exact .done

def lenB {α : Type} (xs : List α) (lo hi : Nat) : Bool := decide (lo ≤ xs.length) && decide (xs.length ≤ hi)
theorem lenB_in {α : Type} {xs : List α} {lo hi : Nat} : inI (xs.length : Int) (lo : Int) (hi : Int) = lenB xs lo hi := by
  unfold inI lenB; rw [Bool.eq_iff_iff]; simp
def axisB (xs : List Int) : Bool := lenB xs 1 4 && ((xs.all fun x => inI x 0 100000) && incB xs)

theorem isAxis_ev {xs : List Int} (hl : xs.length ≤ 1048576) : Ev (fun n => impl_isAxis n xs) (axisB xs) := by
  simp only [impl_isAxis, impl_length_int64, Option.bind_some, within_eq, show inI (xs.length : Int) 1 4 = lenB xs 1 4 from lenB_in (lo := 1) (hi := 4)]
  unfold axisB
  cases lenB xs 1 4
  · exact .done
  · refine Ev.tt rfl (Ev.bind (areWithin_ev hl) ?_)
    cases (xs.all fun x => inI x 0 100000)
    · exact .done
    · exact Ev.tt rfl (Ev.bind (isIncreasing_ev hl) .done)

theorem l02Axis_ev {xs : List Int} (hl : xs.length ≤ 1048576) : Ev (fun n => spec_l02Axis n xs) (axisB xs) := by
  have hL : Ev (fun n => spec_l02Axis_L1 xs n 0) (bif allN (fun j => inI (at0 xs j) 0 100000 && stepB xs j) xs.length then .nxt (xs.length : Int) else .ret false) := by
    refine ev_all ?_ (fun j hj X hX => Ev.succ ?_)
    · exact Ev.succ (by simp only [spec_l02Axis_L1, lt_nat_f (Nat.le_refl _), cond_false]; exact .done)
    · simp only [spec_l02Axis_L1, lt_nat_t hj, cond_true, idx_at0 hj, Option.bind_some, l01In_eq, w64_succ (show j < 9223372036854775807 by omega)]
      cases inI (at0 xs j) 0 100000
      · exact .done
      · simp only [Bool.not_true, cond_false, Bool.true_and]
        unfold stepB
        by_cases h0 : j = 0
        · subst h0
          exact Ev.ff (by decide) hX
        · simp only [show (j : Int) - 1 = ((j - 1 : Nat) : Int) by omega, w64_of (show -9223372036854775808 ≤ ((j - 1 : Nat) : Int) by omega) (by omega), idx_at0 (show j - 1 < xs.length by omega), Option.bind_some]
          have e2 : decide (j = 0) = false := by simp; omega
          have e3 : decide ((j : Int) > 0) = true := by simp; omega
          rw [e2, e3]
          simp only [cond_true, Bool.false_or]
          by_cases hc : at0 xs (j - 1) < at0 xs j
          · have e1 : decide (at0 xs (j - 1) ≥ at0 xs j) = false := by simp; omega
            rw [e1]; simp only [hc, decide_true, cond_true, cond_false]; exact hX
          · have e1 : decide (at0 xs (j - 1) ≥ at0 xs j) = true := by simp; omega
            rw [e1]; simp only [hc, decide_false, cond_true, cond_false]; exact .done
  have e : axisB xs = (allN (fun j => inI (at0 xs j) 0 100000 && stepB xs j) xs.length && lenB xs 1 4) := by
    unfold axisB incB
    rw [allN_and, all_allN (d := 0), Bool.and_comm]
    rfl
  rw [e]
  unfold spec_l02Axis
  refine Ev.bind hL ?_
  cases allN (fun j => inI (at0 xs j) 0 100000 && stepB xs j) xs.length
  · exact .done
  · simp only [cond_true, bif_some, bif_and, Bool.true_and]
    exact Ev.now (by congr 1; unfold lenB; rw [Bool.eq_iff_iff]; simp; omega)

def tableB (t : TTable) : Bool := axisB t.Slews && (axisB t.Loads && (decide (t.Values.length = t.Slews.length * t.Loads.length) && (t.Values.all fun x => inI x (-1000000) 1000000)))

theorem mul_w64 {a b : Nat} (ha : a ≤ 1048576) (hb : b ≤ 1048576) : W64 ((a : Int) * (b : Int)) = ((a * b : Nat) : Int) := by
  have h : a * b ≤ 1048576 * 1048576 := Nat.mul_le_mul ha hb
  have e : (a : Int) * (b : Int) = ((a * b : Nat) : Int) := by simp
  rw [e]
  exact w64_of (by omega) (by omega)

theorem IsTable_ev {t : TTable} (h : ok_Table t) : Ev (fun n => impl_IsTable n t) (tableB t) := by
  unfold impl_IsTable tableB
  refine Ev.bind (isAxis_ev h.Slews.len) ?_
  cases axisB t.Slews
  · exact .done
  · refine Ev.tt rfl (Ev.bind (isAxis_ev h.Loads.len) ?_)
    cases axisB t.Loads
    · exact .done
    · rw [mul_w64 h.Slews.len h.Loads.len]
      have e : (((t.Values.length : Nat) : Int) == ((t.Slews.length * t.Loads.length : Nat) : Int)) = decide (t.Values.length = t.Slews.length * t.Loads.length) := by rw [Bool.eq_iff_iff]; simp [Int.natCast_inj]; omega
      rw [e]
      cases decide (t.Values.length = t.Slews.length * t.Loads.length)
      · exact .done
      · exact Ev.tt rfl (Ev.tt rfl (Ev.bind (areWithin_ev h.Values.len) .done))

theorem sIsTable_ev {t : TTable} (h : ok_Table t) : Ev (fun n => spec_IsTable n t) (tableB t) := by
  have hl := h.Values.len
  have hL : Ev (fun n => spec_IsTable_L1 t n 0) (bif (t.Values.all fun x => inI x (-1000000) 1000000) then .nxt (t.Values.length : Int) else .ret false) :=
    all_loop (fun n => by simp only [spec_IsTable_L1, lt_nat_f (Nat.le_refl _), cond_false]) (fun j hj X hX => by
      simp only [spec_IsTable_L1, lt_nat_t hj, cond_true, idx_lt hj, Option.bind_some, l01In_eq, w64_succ (show j < 9223372036854775807 by omega)]
      cases inI t.Values[j] (-1000000) 1000000
      · exact .done
      · exact hX)
  unfold spec_IsTable tableB
  refine Ev.bind (b := !(axisB t.Slews && (axisB t.Loads && decide (t.Values.length = t.Slews.length * t.Loads.length)))) ?_ ?_
  · refine Ev.bind (l02Axis_ev h.Slews.len) ?_
    cases axisB t.Slews
    · exact .done
    · refine Ev.ff rfl (Ev.bind (l02Axis_ev h.Loads.len) ?_)
      cases axisB t.Loads
      · exact .done
      · refine Ev.ff rfl (Ev.now ?_)
        rw [mul_w64 h.Slews.len h.Loads.len]
        congr 1
        rw [Bool.eq_iff_iff]; simp [Int.natCast_inj]; omega
  · cases axisB t.Slews
    · exact .done
    · cases axisB t.Loads
      · exact .done
      · cases decide (t.Values.length = t.Slews.length * t.Loads.length)
        · exact .done
        · refine Ev.ff rfl (Ev.bind hL ?_)
          cases (t.Values.all fun x => inI x (-1000000) 1000000) <;> exact .done
end Go.Fw


namespace Go.Fw
open Go

section
variable {α β : Type} {f g : Nat → Option Bool} {a b : Bool} {k : Nat → Option α} {X B : α}

theorem Ev.and (h1 : Ev f a) (h2 : a = true → Ev g b) : Ev (fun n => (f n).bind fun r => bif r then g n else some false) (a && b) := by
  refine Ev.bind h1 ?_
  cases a
  · exact .done
  · exact Ev.tt rfl (h2 rfl)
theorem Ev.andP (h2 : a = true → Ev g b) : Ev (fun n => bif a then g n else some false) (a && b) := by
  cases a
  · exact .done
  · exact Ev.tt rfl (h2 rfl)
theorem Ev.last (h1 : Ev f a) : Ev (fun n => (f n).bind fun r => some r) a := Ev.bind h1 .done
theorem Ev.neg (h1 : Ev f a) : Ev (fun n => (f n).bind fun r => some (!r)) (!a) := Ev.bind h1 .done
/-- An alternative that guards. -/
theorem Ev.or (h1 : Ev f a) (h2 : a = true → Ev g (!b)) : Ev (fun n => (f n).bind fun r => bif (!r) then some true else g n) (!(a && b)) := by
  refine Ev.bind h1 ?_
  cases a
  · exact .done
  · exact Ev.ff rfl (h2 rfl)
theorem Ev.guard {c : α} (h1 : Ev f (!a)) (h2 : a = true → Ev k (bif b then X else c)) : Ev (fun n => (f n).bind fun r => bif r then some c else k n) (bif a && b then X else c) := by
  refine Ev.bind h1 ?_
  cases a
  · exact .done
  · exact Ev.ff rfl (h2 rfl)
/-- The same for an answer that is a truth value. -/
theorem Ev.guardB (h1 : Ev f (!a)) (h2 : a = true → Ev g b) : Ev (fun n => (f n).bind fun r => bif r then some false else g n) (a && b) := by
  refine Ev.bind h1 ?_
  cases a
  · exact .done
  · exact Ev.ff rfl (h2 rfl)
theorem Ev.chk (h1 : Ev f a) (h2 : a = true → Ev k (bif b then X else B)) : Ev (fun n => (f n).bind fun r => bif (!r) then some B else k n) (bif a && b then X else B) := by
  refine Ev.bind h1 ?_
  cases a
  · exact .done
  · exact Ev.ff rfl (h2 rfl)
theorem Ev.chkT (h1 : Ev f (!a)) (h2 : a = true → Ev k (bif b then X else B)) : Ev (fun n => (f n).bind fun r => bif r then some B else k n) (bif a && b then X else B) := Ev.guard h1 h2
theorem Ev.chkT1 (h1 : Ev f (!a)) (h2 : a = true → Ev k X) : Ev (fun n => (f n).bind fun r => bif r then some B else k n) (bif a then X else B) := by
  refine Ev.bind h1 ?_
  cases a
  · exact .done
  · exact Ev.ff rfl (h2 rfl)
theorem Ev.chk1 (h1 : Ev f a) (h2 : a = true → Ev k X) : Ev (fun n => (f n).bind fun r => bif (!r) then some B else k n) (bif a then X else B) := by
  refine Ev.bind h1 ?_
  cases a
  · exact .done
  · exact Ev.ff rfl (h2 rfl)
theorem Ev.chkP1 (h2 : a = false → Ev k X) : Ev (fun n => bif a then some B else k n) (bif !a then X else B) := by
  cases a
  · exact Ev.ff rfl (h2 rfl)
  · exact .done
theorem Ev.ok (h1 : Ev f a) (h2 : a = true → Ev k (bif b then X else B)) : Ev (fun n => (f n).bind fun r => bif r then k n else some B) (bif a && b then X else B) := by
  refine Ev.bind h1 ?_
  cases a
  · exact .done
  · exact Ev.tt rfl (h2 rfl)
theorem Ev.ok1 (h1 : Ev f a) (h2 : a = true → Ev k X) : Ev (fun n => (f n).bind fun r => bif r then k n else some B) (bif a then X else B) := by
  refine Ev.bind h1 ?_
  cases a
  · exact .done
  · exact Ev.tt rfl (h2 rfl)
theorem Ev.okP (h2 : a = true → Ev k (bif b then X else B)) : Ev (fun n => bif a then k n else some B) (bif a && b then X else B) := by
  cases a
  · exact .done
  · exact Ev.tt rfl (h2 rfl)
theorem Ev.okP1 (h2 : a = true → Ev k X) : Ev (fun n => bif a then k n else some B) (bif a then X else B) := by
  cases a
  · exact .done
  · exact Ev.tt rfl (h2 rfl)
/-- A guard in the form of an alternative, turned. -/
theorem Ev.orB (h1 : Ev f a) (h2 : a = true → Ev g (!b)) : Ev (fun n => (f n).bind fun r => bif r then g n else some true) (!(a && b)) := by
  refine Ev.bind h1 ?_
  cases a
  · exact .done
  · exact Ev.tt rfl (h2 rfl)
theorem Ev.orBP (h2 : a = true → Ev g (!b)) : Ev (fun n => bif a then g n else some true) (!(a && b)) := by
  cases a
  · exact .done
  · exact Ev.tt rfl (h2 rfl)
end

/-- A place of a list. -/
def gt {α : Type} [Inhabited α] (xs : List α) (j : Nat) : α := xs.getD j default
theorem gt_eq {α : Type} [Inhabited α] {xs : List α} {j : Nat} (h : j < xs.length) : gt xs j = xs[j] := by simp [gt, h]
theorem idx_gt {α : Type} [Inhabited α] {xs : List α} {j : Nat} (h : j < xs.length) : idx xs (j : Int) = some (gt xs j) := by rw [idx_lt h, gt_eq h]
theorem gt_ok {α : Type} [Inhabited α] {ok : α → Prop} {xs : List α} (h : okL ok xs) {j : Nat} (hj : j < xs.length) : ok (gt xs j) := by rw [gt_eq hj]; exact h.at hj
theorem gt_take {α : Type} [Inhabited α] {xs : List α} {j i : Nat} (h : i < j) : gt (xs.take j) i = gt xs i := by simp [gt, List.getD_eq_getElem?_getD, List.getElem?_take, h]
theorem all_gt {α : Type} [Inhabited α] {p : α → Bool} {xs : List α} : xs.all p = allN (fun j => p (gt xs j)) xs.length := all_allN
theorem any_gt {α : Type} [Inhabited α] {p : α → Bool} {xs : List α} : xs.any p = !allN (fun j => !p (gt xs j)) xs.length := any_allN
theorem any_take {α : Type} [Inhabited α] {p : α → Bool} {xs : List α} {j : Nat} (h : j ≤ xs.length) : (xs.take j).any p = !allN (fun i => !p (gt xs i)) j := by
  rw [any_gt, List.length_take, Nat.min_eq_left h]
  congr 1
  exact allN_congr (fun i hi => by rw [gt_take hi])
theorem take_succ_gt {α β : Type} [Inhabited α] {xs : List α} {g : α → β} {j : Nat} (h : j < xs.length) : (xs.take j).map g ++ [g (gt xs j)] = (xs.take (j + 1)).map g := by
  rw [gt_eq h, List.take_succ_eq_append_getElem h, List.map_append, List.map_cons, List.map_nil]
theorem last_eq {j m : Nat} (h : j < m) : ((j : Int) == W64 ((m : Int) - 1)) = decide (j + 1 = m) ∨ 9223372036854775807 < m := by
  by_cases hm : m ≤ 9223372036854775807
  · refine .inl ?_
    rw [w64_of (by omega) (by omega), Bool.eq_iff_iff]
    simp
    omega
  · exact .inr (by omega)

/-- A loop that checks, with a state that is known at every turn. -/
theorem loopN {ρ σ τ : Type} {Lf : Nat → τ → Int → Option (Flow ρ σ)} (S : Nat → τ) (p : Nat → Bool) {len : Nat} {bad : ρ} {fin : σ}
    (hend : ∀ n, Lf (n + 1) (S len) (len : Int) = some (.nxt fin))
    (hstep : ∀ j, j < len → (∀ i, i < j → p i = true) → ∀ X, (p j = true → Ev (fun n => Lf n (S (j + 1)) ((j + 1 : Nat) : Int)) X) → Ev (fun n => Lf (n + 1) (S j) (j : Int)) (bif p j then X else .ret bad)) :
    Ev (fun n => Lf n (S 0) 0) (bif allN p len then .nxt fin else .ret bad) := by
  have main : ∀ k j, j + k = len → (∀ i, i < j → p i = true) → Ev (fun n => Lf n (S j) (j : Int)) (bif allN p len then .nxt fin else .ret bad) := by
    intro k
    induction k with
    | zero =>
      intro j hj hp
      obtain rfl : j = len := by omega
      rw [show allN p j = true from allN_iff.2 hp]
      exact Ev.step hend .done
    | succ k ih =>
      intro j hj hp
      refine (Ev.succ (hstep j (by omega) hp _ (fun hc => ih (j + 1) (by omega) (fun i hi => by
        rcases Nat.lt_succ_iff_lt_or_eq.1 hi with h | rfl
        · exact hp i h
        · exact hc)))).cast ?_
      cases hc : p j with
      | true => rfl
      | false =>
        rw [show allN p len = false from allN_false.2 ⟨j, by omega, hc⟩]
        rfl
  have := main len 0 (by omega) (fun i hi => absurd hi (Nat.not_lt_zero _))
  exact this

/-- A loop that builds, with a state that is known at every turn. -/
theorem loopF {ρ τ : Type} {Lf : Nat → τ → Int → Option ρ} (S : Nat → τ) {len : Nat} {fin : ρ}
    (hend : ∀ n, Lf (n + 1) (S len) (len : Int) = some fin)
    (hstep : ∀ j, j < len → ∀ X, Ev (fun n => Lf n (S (j + 1)) ((j + 1 : Nat) : Int)) X → Ev (fun n => Lf (n + 1) (S j) (j : Int)) X) :
    Ev (fun n => Lf n (S 0) 0) fin :=
  down (P := fun j => Ev (fun n => Lf n (S j) (j : Int)) fin) len (Ev.step hend .done) (fun j hj ih => Ev.succ (hstep j hj _ ih))

/-! ### Counts -/

def cntP (q : Nat → Bool) : Nat → Nat
  | 0 => 0
  | n + 1 => cntP q n + (bif q n then 1 else 0)
theorem cntP_le {q : Nat → Bool} {n : Nat} : cntP q n ≤ n := by
  induction n with
  | zero => exact Nat.le_refl _
  | succ n ih => unfold cntP; cases q n <;> simp only [cond_true, cond_false] <;> omega
theorem cntP_zero {q : Nat → Bool} {n : Nat} : cntP q n = 0 ↔ ∀ j, j < n → q j = false := by
  induction n with
  | zero => simp [cntP]
  | succ n ih =>
    unfold cntP
    constructor
    · intro h j hj
      have h1 : cntP q n = 0 := by omega
      rcases Nat.lt_succ_iff_lt_or_eq.1 hj with h2 | rfl
      · exact ih.1 h1 j h2
      · cases hq : q j with
        | false => rfl
        | true => rw [hq] at h; simp at h
    · intro h
      rw [ih.2 (fun j hj => h j (by omega)), h n (by omega)]
      rfl
theorem cntP_pos {q : Nat → Bool} {n : Nat} : decide (0 < cntP q n) = !allN (fun j => !q j) n := by
  rw [Bool.eq_iff_iff, decide_eq_true_iff, Bool.not_eq_true', allN_false, Nat.pos_iff_ne_zero, Ne, cntP_zero]
  simp
/-- The counts of one key at a time. -/
def vecC (c : Nat → Nat) (m : Nat) : List Int := (List.range m).map fun k => (c k : Int)
theorem vecC_len {c : Nat → Nat} {m : Nat} : (vecC c m).length = m := by simp [vecC]
theorem vecC_at0 {c : Nat → Nat} {m k : Nat} (h : k < m) : at0 (vecC c m) k = (c k : Int) := by simp [at0, vecC, h]
theorem vecC_idx {c : Nat → Nat} {m k : Nat} (h : k < m) : idx (vecC c m) (k : Int) = some (c k : Int) := by rw [idx_at0 (by rw [vecC_len]; exact h), vecC_at0 h]
theorem vecC_congr {c d : Nat → Nat} {m : Nat} (h : ∀ k, k < m → c k = d k) : vecC c m = vecC d m := by
  unfold vecC
  refine List.map_congr_left (fun k hk => ?_)
  rw [h k (List.mem_range.1 hk)]
theorem vecC_zero {m : Nat} (h : m ≤ 2147483648) : mkS (m : Int) (0 : Int) = some (vecC (fun _ => 0) m) := by
  unfold mkS big
  rw [if_pos ⟨by omega, by omega⟩]
  congr 1
  refine List.ext_getElem (by simp [vecC]) (fun k h1 h2 => ?_)
  simp [vecC]
theorem vecC_bump {c : Nat → Nat} {m k : Nat} (hc : c k < 9223372036854775807) : setS (vecC c m) (k : Int) (W64 ((c k : Int) + 1)) = vecC (fun i => c i + (bif decide (k = i) then 1 else 0)) m := by
  rw [w64_succ hc]
  unfold setS
  refine List.ext_getElem (by simp [vecC]) (fun i h1 h2 => ?_)
  rw [List.getElem_set]
  show (if k = i then _ else _) = _
  by_cases hk : k = i
  · subst hk; simp [vecC]
  · simp [vecC, hk]
theorem nat_of {x : Int} (h : 0 ≤ x) : x = (x.toNat : Int) := by omega
/-- A part of a list from its beginning. -/
theorem subS_take {α : Type} {xs : List α} {j : Nat} (h : j ≤ xs.length) : subS xs 0 (j : Int) = some (xs.take j) := by
  unfold subS
  rw [if_pos ⟨by omega, by omega, by omega⟩]
  simp
theorem w64_pred {m : Nat} (h : m ≤ 9223372036854775807) : W64 ((m : Int) - 1) = (m : Int) - 1 := w64_of (by omega) (by omega)
end Go.Fw
