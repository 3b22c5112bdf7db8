/- By a program of mine (gen.py): for each function a plain function and the proof that the code computes it. -/
import Derived.Test.YthcphhbmdpepkaaGreatDoorA1

namespace Go.Fw
open Go Go.Proofs
open Go.RowKit (Below)
set_option maxRecDepth 100000
def laws_eqPin (_ : Nat) (a : TPin) (b : TPin) : Option Bool :=
  bif (a.Name.toList != b.Name.toList) then
    some false
  else
    bif (a.Dir != b.Dir) then
      some false
    else
      bif (a.Cap != b.Cap) then
        some false
      else
        bif (!(a.Clock == b.Clock)) then
          some false
        else
          some true

theorem laws_eqPin_ok {n : Nat} {w : World} {a : TPin} {b : TPin} {cs1 : List Value} (ha1 : GoT.R w (old w) a cs1) {cs2 : List Value} (ha2 : GoT.R w (old w) b cs2) {r : Bool} (hF : laws_eqPin n a b = some r) : RetV Tryz.prog 175 [GoT.v TPin cs1, GoT.v TPin cs2] w r := by
  obtain rfl := open_TPin ha1
  obtain rfl := open_TPin ha2
  refine retV_of_run Tryz.func175 rfl (m := 25) rfl rfl (fun h => ?_)
  rw [laws_eqPin] at hF
  refine r_seq (r_region (r_box h rfl rfl ?_))
  intro w1 bb1 h
  refine r_box h rfl rfl ?_
  intro w2 bb2 h
  refine rp rfl rfl (r_nil (r_seq (r_seq (r_region (rp rfl rfl (r_v (v_ld tabOk (h.box 1 rfl) (j := 0) rfl rfl rfl) rfl (rp rfl rfl (r_v (v_ld tabOk (h.box 0 rfl) (j := 0) rfl rfl rfl) rfl (rp rfl rfl (r_nil ?_))))))))))
  refine r_if rfl hF (fun hF => ?_) (fun hF => ?_)
  · exact r_seq (r_region (rp rfl rfl (r_nil (r_rB tabOk h hF ⟨rfl, trivial⟩))))
  refine r_skip (r_seq (r_seq (r_region (rp rfl rfl (r_v (v_ld tabOk (h.box 1 rfl) (j := 1) rfl rfl rfl) rfl (rp rfl rfl (r_v (v_ld tabOk (h.box 0 rfl) (j := 1) rfl rfl rfl) rfl (rp rfl rfl (r_nil ?_)))))))))
  refine r_if rfl hF (fun hF => ?_) (fun hF => ?_)
  · exact r_seq (r_region (rp rfl rfl (r_nil (r_rB tabOk h hF ⟨rfl, trivial⟩))))
  refine r_skip (r_seq (r_seq (r_region (rp rfl rfl (r_v (v_ld tabOk (h.box 1 rfl) (j := 2) rfl rfl rfl) rfl (rp rfl rfl (r_v (v_ld tabOk (h.box 0 rfl) (j := 2) rfl rfl rfl) rfl (rp rfl rfl (r_nil ?_)))))))))
  refine r_if rfl hF (fun hF => ?_) (fun hF => ?_)
  · exact r_seq (r_region (rp rfl rfl (r_nil (r_rB tabOk h hF ⟨rfl, trivial⟩))))
  refine r_skip (r_seq (r_seq (r_region (rp rfl rfl (r_v (v_ld tabOk (h.box 1 rfl) (j := 3) rfl rfl rfl) rfl (rp rfl rfl (r_v (v_ld tabOk (h.box 0 rfl) (j := 3) rfl rfl rfl) rfl (rp rfl rfl (r_nil ?_)))))))))
  refine r_if rfl hF (fun hF => ?_) (fun hF => ?_)
  · exact r_seq (r_region (rp rfl rfl (r_nil (r_rB tabOk h hF ⟨rfl, trivial⟩))))
  exact r_skip (r_seq (r_region (rp rfl rfl (r_nil (r_rB tabOk h hF ⟨rfl, trivial⟩)))))

def laws_eqPinS_L1 (a : (List TPin)) (b : (List TPin)) : Nat → Int → Option (Flow Bool Int)
  | 0, _ => none
  | n + 1, i1 =>
    bif decide (i1 < (a.length : Int)) then
      (idx a i1).bind fun y1 =>
      (idx b i1).bind fun y2 =>
      (laws_eqPin n y1 y2).bind fun r1 =>
      bif (!r1) then
        some (.ret false)
      else
        laws_eqPinS_L1 a b n (W64 (i1 + 1))
    else
      some (.nxt i1)

def laws_eqPinS (n : Nat) (a : (List TPin)) (b : (List TPin)) : Option Bool :=
  bif ((a.length : Int) != (b.length : Int)) then
    some false
  else
    (laws_eqPinS_L1 a b n 0).bind fun o => match o with
    | .ret r => some r
    | .nxt _ =>
      some true

theorem laws_eqPinS_ok {n : Nat} {w : World} {a : (List TPin)} {b : (List TPin)} {cs1 : List Value} (ha1 : GoT.R w (old w) a cs1) {cs2 : List Value} (ha2 : GoT.R w (old w) b cs2) {r : Bool} (hF : laws_eqPinS n a b = some r) : RetV Tryz.prog 160 [GoT.v (List TPin) cs1, GoT.v (List TPin) cs2] w r := by
  obtain ⟨p1, k1, rfl, s1⟩ := ha1
  obtain ⟨p2, k2, rfl, s2⟩ := ha2
  refine retV_of_run Tryz.func160 rfl (m := 27) rfl rfl (fun h => ?_)
  rw [laws_eqPinS] at hF
  refine r_seq (r_region (rp rfl rfl (r_nil (r_seq (r_seq (r_region (rp rfl rfl (rp rfl rfl (rp rfl rfl (rp rfl rfl (rp rfl rfl ?_)))))))))))
  refine r_nil ?_
  refine r_if rfl hF (fun hF => ?_) (fun hF => ?_)
  · exact r_seq (r_region (rp rfl rfl (r_nil (r_rB tabOk h hF ⟨rfl, trivial⟩))))
  refine r_skip (r_seq (r_seq (r_region (rp rfl rfl (r_nil ?_)))))
  obtain ⟨o1, hF, hK1⟩ := bindS hF
  refine r_block (r_sub [(0, _), (1, _), (5, _)] ⟨rfl, rfl, rfl, trivial⟩ ?_)
  refine r_loop (fun m e w' => ∃ (i1 : Int), laws_eqPinS_L1 a b m i1 = some o1 ∧ e = [(0, .slice p1 a.length k1), (1, .slice p2 b.length k2), (5, .int .i64 i1)] ∧ SH w w' []) n ⟨_, hF, rfl, h⟩ ?_
  rintro m1 e1 w1 ⟨i1, hF, rfl, h⟩
  rcases m1 with _ | m1
  · rw [laws_eqPinS_L1] at hF
    cases hF
  rw [laws_eqPinS_L1] at hF
  refine r_seq (r_seq (r_region (rp rfl rfl (rp rfl rfl (rp rfl rfl (rp rfl rfl (r_nil ?_)))))))
  refine r_if rfl hF (fun hF => ?_) (fun hF => ?_)
  · refine r_skip (r_seq (r_block (r_seq ?_)))
    refine r_draw rfl (by kernel_rfl) ?_
    refine dp rfl rfl (dp rfl rfl ?_)
    obtain ⟨y1, hy1, hF⟩ := bindS hF
    have he1 := idx_some hy1
    obtain ⟨b1, o_1, q1, cs3, hp1, hq1, -, hr1, hc3⟩ := s1.at hy1
    obtain rfl := open_TPin hr1
    refine d_v (fun _ hb => v_ix tabOk hp1 hq1 ⟨he1.1, he1.2.1⟩ rfl rfl rfl rfl rfl rfl) rfl ?_
    refine d_v (fun _ hb => v_ld tabOk ((hc3.below h.below).below hb) (j := 0) rfl rfl rfl) rfl ?_
    refine dp rfl rfl (dp rfl rfl ?_)
    obtain ⟨y2, hy2, hF⟩ := bindS hF
    have he2 := idx_some hy2
    obtain ⟨b2, o_2, q2, cs4, hp2, hq2, -, hr2, hc4⟩ := s2.at hy2
    obtain rfl := open_TPin hr2
    refine d_v (fun _ hb => v_ix tabOk hp2 hq2 ⟨he2.1, he2.2.1⟩ rfl rfl rfl rfl rfl rfl) rfl ?_
    refine d_v (fun _ hb => v_ld tabOk ((hc4.below h.below).below hb) (j := 0) rfl rfl rfl) rfl ?_
    obtain ⟨r1, hr3, hF⟩ := bindS hF
    refine d_call r1 (vsB _) call175 (fun _ hb => laws_eqPin_ok (mkR_TPin y1) (mkR_TPin y2) hr3) rfl rfl rfl rfl ?_
    refine dp rfl rfl ?_
    refine d_nil (fun w2 hb => ?_)
    replace h := h.ext hb
    clear hb
    refine r_if rfl hF (fun hF => ?_) (fun hF => ?_)
    · refine r_seq (r_region (rp rfl rfl (r_nil ?_)))
      obtain rfl := someI hF; replace hF := hK1
      exact r_rB tabOk h hF ⟨rfl, trivial⟩
    exact r_skip (r_blk (r_region (rp rfl rfl (rp rfl rfl (rp rfl rfl (r_nil (r_back m1 [(0, _), (1, _), (5, _)] (Nat.lt_succ_self m1) ⟨rfl, rfl, rfl, trivial⟩ ⟨_, hF, rfl, h⟩)))))))
  refine r_exit rfl ?_
  obtain rfl := someI hF; replace hF := hK1
  exact r_seq (r_region (rp rfl rfl (r_nil (r_rB tabOk h hF ⟨rfl, trivial⟩))))

def laws_eqTable (n : Nat) (a : TTable) (b : TTable) : Option Bool :=
  (laws_eqInt64S n a.Slews b.Slews).bind fun r1 =>
  bif (!r1) then
    some false
  else
    (laws_eqInt64S n a.Loads b.Loads).bind fun r2 =>
    bif (!r2) then
      some false
    else
      (laws_eqInt64S n a.Values b.Values).bind fun r3 =>
      bif (!r3) then
        some false
      else
        some true

theorem laws_eqTable_ok {n : Nat} {w : World} {a : TTable} {b : TTable} {cs1 : List Value} (ha1 : GoT.R w (old w) a cs1) {cs2 : List Value} (ha2 : GoT.R w (old w) b cs2) {r : Bool} (hF : laws_eqTable n a b = some r) : RetV Tryz.prog 203 [GoT.v TTable cs1, GoT.v TTable cs2] w r := by
  obtain ⟨p1, k1, p2, k2, p3, k3, rfl, s1, s2, s3⟩ := open_TTable ha1
  obtain ⟨p4, k4, p5, k5, p6, k6, rfl, s4, s5, s6⟩ := open_TTable ha2
  refine retV_of_run Tryz.func203 rfl (m := 23) rfl rfl (fun h => ?_)
  rw [laws_eqTable] at hF
  refine r_seq (r_region (r_box h rfl rfl ?_))
  intro w1 bb1 h
  refine r_box h rfl rfl ?_
  intro w2 bb2 h
  refine rp rfl rfl (r_nil (r_seq (r_seq (r_region (rp rfl rfl (r_v (v_ld tabOk (h.box 1 rfl) (j := 0) rfl rfl rfl) rfl (rp rfl rfl (r_v (v_ld tabOk (h.box 0 rfl) (j := 0) rfl rfl rfl) rfl ?_))))))))
  obtain ⟨r1, hr1, hF⟩ := bindS hF
  refine r_callB r1 h call22 (laws_eqInt64S_ok ⟨_, _, rfl, (h.oldS s1)⟩ ⟨_, _, rfl, (h.oldS s4)⟩ hr1) rfl rfl rfl rfl ?_
  intro w3 h
  refine rp rfl rfl (r_nil ?_)
  refine r_if rfl hF (fun hF => ?_) (fun hF => ?_)
  · exact r_seq (r_region (rp rfl rfl (r_nil (r_rB tabOk h hF ⟨rfl, trivial⟩))))
  refine r_skip (r_seq (r_seq (r_region (rp rfl rfl (r_v (v_ld tabOk (h.box 1 rfl) (j := 1) rfl rfl rfl) rfl (rp rfl rfl (r_v (v_ld tabOk (h.box 0 rfl) (j := 1) rfl rfl rfl) rfl ?_)))))))
  obtain ⟨r2, hr2, hF⟩ := bindS hF
  refine r_callB r2 h call22 (laws_eqInt64S_ok ⟨_, _, rfl, (h.oldS s2)⟩ ⟨_, _, rfl, (h.oldS s5)⟩ hr2) rfl rfl rfl rfl ?_
  intro w4 h
  refine rp rfl rfl (r_nil ?_)
  refine r_if rfl hF (fun hF => ?_) (fun hF => ?_)
  · exact r_seq (r_region (rp rfl rfl (r_nil (r_rB tabOk h hF ⟨rfl, trivial⟩))))
  refine r_skip (r_seq (r_seq (r_region (rp rfl rfl (r_v (v_ld tabOk (h.box 1 rfl) (j := 2) rfl rfl rfl) rfl (rp rfl rfl (r_v (v_ld tabOk (h.box 0 rfl) (j := 2) rfl rfl rfl) rfl ?_)))))))
  obtain ⟨r3, hr3, hF⟩ := bindS hF
  refine r_callB r3 h call22 (laws_eqInt64S_ok ⟨_, _, rfl, (h.oldS s3)⟩ ⟨_, _, rfl, (h.oldS s6)⟩ hr3) rfl rfl rfl rfl ?_
  intro w5 h
  refine rp rfl rfl (r_nil ?_)
  refine r_if rfl hF (fun hF => ?_) (fun hF => ?_)
  · exact r_seq (r_region (rp rfl rfl (r_nil (r_rB tabOk h hF ⟨rfl, trivial⟩))))
  exact r_skip (r_seq (r_region (rp rfl rfl (r_nil (r_rB tabOk h hF ⟨rfl, trivial⟩)))))

def laws_eqTableS_L1 (a : (List TTable)) (b : (List TTable)) : Nat → Int → Option (Flow Bool Int)
  | 0, _ => none
  | n + 1, i1 =>
    bif decide (i1 < (a.length : Int)) then
      (idx a i1).bind fun y1 =>
      (idx b i1).bind fun y2 =>
      (laws_eqTable n y1 y2).bind fun r1 =>
      bif (!r1) then
        some (.ret false)
      else
        laws_eqTableS_L1 a b n (W64 (i1 + 1))
    else
      some (.nxt i1)

def laws_eqTableS (n : Nat) (a : (List TTable)) (b : (List TTable)) : Option Bool :=
  bif ((a.length : Int) != (b.length : Int)) then
    some false
  else
    (laws_eqTableS_L1 a b n 0).bind fun o => match o with
    | .ret r => some r
    | .nxt _ =>
      some true

theorem laws_eqTableS_ok {n : Nat} {w : World} {a : (List TTable)} {b : (List TTable)} {cs1 : List Value} (ha1 : GoT.R w (old w) a cs1) {cs2 : List Value} (ha2 : GoT.R w (old w) b cs2) {r : Bool} (hF : laws_eqTableS n a b = some r) : RetV Tryz.prog 186 [GoT.v (List TTable) cs1, GoT.v (List TTable) cs2] w r := by
  obtain ⟨p1, k1, rfl, s1⟩ := ha1
  obtain ⟨p2, k2, rfl, s2⟩ := ha2
  refine retV_of_run Tryz.func186 rfl (m := 27) rfl rfl (fun h => ?_)
  rw [laws_eqTableS] at hF
  refine r_seq (r_region (rp rfl rfl (r_nil (r_seq (r_seq (r_region (rp rfl rfl (rp rfl rfl (rp rfl rfl (rp rfl rfl (rp rfl rfl ?_)))))))))))
  refine r_nil ?_
  refine r_if rfl hF (fun hF => ?_) (fun hF => ?_)
  · exact r_seq (r_region (rp rfl rfl (r_nil (r_rB tabOk h hF ⟨rfl, trivial⟩))))
  refine r_skip (r_seq (r_seq (r_region (rp rfl rfl (r_nil ?_)))))
  obtain ⟨o1, hF, hK1⟩ := bindS hF
  refine r_block (r_sub [(0, _), (1, _), (5, _)] ⟨rfl, rfl, rfl, trivial⟩ ?_)
  refine r_loop (fun m e w' => ∃ (i1 : Int), laws_eqTableS_L1 a b m i1 = some o1 ∧ e = [(0, .slice p1 a.length k1), (1, .slice p2 b.length k2), (5, .int .i64 i1)] ∧ SH w w' []) n ⟨_, hF, rfl, h⟩ ?_
  rintro m1 e1 w1 ⟨i1, hF, rfl, h⟩
  rcases m1 with _ | m1
  · rw [laws_eqTableS_L1] at hF
    cases hF
  rw [laws_eqTableS_L1] at hF
  refine r_seq (r_seq (r_region (rp rfl rfl (rp rfl rfl (rp rfl rfl (rp rfl rfl (r_nil ?_)))))))
  refine r_if rfl hF (fun hF => ?_) (fun hF => ?_)
  · refine r_skip (r_seq (r_block (r_seq ?_)))
    refine r_draw rfl (by kernel_rfl) ?_
    refine dp rfl rfl (dp rfl rfl ?_)
    obtain ⟨y1, hy1, hF⟩ := bindS hF
    have he1 := idx_some hy1
    obtain ⟨b1, o_1, q1, cs3, hp1, hq1, -, hr1, hc3⟩ := s1.at hy1
    obtain ⟨p3, k3, p4, k4, p5, k5, rfl, s3, s4, s5⟩ := open_TTable hr1
    refine d_v (fun _ hb => v_ix tabOk hp1 hq1 ⟨he1.1, he1.2.1⟩ rfl rfl rfl rfl rfl rfl) rfl ?_
    refine d_v (fun _ hb => v_ld tabOk ((hc3.below h.below).below hb) (j := 0) rfl rfl rfl) rfl ?_
    refine dp rfl rfl (dp rfl rfl ?_)
    obtain ⟨y2, hy2, hF⟩ := bindS hF
    have he2 := idx_some hy2
    obtain ⟨b2, o_2, q2, cs4, hp2, hq2, -, hr2, hc4⟩ := s2.at hy2
    obtain ⟨p6, k6, p7, k7, p8, k8, rfl, s6, s7, s8⟩ := open_TTable hr2
    refine d_v (fun _ hb => v_ix tabOk hp2 hq2 ⟨he2.1, he2.2.1⟩ rfl rfl rfl rfl rfl rfl) rfl ?_
    refine d_v (fun _ hb => v_ld tabOk ((hc4.below h.below).below hb) (j := 0) rfl rfl rfl) rfl ?_
    obtain ⟨r1, hr3, hF⟩ := bindS hF
    refine d_call r1 (vsB _) call203 (fun _ hb => laws_eqTable_ok (mkR_TTable y1 ((h.ext hb).oldS s3) ((h.ext hb).oldS s4) ((h.ext hb).oldS s5)) (mkR_TTable y2 ((h.ext hb).oldS s6) ((h.ext hb).oldS s7) ((h.ext hb).oldS s8)) hr3) rfl rfl rfl rfl ?_
    refine dp rfl rfl ?_
    refine d_nil (fun w2 hb => ?_)
    replace h := h.ext hb
    clear hb
    refine r_if rfl hF (fun hF => ?_) (fun hF => ?_)
    · refine r_seq (r_region (rp rfl rfl (r_nil ?_)))
      obtain rfl := someI hF; replace hF := hK1
      exact r_rB tabOk h hF ⟨rfl, trivial⟩
    exact r_skip (r_blk (r_region (rp rfl rfl (rp rfl rfl (rp rfl rfl (r_nil (r_back m1 [(0, _), (1, _), (5, _)] (Nat.lt_succ_self m1) ⟨rfl, rfl, rfl, trivial⟩ ⟨_, hF, rfl, h⟩)))))))
  refine r_exit rfl ?_
  obtain rfl := someI hF; replace hF := hK1
  exact r_seq (r_region (rp rfl rfl (r_nil (r_rB tabOk h hF ⟨rfl, trivial⟩))))

def laws_eqArc (n : Nat) (a : TArc) (b : TArc) : Option Bool :=
  bif (a.Kind != b.Kind) then
    some false
  else
    bif (a.From != b.From) then
      some false
    else
      bif (a.To != b.To) then
        some false
      else
        bif (a.Sense != b.Sense) then
          some false
        else
          (laws_eqTableS n a.Delay b.Delay).bind fun r1 =>
          bif (!r1) then
            some false
          else
            (laws_eqTableS n a.Slew b.Slew).bind fun r2 =>
            bif (!r2) then
              some false
            else
              some true

theorem laws_eqArc_ok {n : Nat} {w : World} {a : TArc} {b : TArc} {cs1 : List Value} (ha1 : GoT.R w (old w) a cs1) {cs2 : List Value} (ha2 : GoT.R w (old w) b cs2) {r : Bool} (hF : laws_eqArc n a b = some r) : RetV Tryz.prog 176 [GoT.v TArc cs1, GoT.v TArc cs2] w r := by
  obtain ⟨p1, k1, p2, k2, rfl, s1, s2⟩ := open_TArc ha1
  obtain ⟨p3, k3, p4, k4, rfl, s3, s4⟩ := open_TArc ha2
  refine retV_of_run Tryz.func176 rfl (m := 37) rfl rfl (fun h => ?_)
  rw [laws_eqArc] at hF
  refine r_seq (r_region (r_box h rfl rfl ?_))
  intro w1 bb1 h
  refine r_box h rfl rfl ?_
  intro w2 bb2 h
  refine rp rfl rfl (r_nil (r_seq (r_seq (r_region (rp rfl rfl (r_v (v_ld tabOk (h.box 1 rfl) (j := 0) rfl rfl rfl) rfl (rp rfl rfl (r_v (v_ld tabOk (h.box 0 rfl) (j := 0) rfl rfl rfl) rfl (rp rfl rfl (r_nil ?_))))))))))
  refine r_if rfl hF (fun hF => ?_) (fun hF => ?_)
  · exact r_seq (r_region (rp rfl rfl (r_nil (r_rB tabOk h hF ⟨rfl, trivial⟩))))
  refine r_skip (r_seq (r_seq (r_region (rp rfl rfl (r_v (v_ld tabOk (h.box 1 rfl) (j := 1) rfl rfl rfl) rfl (rp rfl rfl (r_v (v_ld tabOk (h.box 0 rfl) (j := 1) rfl rfl rfl) rfl (rp rfl rfl (r_nil ?_)))))))))
  refine r_if rfl hF (fun hF => ?_) (fun hF => ?_)
  · exact r_seq (r_region (rp rfl rfl (r_nil (r_rB tabOk h hF ⟨rfl, trivial⟩))))
  refine r_skip (r_seq (r_seq (r_region (rp rfl rfl (r_v (v_ld tabOk (h.box 1 rfl) (j := 2) rfl rfl rfl) rfl (rp rfl rfl (r_v (v_ld tabOk (h.box 0 rfl) (j := 2) rfl rfl rfl) rfl (rp rfl rfl (r_nil ?_)))))))))
  refine r_if rfl hF (fun hF => ?_) (fun hF => ?_)
  · exact r_seq (r_region (rp rfl rfl (r_nil (r_rB tabOk h hF ⟨rfl, trivial⟩))))
  refine r_skip (r_seq (r_seq (r_region (rp rfl rfl (r_v (v_ld tabOk (h.box 1 rfl) (j := 3) rfl rfl rfl) rfl (rp rfl rfl (r_v (v_ld tabOk (h.box 0 rfl) (j := 3) rfl rfl rfl) rfl (rp rfl rfl (r_nil ?_)))))))))
  refine r_if rfl hF (fun hF => ?_) (fun hF => ?_)
  · exact r_seq (r_region (rp rfl rfl (r_nil (r_rB tabOk h hF ⟨rfl, trivial⟩))))
  refine r_skip (r_seq (r_seq (r_region (rp rfl rfl (r_v (v_ld tabOk (h.box 1 rfl) (j := 4) rfl rfl rfl) rfl (rp rfl rfl (r_v (v_ld tabOk (h.box 0 rfl) (j := 4) rfl rfl rfl) rfl ?_)))))))
  obtain ⟨r1, hr1, hF⟩ := bindS hF
  refine r_callB r1 h call186 (laws_eqTableS_ok ⟨_, _, rfl, (h.oldS s1)⟩ ⟨_, _, rfl, (h.oldS s3)⟩ hr1) rfl rfl rfl rfl ?_
  intro w3 h
  refine rp rfl rfl (r_nil ?_)
  refine r_if rfl hF (fun hF => ?_) (fun hF => ?_)
  · exact r_seq (r_region (rp rfl rfl (r_nil (r_rB tabOk h hF ⟨rfl, trivial⟩))))
  refine r_skip (r_seq (r_seq (r_region (rp rfl rfl (r_v (v_ld tabOk (h.box 1 rfl) (j := 5) rfl rfl rfl) rfl (rp rfl rfl (r_v (v_ld tabOk (h.box 0 rfl) (j := 5) rfl rfl rfl) rfl ?_)))))))
  obtain ⟨r2, hr2, hF⟩ := bindS hF
  refine r_callB r2 h call186 (laws_eqTableS_ok ⟨_, _, rfl, (h.oldS s2)⟩ ⟨_, _, rfl, (h.oldS s4)⟩ hr2) rfl rfl rfl rfl ?_
  intro w4 h
  refine rp rfl rfl (r_nil ?_)
  refine r_if rfl hF (fun hF => ?_) (fun hF => ?_)
  · exact r_seq (r_region (rp rfl rfl (r_nil (r_rB tabOk h hF ⟨rfl, trivial⟩))))
  exact r_skip (r_seq (r_region (rp rfl rfl (r_nil (r_rB tabOk h hF ⟨rfl, trivial⟩)))))

def laws_eqArcS_L1 (a : (List TArc)) (b : (List TArc)) : Nat → Int → Option (Flow Bool Int)
  | 0, _ => none
  | n + 1, i1 =>
    bif decide (i1 < (a.length : Int)) then
      (idx a i1).bind fun y1 =>
      (idx b i1).bind fun y2 =>
      (laws_eqArc n y1 y2).bind fun r1 =>
      bif (!r1) then
        some (.ret false)
      else
        laws_eqArcS_L1 a b n (W64 (i1 + 1))
    else
      some (.nxt i1)

def laws_eqArcS (n : Nat) (a : (List TArc)) (b : (List TArc)) : Option Bool :=
  bif ((a.length : Int) != (b.length : Int)) then
    some false
  else
    (laws_eqArcS_L1 a b n 0).bind fun o => match o with
    | .ret r => some r
    | .nxt _ =>
      some true

theorem laws_eqArcS_ok {n : Nat} {w : World} {a : (List TArc)} {b : (List TArc)} {cs1 : List Value} (ha1 : GoT.R w (old w) a cs1) {cs2 : List Value} (ha2 : GoT.R w (old w) b cs2) {r : Bool} (hF : laws_eqArcS n a b = some r) : RetV Tryz.prog 161 [GoT.v (List TArc) cs1, GoT.v (List TArc) cs2] w r := by
  obtain ⟨p1, k1, rfl, s1⟩ := ha1
  obtain ⟨p2, k2, rfl, s2⟩ := ha2
  refine retV_of_run Tryz.func161 rfl (m := 27) rfl rfl (fun h => ?_)
  rw [laws_eqArcS] at hF
  refine r_seq (r_region (rp rfl rfl (r_nil (r_seq (r_seq (r_region (rp rfl rfl (rp rfl rfl (rp rfl rfl (rp rfl rfl (rp rfl rfl ?_)))))))))))
  refine r_nil ?_
  refine r_if rfl hF (fun hF => ?_) (fun hF => ?_)
  · exact r_seq (r_region (rp rfl rfl (r_nil (r_rB tabOk h hF ⟨rfl, trivial⟩))))
  refine r_skip (r_seq (r_seq (r_region (rp rfl rfl (r_nil ?_)))))
  obtain ⟨o1, hF, hK1⟩ := bindS hF
  refine r_block (r_sub [(0, _), (1, _), (5, _)] ⟨rfl, rfl, rfl, trivial⟩ ?_)
  refine r_loop (fun m e w' => ∃ (i1 : Int), laws_eqArcS_L1 a b m i1 = some o1 ∧ e = [(0, .slice p1 a.length k1), (1, .slice p2 b.length k2), (5, .int .i64 i1)] ∧ SH w w' []) n ⟨_, hF, rfl, h⟩ ?_
  rintro m1 e1 w1 ⟨i1, hF, rfl, h⟩
  rcases m1 with _ | m1
  · rw [laws_eqArcS_L1] at hF
    cases hF
  rw [laws_eqArcS_L1] at hF
  refine r_seq (r_seq (r_region (rp rfl rfl (rp rfl rfl (rp rfl rfl (rp rfl rfl (r_nil ?_)))))))
  refine r_if rfl hF (fun hF => ?_) (fun hF => ?_)
  · refine r_skip (r_seq (r_block (r_seq ?_)))
    refine r_draw rfl (by kernel_rfl) ?_
    refine dp rfl rfl (dp rfl rfl ?_)
    obtain ⟨y1, hy1, hF⟩ := bindS hF
    have he1 := idx_some hy1
    obtain ⟨b1, o_1, q1, cs3, hp1, hq1, -, hr1, hc3⟩ := s1.at hy1
    obtain ⟨p3, k3, p4, k4, rfl, s3, s4⟩ := open_TArc hr1
    refine d_v (fun _ hb => v_ix tabOk hp1 hq1 ⟨he1.1, he1.2.1⟩ rfl rfl rfl rfl rfl rfl) rfl ?_
    refine d_v (fun _ hb => v_ld tabOk ((hc3.below h.below).below hb) (j := 0) rfl rfl rfl) rfl ?_
    refine dp rfl rfl (dp rfl rfl ?_)
    obtain ⟨y2, hy2, hF⟩ := bindS hF
    have he2 := idx_some hy2
    obtain ⟨b2, o_2, q2, cs4, hp2, hq2, -, hr2, hc4⟩ := s2.at hy2
    obtain ⟨p5, k5, p6, k6, rfl, s5, s6⟩ := open_TArc hr2
    refine d_v (fun _ hb => v_ix tabOk hp2 hq2 ⟨he2.1, he2.2.1⟩ rfl rfl rfl rfl rfl rfl) rfl ?_
    refine d_v (fun _ hb => v_ld tabOk ((hc4.below h.below).below hb) (j := 0) rfl rfl rfl) rfl ?_
    obtain ⟨r1, hr3, hF⟩ := bindS hF
    refine d_call r1 (vsB _) call176 (fun _ hb => laws_eqArc_ok (mkR_TArc y1 ((h.ext hb).oldS s3) ((h.ext hb).oldS s4)) (mkR_TArc y2 ((h.ext hb).oldS s5) ((h.ext hb).oldS s6)) hr3) rfl rfl rfl rfl ?_
    refine dp rfl rfl ?_
    refine d_nil (fun w2 hb => ?_)
    replace h := h.ext hb
    clear hb
    refine r_if rfl hF (fun hF => ?_) (fun hF => ?_)
    · refine r_seq (r_region (rp rfl rfl (r_nil ?_)))
      obtain rfl := someI hF; replace hF := hK1
      exact r_rB tabOk h hF ⟨rfl, trivial⟩
    exact r_skip (r_blk (r_region (rp rfl rfl (rp rfl rfl (rp rfl rfl (r_nil (r_back m1 [(0, _), (1, _), (5, _)] (Nat.lt_succ_self m1) ⟨rfl, rfl, rfl, trivial⟩ ⟨_, hF, rfl, h⟩)))))))
  refine r_exit rfl ?_
  obtain rfl := someI hF; replace hF := hK1
  exact r_seq (r_region (rp rfl rfl (r_nil (r_rB tabOk h hF ⟨rfl, trivial⟩))))

def laws_eqCell (n : Nat) (a : TCell) (b : TCell) : Option Bool :=
  bif (a.Name.toList != b.Name.toList) then
    some false
  else
    bif (a.Kind != b.Kind) then
      some false
    else
      (laws_eqPinS n a.Pins b.Pins).bind fun r1 =>
      bif (!r1) then
        some false
      else
        (laws_eqArcS n a.Arcs b.Arcs).bind fun r2 =>
        bif (!r2) then
          some false
        else
          (laws_eqInt64S n a.Truth b.Truth).bind fun r3 =>
          bif (!r3) then
            some false
          else
            bif (a.Leak != b.Leak) then
              some false
            else
              bif (a.Energy != b.Energy) then
                some false
              else
                some true

theorem laws_eqCell_ok {n : Nat} {w : World} {a : TCell} {b : TCell} {cs1 : List Value} (ha1 : GoT.R w (old w) a cs1) {cs2 : List Value} (ha2 : GoT.R w (old w) b cs2) {r : Bool} (hF : laws_eqCell n a b = some r) : RetV Tryz.prog 138 [GoT.v TCell cs1, GoT.v TCell cs2] w r := by
  obtain ⟨p1, k1, p2, k2, p3, k3, rfl, s1, s2, s3⟩ := open_TCell ha1
  obtain ⟨p4, k4, p5, k5, p6, k6, rfl, s4, s5, s6⟩ := open_TCell ha2
  refine retV_of_run Tryz.func138 rfl (m := 43) rfl rfl (fun h => ?_)
  rw [laws_eqCell] at hF
  refine r_seq (r_region (r_box h rfl rfl ?_))
  intro w1 bb1 h
  refine r_box h rfl rfl ?_
  intro w2 bb2 h
  refine rp rfl rfl (r_nil (r_seq (r_seq (r_region (rp rfl rfl (r_v (v_ld tabOk (h.box 1 rfl) (j := 0) rfl rfl rfl) rfl (rp rfl rfl (r_v (v_ld tabOk (h.box 0 rfl) (j := 0) rfl rfl rfl) rfl (rp rfl rfl (r_nil ?_))))))))))
  refine r_if rfl hF (fun hF => ?_) (fun hF => ?_)
  · exact r_seq (r_region (rp rfl rfl (r_nil (r_rB tabOk h hF ⟨rfl, trivial⟩))))
  refine r_skip (r_seq (r_seq (r_region (rp rfl rfl (r_v (v_ld tabOk (h.box 1 rfl) (j := 1) rfl rfl rfl) rfl (rp rfl rfl (r_v (v_ld tabOk (h.box 0 rfl) (j := 1) rfl rfl rfl) rfl (rp rfl rfl (r_nil ?_)))))))))
  refine r_if rfl hF (fun hF => ?_) (fun hF => ?_)
  · exact r_seq (r_region (rp rfl rfl (r_nil (r_rB tabOk h hF ⟨rfl, trivial⟩))))
  refine r_skip (r_seq (r_seq (r_region (rp rfl rfl (r_v (v_ld tabOk (h.box 1 rfl) (j := 2) rfl rfl rfl) rfl (rp rfl rfl (r_v (v_ld tabOk (h.box 0 rfl) (j := 2) rfl rfl rfl) rfl ?_)))))))
  obtain ⟨r1, hr1, hF⟩ := bindS hF
  refine r_callB r1 h call160 (laws_eqPinS_ok ⟨_, _, rfl, (h.oldS s1)⟩ ⟨_, _, rfl, (h.oldS s4)⟩ hr1) rfl rfl rfl rfl ?_
  intro w3 h
  refine rp rfl rfl (r_nil ?_)
  refine r_if rfl hF (fun hF => ?_) (fun hF => ?_)
  · exact r_seq (r_region (rp rfl rfl (r_nil (r_rB tabOk h hF ⟨rfl, trivial⟩))))
  refine r_skip (r_seq (r_seq (r_region (rp rfl rfl (r_v (v_ld tabOk (h.box 1 rfl) (j := 3) rfl rfl rfl) rfl (rp rfl rfl (r_v (v_ld tabOk (h.box 0 rfl) (j := 3) rfl rfl rfl) rfl ?_)))))))
  obtain ⟨r2, hr2, hF⟩ := bindS hF
  refine r_callB r2 h call161 (laws_eqArcS_ok ⟨_, _, rfl, (h.oldS s2)⟩ ⟨_, _, rfl, (h.oldS s5)⟩ hr2) rfl rfl rfl rfl ?_
  intro w4 h
  refine rp rfl rfl (r_nil ?_)
  refine r_if rfl hF (fun hF => ?_) (fun hF => ?_)
  · exact r_seq (r_region (rp rfl rfl (r_nil (r_rB tabOk h hF ⟨rfl, trivial⟩))))
  refine r_skip (r_seq (r_seq (r_region (rp rfl rfl (r_v (v_ld tabOk (h.box 1 rfl) (j := 4) rfl rfl rfl) rfl (rp rfl rfl (r_v (v_ld tabOk (h.box 0 rfl) (j := 4) rfl rfl rfl) rfl ?_)))))))
  obtain ⟨r3, hr3, hF⟩ := bindS hF
  refine r_callB r3 h call22 (laws_eqInt64S_ok ⟨_, _, rfl, (h.oldS s3)⟩ ⟨_, _, rfl, (h.oldS s6)⟩ hr3) rfl rfl rfl rfl ?_
  intro w5 h
  refine rp rfl rfl (r_nil ?_)
  refine r_if rfl hF (fun hF => ?_) (fun hF => ?_)
  · exact r_seq (r_region (rp rfl rfl (r_nil (r_rB tabOk h hF ⟨rfl, trivial⟩))))
  refine r_skip (r_seq (r_seq (r_region (rp rfl rfl (r_v (v_ld tabOk (h.box 1 rfl) (j := 5) rfl rfl rfl) rfl (rp rfl rfl (r_v (v_ld tabOk (h.box 0 rfl) (j := 5) rfl rfl rfl) rfl (rp rfl rfl (r_nil ?_)))))))))
  refine r_if rfl hF (fun hF => ?_) (fun hF => ?_)
  · exact r_seq (r_region (rp rfl rfl (r_nil (r_rB tabOk h hF ⟨rfl, trivial⟩))))
  refine r_skip (r_seq (r_seq (r_region (rp rfl rfl (r_v (v_ld tabOk (h.box 1 rfl) (j := 6) rfl rfl rfl) rfl (rp rfl rfl (r_v (v_ld tabOk (h.box 0 rfl) (j := 6) rfl rfl rfl) rfl (rp rfl rfl (r_nil ?_)))))))))
  refine r_if rfl hF (fun hF => ?_) (fun hF => ?_)
  · exact r_seq (r_region (rp rfl rfl (r_nil (r_rB tabOk h hF ⟨rfl, trivial⟩))))
  exact r_skip (r_seq (r_region (rp rfl rfl (r_nil (r_rB tabOk h hF ⟨rfl, trivial⟩)))))

def laws_eqCellS_L1 (a : (List TCell)) (b : (List TCell)) : Nat → Int → Option (Flow Bool Int)
  | 0, _ => none
  | n + 1, i1 =>
    bif decide (i1 < (a.length : Int)) then
      (idx a i1).bind fun y1 =>
      (idx b i1).bind fun y2 =>
      (laws_eqCell n y1 y2).bind fun r1 =>
      bif (!r1) then
        some (.ret false)
      else
        laws_eqCellS_L1 a b n (W64 (i1 + 1))
    else
      some (.nxt i1)

def laws_eqCellS (n : Nat) (a : (List TCell)) (b : (List TCell)) : Option Bool :=
  bif ((a.length : Int) != (b.length : Int)) then
    some false
  else
    (laws_eqCellS_L1 a b n 0).bind fun o => match o with
    | .ret r => some r
    | .nxt _ =>
      some true

theorem laws_eqCellS_ok {n : Nat} {w : World} {a : (List TCell)} {b : (List TCell)} {cs1 : List Value} (ha1 : GoT.R w (old w) a cs1) {cs2 : List Value} (ha2 : GoT.R w (old w) b cs2) {r : Bool} (hF : laws_eqCellS n a b = some r) : RetV Tryz.prog 86 [GoT.v (List TCell) cs1, GoT.v (List TCell) cs2] w r := by
  obtain ⟨p1, k1, rfl, s1⟩ := ha1
  obtain ⟨p2, k2, rfl, s2⟩ := ha2
  refine retV_of_run Tryz.func86 rfl (m := 27) rfl rfl (fun h => ?_)
  rw [laws_eqCellS] at hF
  refine r_seq (r_region (rp rfl rfl (r_nil (r_seq (r_seq (r_region (rp rfl rfl (rp rfl rfl (rp rfl rfl (rp rfl rfl (rp rfl rfl ?_)))))))))))
  refine r_nil ?_
  refine r_if rfl hF (fun hF => ?_) (fun hF => ?_)
  · exact r_seq (r_region (rp rfl rfl (r_nil (r_rB tabOk h hF ⟨rfl, trivial⟩))))
  refine r_skip (r_seq (r_seq (r_region (rp rfl rfl (r_nil ?_)))))
  obtain ⟨o1, hF, hK1⟩ := bindS hF
  refine r_block (r_sub [(0, _), (1, _), (5, _)] ⟨rfl, rfl, rfl, trivial⟩ ?_)
  refine r_loop (fun m e w' => ∃ (i1 : Int), laws_eqCellS_L1 a b m i1 = some o1 ∧ e = [(0, .slice p1 a.length k1), (1, .slice p2 b.length k2), (5, .int .i64 i1)] ∧ SH w w' []) n ⟨_, hF, rfl, h⟩ ?_
  rintro m1 e1 w1 ⟨i1, hF, rfl, h⟩
  rcases m1 with _ | m1
  · rw [laws_eqCellS_L1] at hF
    cases hF
  rw [laws_eqCellS_L1] at hF
  refine r_seq (r_seq (r_region (rp rfl rfl (rp rfl rfl (rp rfl rfl (rp rfl rfl (r_nil ?_)))))))
  refine r_if rfl hF (fun hF => ?_) (fun hF => ?_)
  · refine r_skip (r_seq (r_block (r_seq ?_)))
    refine r_draw rfl (by kernel_rfl) ?_
    refine dp rfl rfl (dp rfl rfl ?_)
    obtain ⟨y1, hy1, hF⟩ := bindS hF
    have he1 := idx_some hy1
    obtain ⟨b1, o_1, q1, cs3, hp1, hq1, -, hr1, hc3⟩ := s1.at hy1
    obtain ⟨p3, k3, p4, k4, p5, k5, rfl, s3, s4, s5⟩ := open_TCell hr1
    refine d_v (fun _ hb => v_ix tabOk hp1 hq1 ⟨he1.1, he1.2.1⟩ rfl rfl rfl rfl rfl rfl) rfl ?_
    refine d_v (fun _ hb => v_ld tabOk ((hc3.below h.below).below hb) (j := 0) rfl rfl rfl) rfl ?_
    refine dp rfl rfl (dp rfl rfl ?_)
    obtain ⟨y2, hy2, hF⟩ := bindS hF
    have he2 := idx_some hy2
    obtain ⟨b2, o_2, q2, cs4, hp2, hq2, -, hr2, hc4⟩ := s2.at hy2
    obtain ⟨p6, k6, p7, k7, p8, k8, rfl, s6, s7, s8⟩ := open_TCell hr2
    refine d_v (fun _ hb => v_ix tabOk hp2 hq2 ⟨he2.1, he2.2.1⟩ rfl rfl rfl rfl rfl rfl) rfl ?_
    refine d_v (fun _ hb => v_ld tabOk ((hc4.below h.below).below hb) (j := 0) rfl rfl rfl) rfl ?_
    obtain ⟨r1, hr3, hF⟩ := bindS hF
    refine d_call r1 (vsB _) call138 (fun _ hb => laws_eqCell_ok (mkR_TCell y1 ((h.ext hb).oldS s3) ((h.ext hb).oldS s4) ((h.ext hb).oldS s5)) (mkR_TCell y2 ((h.ext hb).oldS s6) ((h.ext hb).oldS s7) ((h.ext hb).oldS s8)) hr3) rfl rfl rfl rfl ?_
    refine dp rfl rfl ?_
    refine d_nil (fun w2 hb => ?_)
    replace h := h.ext hb
    clear hb
    refine r_if rfl hF (fun hF => ?_) (fun hF => ?_)
    · refine r_seq (r_region (rp rfl rfl (r_nil ?_)))
      obtain rfl := someI hF; replace hF := hK1
      exact r_rB tabOk h hF ⟨rfl, trivial⟩
    exact r_skip (r_blk (r_region (rp rfl rfl (rp rfl rfl (rp rfl rfl (r_nil (r_back m1 [(0, _), (1, _), (5, _)] (Nat.lt_succ_self m1) ⟨rfl, rfl, rfl, trivial⟩ ⟨_, hF, rfl, h⟩)))))))
  refine r_exit rfl ?_
  obtain rfl := someI hF; replace hF := hK1
  exact r_seq (r_region (rp rfl rfl (r_nil (r_rB tabOk h hF ⟨rfl, trivial⟩))))

def laws_eqLibrary (n : Nat) (a : TLibrary) (b : TLibrary) : Option Bool :=
  (laws_eqCellS n a.Cells b.Cells).bind fun r1 =>
  bif (!r1) then
    some false
  else
    some true

theorem laws_eqLibrary_ok {n : Nat} {w : World} {a : TLibrary} {b : TLibrary} {cs1 : List Value} (ha1 : GoT.R w (old w) a cs1) {cs2 : List Value} (ha2 : GoT.R w (old w) b cs2) {r : Bool} (hF : laws_eqLibrary n a b = some r) : RetV Tryz.prog 42 [GoT.v TLibrary cs1, GoT.v TLibrary cs2] w r := by
  obtain ⟨p1, k1, rfl, s1⟩ := open_TLibrary ha1
  obtain ⟨p2, k2, rfl, s2⟩ := open_TLibrary ha2
  refine retV_of_run Tryz.func42 rfl (m := 11) rfl rfl (fun h => ?_)
  rw [laws_eqLibrary] at hF
  refine r_seq (r_region (r_box h rfl rfl ?_))
  intro w1 bb1 h
  refine r_box h rfl rfl ?_
  intro w2 bb2 h
  refine rp rfl rfl (r_nil (r_seq (r_seq (r_region (rp rfl rfl (r_v (v_ld tabOk (h.box 1 rfl) (j := 0) rfl rfl rfl) rfl (rp rfl rfl (r_v (v_ld tabOk (h.box 0 rfl) (j := 0) rfl rfl rfl) rfl ?_))))))))
  obtain ⟨r1, hr1, hF⟩ := bindS hF
  refine r_callB r1 h call86 (laws_eqCellS_ok ⟨_, _, rfl, (h.oldS s1)⟩ ⟨_, _, rfl, (h.oldS s2)⟩ hr1) rfl rfl rfl rfl ?_
  intro w3 h
  refine rp rfl rfl (r_nil ?_)
  refine r_if rfl hF (fun hF => ?_) (fun hF => ?_)
  · exact r_seq (r_region (rp rfl rfl (r_nil (r_rB tabOk h hF ⟨rfl, trivial⟩))))
  exact r_skip (r_seq (r_region (rp rfl rfl (r_nil (r_rB tabOk h hF ⟨rfl, trivial⟩)))))

def laws_eqInstance (n : Nat) (a : TInstance) (b : TInstance) : Option Bool :=
  bif (a.Name.toList != b.Name.toList) then
    some false
  else
    bif (a.Cell != b.Cell) then
      some false
    else
      (laws_eqInt64S n a.Nets b.Nets).bind fun r1 =>
      bif (!r1) then
        some false
      else
        some true

theorem laws_eqInstance_ok {n : Nat} {w : World} {a : TInstance} {b : TInstance} {cs1 : List Value} (ha1 : GoT.R w (old w) a cs1) {cs2 : List Value} (ha2 : GoT.R w (old w) b cs2) {r : Bool} (hF : laws_eqInstance n a b = some r) : RetV Tryz.prog 139 [GoT.v TInstance cs1, GoT.v TInstance cs2] w r := by
  obtain ⟨p1, k1, rfl, s1⟩ := open_TInstance ha1
  obtain ⟨p2, k2, rfl, s2⟩ := open_TInstance ha2
  refine retV_of_run Tryz.func139 rfl (m := 21) rfl rfl (fun h => ?_)
  rw [laws_eqInstance] at hF
  refine r_seq (r_region (r_box h rfl rfl ?_))
  intro w1 bb1 h
  refine r_box h rfl rfl ?_
  intro w2 bb2 h
  refine rp rfl rfl (r_nil (r_seq (r_seq (r_region (rp rfl rfl (r_v (v_ld tabOk (h.box 1 rfl) (j := 0) rfl rfl rfl) rfl (rp rfl rfl (r_v (v_ld tabOk (h.box 0 rfl) (j := 0) rfl rfl rfl) rfl (rp rfl rfl (r_nil ?_))))))))))
  refine r_if rfl hF (fun hF => ?_) (fun hF => ?_)
  · exact r_seq (r_region (rp rfl rfl (r_nil (r_rB tabOk h hF ⟨rfl, trivial⟩))))
  refine r_skip (r_seq (r_seq (r_region (rp rfl rfl (r_v (v_ld tabOk (h.box 1 rfl) (j := 1) rfl rfl rfl) rfl (rp rfl rfl (r_v (v_ld tabOk (h.box 0 rfl) (j := 1) rfl rfl rfl) rfl (rp rfl rfl (r_nil ?_)))))))))
  refine r_if rfl hF (fun hF => ?_) (fun hF => ?_)
  · exact r_seq (r_region (rp rfl rfl (r_nil (r_rB tabOk h hF ⟨rfl, trivial⟩))))
  refine r_skip (r_seq (r_seq (r_region (rp rfl rfl (r_v (v_ld tabOk (h.box 1 rfl) (j := 2) rfl rfl rfl) rfl (rp rfl rfl (r_v (v_ld tabOk (h.box 0 rfl) (j := 2) rfl rfl rfl) rfl ?_)))))))
  obtain ⟨r1, hr1, hF⟩ := bindS hF
  refine r_callB r1 h call22 (laws_eqInt64S_ok ⟨_, _, rfl, (h.oldS s1)⟩ ⟨_, _, rfl, (h.oldS s2)⟩ hr1) rfl rfl rfl rfl ?_
  intro w3 h
  refine rp rfl rfl (r_nil ?_)
  refine r_if rfl hF (fun hF => ?_) (fun hF => ?_)
  · exact r_seq (r_region (rp rfl rfl (r_nil (r_rB tabOk h hF ⟨rfl, trivial⟩))))
  exact r_skip (r_seq (r_region (rp rfl rfl (r_nil (r_rB tabOk h hF ⟨rfl, trivial⟩)))))

def laws_eqInstanceS_L1 (a : (List TInstance)) (b : (List TInstance)) : Nat → Int → Option (Flow Bool Int)
  | 0, _ => none
  | n + 1, i1 =>
    bif decide (i1 < (a.length : Int)) then
      (idx a i1).bind fun y1 =>
      (idx b i1).bind fun y2 =>
      (laws_eqInstance n y1 y2).bind fun r1 =>
      bif (!r1) then
        some (.ret false)
      else
        laws_eqInstanceS_L1 a b n (W64 (i1 + 1))
    else
      some (.nxt i1)

def laws_eqInstanceS (n : Nat) (a : (List TInstance)) (b : (List TInstance)) : Option Bool :=
  bif ((a.length : Int) != (b.length : Int)) then
    some false
  else
    (laws_eqInstanceS_L1 a b n 0).bind fun o => match o with
    | .ret r => some r
    | .nxt _ =>
      some true

theorem laws_eqInstanceS_ok {n : Nat} {w : World} {a : (List TInstance)} {b : (List TInstance)} {cs1 : List Value} (ha1 : GoT.R w (old w) a cs1) {cs2 : List Value} (ha2 : GoT.R w (old w) b cs2) {r : Bool} (hF : laws_eqInstanceS n a b = some r) : RetV Tryz.prog 87 [GoT.v (List TInstance) cs1, GoT.v (List TInstance) cs2] w r := by
  obtain ⟨p1, k1, rfl, s1⟩ := ha1
  obtain ⟨p2, k2, rfl, s2⟩ := ha2
  refine retV_of_run Tryz.func87 rfl (m := 27) rfl rfl (fun h => ?_)
  rw [laws_eqInstanceS] at hF
  refine r_seq (r_region (rp rfl rfl (r_nil (r_seq (r_seq (r_region (rp rfl rfl (rp rfl rfl (rp rfl rfl (rp rfl rfl (rp rfl rfl ?_)))))))))))
  refine r_nil ?_
  refine r_if rfl hF (fun hF => ?_) (fun hF => ?_)
  · exact r_seq (r_region (rp rfl rfl (r_nil (r_rB tabOk h hF ⟨rfl, trivial⟩))))
  refine r_skip (r_seq (r_seq (r_region (rp rfl rfl (r_nil ?_)))))
  obtain ⟨o1, hF, hK1⟩ := bindS hF
  refine r_block (r_sub [(0, _), (1, _), (5, _)] ⟨rfl, rfl, rfl, trivial⟩ ?_)
  refine r_loop (fun m e w' => ∃ (i1 : Int), laws_eqInstanceS_L1 a b m i1 = some o1 ∧ e = [(0, .slice p1 a.length k1), (1, .slice p2 b.length k2), (5, .int .i64 i1)] ∧ SH w w' []) n ⟨_, hF, rfl, h⟩ ?_
  rintro m1 e1 w1 ⟨i1, hF, rfl, h⟩
  rcases m1 with _ | m1
  · rw [laws_eqInstanceS_L1] at hF
    cases hF
  rw [laws_eqInstanceS_L1] at hF
  refine r_seq (r_seq (r_region (rp rfl rfl (rp rfl rfl (rp rfl rfl (rp rfl rfl (r_nil ?_)))))))
  refine r_if rfl hF (fun hF => ?_) (fun hF => ?_)
  · refine r_skip (r_seq (r_block (r_seq ?_)))
    refine r_draw rfl (by kernel_rfl) ?_
    refine dp rfl rfl (dp rfl rfl ?_)
    obtain ⟨y1, hy1, hF⟩ := bindS hF
    have he1 := idx_some hy1
    obtain ⟨b1, o_1, q1, cs3, hp1, hq1, -, hr1, hc3⟩ := s1.at hy1
    obtain ⟨p3, k3, rfl, s3⟩ := open_TInstance hr1
    refine d_v (fun _ hb => v_ix tabOk hp1 hq1 ⟨he1.1, he1.2.1⟩ rfl rfl rfl rfl rfl rfl) rfl ?_
    refine d_v (fun _ hb => v_ld tabOk ((hc3.below h.below).below hb) (j := 0) rfl rfl rfl) rfl ?_
    refine dp rfl rfl (dp rfl rfl ?_)
    obtain ⟨y2, hy2, hF⟩ := bindS hF
    have he2 := idx_some hy2
    obtain ⟨b2, o_2, q2, cs4, hp2, hq2, -, hr2, hc4⟩ := s2.at hy2
    obtain ⟨p4, k4, rfl, s4⟩ := open_TInstance hr2
    refine d_v (fun _ hb => v_ix tabOk hp2 hq2 ⟨he2.1, he2.2.1⟩ rfl rfl rfl rfl rfl rfl) rfl ?_
    refine d_v (fun _ hb => v_ld tabOk ((hc4.below h.below).below hb) (j := 0) rfl rfl rfl) rfl ?_
    obtain ⟨r1, hr3, hF⟩ := bindS hF
    refine d_call r1 (vsB _) call139 (fun _ hb => laws_eqInstance_ok (mkR_TInstance y1 ((h.ext hb).oldS s3)) (mkR_TInstance y2 ((h.ext hb).oldS s4)) hr3) rfl rfl rfl rfl ?_
    refine dp rfl rfl ?_
    refine d_nil (fun w2 hb => ?_)
    replace h := h.ext hb
    clear hb
    refine r_if rfl hF (fun hF => ?_) (fun hF => ?_)
    · refine r_seq (r_region (rp rfl rfl (r_nil ?_)))
      obtain rfl := someI hF; replace hF := hK1
      exact r_rB tabOk h hF ⟨rfl, trivial⟩
    exact r_skip (r_blk (r_region (rp rfl rfl (rp rfl rfl (rp rfl rfl (r_nil (r_back m1 [(0, _), (1, _), (5, _)] (Nat.lt_succ_self m1) ⟨rfl, rfl, rfl, trivial⟩ ⟨_, hF, rfl, h⟩)))))))
  refine r_exit rfl ?_
  obtain rfl := someI hF; replace hF := hK1
  exact r_seq (r_region (rp rfl rfl (r_nil (r_rB tabOk h hF ⟨rfl, trivial⟩))))

def laws_eqStringS_L1 (a : (List ByteArray)) (b : (List ByteArray)) : Nat → Int → Option (Flow Bool Int)
  | 0, _ => none
  | n + 1, i1 =>
    bif decide (i1 < (a.length : Int)) then
      (idx a i1).bind fun y1 =>
      (idx b i1).bind fun y2 =>
      bif (y1.toList != y2.toList) then
        some (.ret false)
      else
        laws_eqStringS_L1 a b n (W64 (i1 + 1))
    else
      some (.nxt i1)

def laws_eqStringS (n : Nat) (a : (List ByteArray)) (b : (List ByteArray)) : Option Bool :=
  bif ((a.length : Int) != (b.length : Int)) then
    some false
  else
    (laws_eqStringS_L1 a b n 0).bind fun o => match o with
    | .ret r => some r
    | .nxt _ =>
      some true

theorem laws_eqStringS_ok {n : Nat} {w : World} {a : (List ByteArray)} {b : (List ByteArray)} {cs1 : List Value} (ha1 : GoT.R w (old w) a cs1) {cs2 : List Value} (ha2 : GoT.R w (old w) b cs2) {r : Bool} (hF : laws_eqStringS n a b = some r) : RetV Tryz.prog 88 [GoT.v (List ByteArray) cs1, GoT.v (List ByteArray) cs2] w r := by
  obtain ⟨p1, k1, rfl, s1⟩ := ha1
  obtain ⟨p2, k2, rfl, s2⟩ := ha2
  refine retV_of_run Tryz.func88 rfl (m := 26) rfl rfl (fun h => ?_)
  rw [laws_eqStringS] at hF
  refine r_seq (r_region (rp rfl rfl (r_nil (r_seq (r_seq (r_region (rp rfl rfl (rp rfl rfl (rp rfl rfl (rp rfl rfl (rp rfl rfl ?_)))))))))))
  refine r_nil ?_
  refine r_if rfl hF (fun hF => ?_) (fun hF => ?_)
  · exact r_seq (r_region (rp rfl rfl (r_nil (r_rB tabOk h hF ⟨rfl, trivial⟩))))
  refine r_skip (r_seq (r_seq (r_region (rp rfl rfl (r_nil ?_)))))
  obtain ⟨o1, hF, hK1⟩ := bindS hF
  refine r_block (r_sub [(0, _), (1, _), (5, _)] ⟨rfl, rfl, rfl, trivial⟩ ?_)
  refine r_loop (fun m e w' => ∃ (i1 : Int), laws_eqStringS_L1 a b m i1 = some o1 ∧ e = [(0, .slice p1 a.length k1), (1, .slice p2 b.length k2), (5, .int .i64 i1)] ∧ SH w w' []) n ⟨_, hF, rfl, h⟩ ?_
  rintro m1 e1 w1 ⟨i1, hF, rfl, h⟩
  rcases m1 with _ | m1
  · rw [laws_eqStringS_L1] at hF
    cases hF
  rw [laws_eqStringS_L1] at hF
  refine r_seq (r_seq (r_region (rp rfl rfl (rp rfl rfl (rp rfl rfl (rp rfl rfl (r_nil ?_)))))))
  refine r_if rfl hF (fun hF => ?_) (fun hF => ?_)
  · refine r_skip (r_seq (r_block (r_seq ?_)))
    refine r_draw rfl (by kernel_rfl) ?_
    refine dp rfl rfl (dp rfl rfl ?_)
    obtain ⟨y1, hy1, hF⟩ := bindS hF
    have he1 := idx_some hy1
    obtain ⟨b1, o_1, q1, cs3, hp1, hq1, -, hr1, hc3⟩ := s1.at hy1
    obtain rfl := hr1
    refine d_v (fun _ hb => v_ix tabOk hp1 hq1 ⟨he1.1, he1.2.1⟩ rfl rfl rfl rfl rfl rfl) rfl ?_
    refine d_v (fun _ hb => v_ld tabOk ((hc3.below h.below).below hb) (j := 0) rfl rfl rfl) rfl ?_
    refine dp rfl rfl (dp rfl rfl ?_)
    obtain ⟨y2, hy2, hF⟩ := bindS hF
    have he2 := idx_some hy2
    obtain ⟨b2, o_2, q2, cs4, hp2, hq2, -, hr2, hc4⟩ := s2.at hy2
    obtain rfl := hr2
    refine d_v (fun _ hb => v_ix tabOk hp2 hq2 ⟨he2.1, he2.2.1⟩ rfl rfl rfl rfl rfl rfl) rfl ?_
    refine d_v (fun _ hb => v_ld tabOk ((hc4.below h.below).below hb) (j := 0) rfl rfl rfl) rfl ?_
    refine dp rfl rfl ?_
    refine d_nil (fun w2 hb => ?_)
    replace h := h.ext hb
    clear hb
    refine r_if rfl hF (fun hF => ?_) (fun hF => ?_)
    · refine r_seq (r_region (rp rfl rfl (r_nil ?_)))
      obtain rfl := someI hF; replace hF := hK1
      exact r_rB tabOk h hF ⟨rfl, trivial⟩
    exact r_skip (r_blk (r_region (rp rfl rfl (rp rfl rfl (rp rfl rfl (r_nil (r_back m1 [(0, _), (1, _), (5, _)] (Nat.lt_succ_self m1) ⟨rfl, rfl, rfl, trivial⟩ ⟨_, hF, rfl, h⟩)))))))
  refine r_exit rfl ?_
  obtain rfl := someI hF; replace hF := hK1
  exact r_seq (r_region (rp rfl rfl (r_nil (r_rB tabOk h hF ⟨rfl, trivial⟩))))

def laws_eqPort (_ : Nat) (a : TPort) (b : TPort) : Option Bool :=
  bif (a.Name.toList != b.Name.toList) then
    some false
  else
    bif (a.Dir != b.Dir) then
      some false
    else
      bif (a.Net != b.Net) then
        some false
      else
        some true

theorem laws_eqPort_ok {n : Nat} {w : World} {a : TPort} {b : TPort} {cs1 : List Value} (ha1 : GoT.R w (old w) a cs1) {cs2 : List Value} (ha2 : GoT.R w (old w) b cs2) {r : Bool} (hF : laws_eqPort n a b = some r) : RetV Tryz.prog 140 [GoT.v TPort cs1, GoT.v TPort cs2] w r := by
  obtain rfl := open_TPort ha1
  obtain rfl := open_TPort ha2
  refine retV_of_run Tryz.func140 rfl (m := 20) rfl rfl (fun h => ?_)
  rw [laws_eqPort] at hF
  refine r_seq (r_region (r_box h rfl rfl ?_))
  intro w1 bb1 h
  refine r_box h rfl rfl ?_
  intro w2 bb2 h
  refine rp rfl rfl (r_nil (r_seq (r_seq (r_region (rp rfl rfl (r_v (v_ld tabOk (h.box 1 rfl) (j := 0) rfl rfl rfl) rfl (rp rfl rfl (r_v (v_ld tabOk (h.box 0 rfl) (j := 0) rfl rfl rfl) rfl (rp rfl rfl (r_nil ?_))))))))))
  refine r_if rfl hF (fun hF => ?_) (fun hF => ?_)
  · exact r_seq (r_region (rp rfl rfl (r_nil (r_rB tabOk h hF ⟨rfl, trivial⟩))))
  refine r_skip (r_seq (r_seq (r_region (rp rfl rfl (r_v (v_ld tabOk (h.box 1 rfl) (j := 1) rfl rfl rfl) rfl (rp rfl rfl (r_v (v_ld tabOk (h.box 0 rfl) (j := 1) rfl rfl rfl) rfl (rp rfl rfl (r_nil ?_)))))))))
  refine r_if rfl hF (fun hF => ?_) (fun hF => ?_)
  · exact r_seq (r_region (rp rfl rfl (r_nil (r_rB tabOk h hF ⟨rfl, trivial⟩))))
  refine r_skip (r_seq (r_seq (r_region (rp rfl rfl (r_v (v_ld tabOk (h.box 1 rfl) (j := 2) rfl rfl rfl) rfl (rp rfl rfl (r_v (v_ld tabOk (h.box 0 rfl) (j := 2) rfl rfl rfl) rfl (rp rfl rfl (r_nil ?_)))))))))
  refine r_if rfl hF (fun hF => ?_) (fun hF => ?_)
  · exact r_seq (r_region (rp rfl rfl (r_nil (r_rB tabOk h hF ⟨rfl, trivial⟩))))
  exact r_skip (r_seq (r_region (rp rfl rfl (r_nil (r_rB tabOk h hF ⟨rfl, trivial⟩)))))

def laws_eqPortS_L1 (a : (List TPort)) (b : (List TPort)) : Nat → Int → Option (Flow Bool Int)
  | 0, _ => none
  | n + 1, i1 =>
    bif decide (i1 < (a.length : Int)) then
      (idx a i1).bind fun y1 =>
      (idx b i1).bind fun y2 =>
      (laws_eqPort n y1 y2).bind fun r1 =>
      bif (!r1) then
        some (.ret false)
      else
        laws_eqPortS_L1 a b n (W64 (i1 + 1))
    else
      some (.nxt i1)

def laws_eqPortS (n : Nat) (a : (List TPort)) (b : (List TPort)) : Option Bool :=
  bif ((a.length : Int) != (b.length : Int)) then
    some false
  else
    (laws_eqPortS_L1 a b n 0).bind fun o => match o with
    | .ret r => some r
    | .nxt _ =>
      some true

theorem laws_eqPortS_ok {n : Nat} {w : World} {a : (List TPort)} {b : (List TPort)} {cs1 : List Value} (ha1 : GoT.R w (old w) a cs1) {cs2 : List Value} (ha2 : GoT.R w (old w) b cs2) {r : Bool} (hF : laws_eqPortS n a b = some r) : RetV Tryz.prog 89 [GoT.v (List TPort) cs1, GoT.v (List TPort) cs2] w r := by
  obtain ⟨p1, k1, rfl, s1⟩ := ha1
  obtain ⟨p2, k2, rfl, s2⟩ := ha2
  refine retV_of_run Tryz.func89 rfl (m := 27) rfl rfl (fun h => ?_)
  rw [laws_eqPortS] at hF
  refine r_seq (r_region (rp rfl rfl (r_nil (r_seq (r_seq (r_region (rp rfl rfl (rp rfl rfl (rp rfl rfl (rp rfl rfl (rp rfl rfl ?_)))))))))))
  refine r_nil ?_
  refine r_if rfl hF (fun hF => ?_) (fun hF => ?_)
  · exact r_seq (r_region (rp rfl rfl (r_nil (r_rB tabOk h hF ⟨rfl, trivial⟩))))
  refine r_skip (r_seq (r_seq (r_region (rp rfl rfl (r_nil ?_)))))
  obtain ⟨o1, hF, hK1⟩ := bindS hF
  refine r_block (r_sub [(0, _), (1, _), (5, _)] ⟨rfl, rfl, rfl, trivial⟩ ?_)
  refine r_loop (fun m e w' => ∃ (i1 : Int), laws_eqPortS_L1 a b m i1 = some o1 ∧ e = [(0, .slice p1 a.length k1), (1, .slice p2 b.length k2), (5, .int .i64 i1)] ∧ SH w w' []) n ⟨_, hF, rfl, h⟩ ?_
  rintro m1 e1 w1 ⟨i1, hF, rfl, h⟩
  rcases m1 with _ | m1
  · rw [laws_eqPortS_L1] at hF
    cases hF
  rw [laws_eqPortS_L1] at hF
  refine r_seq (r_seq (r_region (rp rfl rfl (rp rfl rfl (rp rfl rfl (rp rfl rfl (r_nil ?_)))))))
  refine r_if rfl hF (fun hF => ?_) (fun hF => ?_)
  · refine r_skip (r_seq (r_block (r_seq ?_)))
    refine r_draw rfl (by kernel_rfl) ?_
    refine dp rfl rfl (dp rfl rfl ?_)
    obtain ⟨y1, hy1, hF⟩ := bindS hF
    have he1 := idx_some hy1
    obtain ⟨b1, o_1, q1, cs3, hp1, hq1, -, hr1, hc3⟩ := s1.at hy1
    obtain rfl := open_TPort hr1
    refine d_v (fun _ hb => v_ix tabOk hp1 hq1 ⟨he1.1, he1.2.1⟩ rfl rfl rfl rfl rfl rfl) rfl ?_
    refine d_v (fun _ hb => v_ld tabOk ((hc3.below h.below).below hb) (j := 0) rfl rfl rfl) rfl ?_
    refine dp rfl rfl (dp rfl rfl ?_)
    obtain ⟨y2, hy2, hF⟩ := bindS hF
    have he2 := idx_some hy2
    obtain ⟨b2, o_2, q2, cs4, hp2, hq2, -, hr2, hc4⟩ := s2.at hy2
    obtain rfl := open_TPort hr2
    refine d_v (fun _ hb => v_ix tabOk hp2 hq2 ⟨he2.1, he2.2.1⟩ rfl rfl rfl rfl rfl rfl) rfl ?_
    refine d_v (fun _ hb => v_ld tabOk ((hc4.below h.below).below hb) (j := 0) rfl rfl rfl) rfl ?_
    obtain ⟨r1, hr3, hF⟩ := bindS hF
    refine d_call r1 (vsB _) call140 (fun _ hb => laws_eqPort_ok (mkR_TPort y1) (mkR_TPort y2) hr3) rfl rfl rfl rfl ?_
    refine dp rfl rfl ?_
    refine d_nil (fun w2 hb => ?_)
    replace h := h.ext hb
    clear hb
    refine r_if rfl hF (fun hF => ?_) (fun hF => ?_)
    · refine r_seq (r_region (rp rfl rfl (r_nil ?_)))
      obtain rfl := someI hF; replace hF := hK1
      exact r_rB tabOk h hF ⟨rfl, trivial⟩
    exact r_skip (r_blk (r_region (rp rfl rfl (rp rfl rfl (rp rfl rfl (r_nil (r_back m1 [(0, _), (1, _), (5, _)] (Nat.lt_succ_self m1) ⟨rfl, rfl, rfl, trivial⟩ ⟨_, hF, rfl, h⟩)))))))
  refine r_exit rfl ?_
  obtain rfl := someI hF; replace hF := hK1
  exact r_seq (r_region (rp rfl rfl (r_nil (r_rB tabOk h hF ⟨rfl, trivial⟩))))

def laws_eqDesign (n : Nat) (a : TDesign) (b : TDesign) : Option Bool :=
  (laws_eqInstanceS n a.Instances b.Instances).bind fun r1 =>
  bif (!r1) then
    some false
  else
    (laws_eqStringS n a.Nets b.Nets).bind fun r2 =>
    bif (!r2) then
      some false
    else
      (laws_eqPortS n a.Ports b.Ports).bind fun r3 =>
      bif (!r3) then
        some false
      else
        some true

theorem laws_eqDesign_ok {n : Nat} {w : World} {a : TDesign} {b : TDesign} {cs1 : List Value} (ha1 : GoT.R w (old w) a cs1) {cs2 : List Value} (ha2 : GoT.R w (old w) b cs2) {r : Bool} (hF : laws_eqDesign n a b = some r) : RetV Tryz.prog 43 [GoT.v TDesign cs1, GoT.v TDesign cs2] w r := by
  obtain ⟨p1, k1, p2, k2, p3, k3, rfl, s1, s2, s3⟩ := open_TDesign ha1
  obtain ⟨p4, k4, p5, k5, p6, k6, rfl, s4, s5, s6⟩ := open_TDesign ha2
  refine retV_of_run Tryz.func43 rfl (m := 23) rfl rfl (fun h => ?_)
  rw [laws_eqDesign] at hF
  refine r_seq (r_region (r_box h rfl rfl ?_))
  intro w1 bb1 h
  refine r_box h rfl rfl ?_
  intro w2 bb2 h
  refine rp rfl rfl (r_nil (r_seq (r_seq (r_region (rp rfl rfl (r_v (v_ld tabOk (h.box 1 rfl) (j := 0) rfl rfl rfl) rfl (rp rfl rfl (r_v (v_ld tabOk (h.box 0 rfl) (j := 0) rfl rfl rfl) rfl ?_))))))))
  obtain ⟨r1, hr1, hF⟩ := bindS hF
  refine r_callB r1 h call87 (laws_eqInstanceS_ok ⟨_, _, rfl, (h.oldS s1)⟩ ⟨_, _, rfl, (h.oldS s4)⟩ hr1) rfl rfl rfl rfl ?_
  intro w3 h
  refine rp rfl rfl (r_nil ?_)
  refine r_if rfl hF (fun hF => ?_) (fun hF => ?_)
  · exact r_seq (r_region (rp rfl rfl (r_nil (r_rB tabOk h hF ⟨rfl, trivial⟩))))
  refine r_skip (r_seq (r_seq (r_region (rp rfl rfl (r_v (v_ld tabOk (h.box 1 rfl) (j := 1) rfl rfl rfl) rfl (rp rfl rfl (r_v (v_ld tabOk (h.box 0 rfl) (j := 1) rfl rfl rfl) rfl ?_)))))))
  obtain ⟨r2, hr2, hF⟩ := bindS hF
  refine r_callB r2 h call88 (laws_eqStringS_ok ⟨_, _, rfl, (h.oldS s2)⟩ ⟨_, _, rfl, (h.oldS s5)⟩ hr2) rfl rfl rfl rfl ?_
  intro w4 h
  refine rp rfl rfl (r_nil ?_)
  refine r_if rfl hF (fun hF => ?_) (fun hF => ?_)
  · exact r_seq (r_region (rp rfl rfl (r_nil (r_rB tabOk h hF ⟨rfl, trivial⟩))))
  refine r_skip (r_seq (r_seq (r_region (rp rfl rfl (r_v (v_ld tabOk (h.box 1 rfl) (j := 2) rfl rfl rfl) rfl (rp rfl rfl (r_v (v_ld tabOk (h.box 0 rfl) (j := 2) rfl rfl rfl) rfl ?_)))))))
  obtain ⟨r3, hr3, hF⟩ := bindS hF
  refine r_callB r3 h call89 (laws_eqPortS_ok ⟨_, _, rfl, (h.oldS s3)⟩ ⟨_, _, rfl, (h.oldS s6)⟩ hr3) rfl rfl rfl rfl ?_
  intro w5 h
  refine rp rfl rfl (r_nil ?_)
  refine r_if rfl hF (fun hF => ?_) (fun hF => ?_)
  · exact r_seq (r_region (rp rfl rfl (r_nil (r_rB tabOk h hF ⟨rfl, trivial⟩))))
  exact r_skip (r_seq (r_region (rp rfl rfl (r_nil (r_rB tabOk h hF ⟨rfl, trivial⟩)))))

def laws_eqWire (n : Nat) (a : TWire) (b : TWire) : Option Bool :=
  (laws_eqInt64S n a.Parent b.Parent).bind fun r1 =>
  bif (!r1) then
    some false
  else
    (laws_eqInt64S n a.Res b.Res).bind fun r2 =>
    bif (!r2) then
      some false
    else
      (laws_eqInt64S n a.Cap b.Cap).bind fun r3 =>
      bif (!r3) then
        some false
      else
        (laws_eqInt64S n a.Sink b.Sink).bind fun r4 =>
        bif (!r4) then
          some false
        else
          some true

theorem laws_eqWire_ok {n : Nat} {w : World} {a : TWire} {b : TWire} {cs1 : List Value} (ha1 : GoT.R w (old w) a cs1) {cs2 : List Value} (ha2 : GoT.R w (old w) b cs2) {r : Bool} (hF : laws_eqWire n a b = some r) : RetV Tryz.prog 90 [GoT.v TWire cs1, GoT.v TWire cs2] w r := by
  obtain ⟨p1, k1, p2, k2, p3, k3, p4, k4, rfl, s1, s2, s3, s4⟩ := open_TWire ha1
  obtain ⟨p5, k5, p6, k6, p7, k7, p8, k8, rfl, s5, s6, s7, s8⟩ := open_TWire ha2
  refine retV_of_run Tryz.func90 rfl (m := 29) rfl rfl (fun h => ?_)
  rw [laws_eqWire] at hF
  refine r_seq (r_region (r_box h rfl rfl ?_))
  intro w1 bb1 h
  refine r_box h rfl rfl ?_
  intro w2 bb2 h
  refine rp rfl rfl (r_nil (r_seq (r_seq (r_region (rp rfl rfl (r_v (v_ld tabOk (h.box 1 rfl) (j := 0) rfl rfl rfl) rfl (rp rfl rfl (r_v (v_ld tabOk (h.box 0 rfl) (j := 0) rfl rfl rfl) rfl ?_))))))))
  obtain ⟨r1, hr1, hF⟩ := bindS hF
  refine r_callB r1 h call22 (laws_eqInt64S_ok ⟨_, _, rfl, (h.oldS s1)⟩ ⟨_, _, rfl, (h.oldS s5)⟩ hr1) rfl rfl rfl rfl ?_
  intro w3 h
  refine rp rfl rfl (r_nil ?_)
  refine r_if rfl hF (fun hF => ?_) (fun hF => ?_)
  · exact r_seq (r_region (rp rfl rfl (r_nil (r_rB tabOk h hF ⟨rfl, trivial⟩))))
  refine r_skip (r_seq (r_seq (r_region (rp rfl rfl (r_v (v_ld tabOk (h.box 1 rfl) (j := 1) rfl rfl rfl) rfl (rp rfl rfl (r_v (v_ld tabOk (h.box 0 rfl) (j := 1) rfl rfl rfl) rfl ?_)))))))
  obtain ⟨r2, hr2, hF⟩ := bindS hF
  refine r_callB r2 h call22 (laws_eqInt64S_ok ⟨_, _, rfl, (h.oldS s2)⟩ ⟨_, _, rfl, (h.oldS s6)⟩ hr2) rfl rfl rfl rfl ?_
  intro w4 h
  refine rp rfl rfl (r_nil ?_)
  refine r_if rfl hF (fun hF => ?_) (fun hF => ?_)
  · exact r_seq (r_region (rp rfl rfl (r_nil (r_rB tabOk h hF ⟨rfl, trivial⟩))))
  refine r_skip (r_seq (r_seq (r_region (rp rfl rfl (r_v (v_ld tabOk (h.box 1 rfl) (j := 2) rfl rfl rfl) rfl (rp rfl rfl (r_v (v_ld tabOk (h.box 0 rfl) (j := 2) rfl rfl rfl) rfl ?_)))))))
  obtain ⟨r3, hr3, hF⟩ := bindS hF
  refine r_callB r3 h call22 (laws_eqInt64S_ok ⟨_, _, rfl, (h.oldS s3)⟩ ⟨_, _, rfl, (h.oldS s7)⟩ hr3) rfl rfl rfl rfl ?_
  intro w5 h
  refine rp rfl rfl (r_nil ?_)
  refine r_if rfl hF (fun hF => ?_) (fun hF => ?_)
  · exact r_seq (r_region (rp rfl rfl (r_nil (r_rB tabOk h hF ⟨rfl, trivial⟩))))
  refine r_skip (r_seq (r_seq (r_region (rp rfl rfl (r_v (v_ld tabOk (h.box 1 rfl) (j := 3) rfl rfl rfl) rfl (rp rfl rfl (r_v (v_ld tabOk (h.box 0 rfl) (j := 3) rfl rfl rfl) rfl ?_)))))))
  obtain ⟨r4, hr4, hF⟩ := bindS hF
  refine r_callB r4 h call22 (laws_eqInt64S_ok ⟨_, _, rfl, (h.oldS s4)⟩ ⟨_, _, rfl, (h.oldS s8)⟩ hr4) rfl rfl rfl rfl ?_
  intro w6 h
  refine rp rfl rfl (r_nil ?_)
  refine r_if rfl hF (fun hF => ?_) (fun hF => ?_)
  · exact r_seq (r_region (rp rfl rfl (r_nil (r_rB tabOk h hF ⟨rfl, trivial⟩))))
  exact r_skip (r_seq (r_region (rp rfl rfl (r_nil (r_rB tabOk h hF ⟨rfl, trivial⟩)))))

def laws_eqWireS_L1 (a : (List TWire)) (b : (List TWire)) : Nat → Int → Option (Flow Bool Int)
  | 0, _ => none
  | n + 1, i1 =>
    bif decide (i1 < (a.length : Int)) then
      (idx a i1).bind fun y1 =>
      (idx b i1).bind fun y2 =>
      (laws_eqWire n y1 y2).bind fun r1 =>
      bif (!r1) then
        some (.ret false)
      else
        laws_eqWireS_L1 a b n (W64 (i1 + 1))
    else
      some (.nxt i1)

def laws_eqWireS (n : Nat) (a : (List TWire)) (b : (List TWire)) : Option Bool :=
  bif ((a.length : Int) != (b.length : Int)) then
    some false
  else
    (laws_eqWireS_L1 a b n 0).bind fun o => match o with
    | .ret r => some r
    | .nxt _ =>
      some true

theorem laws_eqWireS_ok {n : Nat} {w : World} {a : (List TWire)} {b : (List TWire)} {cs1 : List Value} (ha1 : GoT.R w (old w) a cs1) {cs2 : List Value} (ha2 : GoT.R w (old w) b cs2) {r : Bool} (hF : laws_eqWireS n a b = some r) : RetV Tryz.prog 44 [GoT.v (List TWire) cs1, GoT.v (List TWire) cs2] w r := by
  obtain ⟨p1, k1, rfl, s1⟩ := ha1
  obtain ⟨p2, k2, rfl, s2⟩ := ha2
  refine retV_of_run Tryz.func44 rfl (m := 27) rfl rfl (fun h => ?_)
  rw [laws_eqWireS] at hF
  refine r_seq (r_region (rp rfl rfl (r_nil (r_seq (r_seq (r_region (rp rfl rfl (rp rfl rfl (rp rfl rfl (rp rfl rfl (rp rfl rfl ?_)))))))))))
  refine r_nil ?_
  refine r_if rfl hF (fun hF => ?_) (fun hF => ?_)
  · exact r_seq (r_region (rp rfl rfl (r_nil (r_rB tabOk h hF ⟨rfl, trivial⟩))))
  refine r_skip (r_seq (r_seq (r_region (rp rfl rfl (r_nil ?_)))))
  obtain ⟨o1, hF, hK1⟩ := bindS hF
  refine r_block (r_sub [(0, _), (1, _), (5, _)] ⟨rfl, rfl, rfl, trivial⟩ ?_)
  refine r_loop (fun m e w' => ∃ (i1 : Int), laws_eqWireS_L1 a b m i1 = some o1 ∧ e = [(0, .slice p1 a.length k1), (1, .slice p2 b.length k2), (5, .int .i64 i1)] ∧ SH w w' []) n ⟨_, hF, rfl, h⟩ ?_
  rintro m1 e1 w1 ⟨i1, hF, rfl, h⟩
  rcases m1 with _ | m1
  · rw [laws_eqWireS_L1] at hF
    cases hF
  rw [laws_eqWireS_L1] at hF
  refine r_seq (r_seq (r_region (rp rfl rfl (rp rfl rfl (rp rfl rfl (rp rfl rfl (r_nil ?_)))))))
  refine r_if rfl hF (fun hF => ?_) (fun hF => ?_)
  · refine r_skip (r_seq (r_block (r_seq ?_)))
    refine r_draw rfl (by kernel_rfl) ?_
    refine dp rfl rfl (dp rfl rfl ?_)
    obtain ⟨y1, hy1, hF⟩ := bindS hF
    have he1 := idx_some hy1
    obtain ⟨b1, o_1, q1, cs3, hp1, hq1, -, hr1, hc3⟩ := s1.at hy1
    obtain ⟨p3, k3, p4, k4, p5, k5, p6, k6, rfl, s3, s4, s5, s6⟩ := open_TWire hr1
    refine d_v (fun _ hb => v_ix tabOk hp1 hq1 ⟨he1.1, he1.2.1⟩ rfl rfl rfl rfl rfl rfl) rfl ?_
    refine d_v (fun _ hb => v_ld tabOk ((hc3.below h.below).below hb) (j := 0) rfl rfl rfl) rfl ?_
    refine dp rfl rfl (dp rfl rfl ?_)
    obtain ⟨y2, hy2, hF⟩ := bindS hF
    have he2 := idx_some hy2
    obtain ⟨b2, o_2, q2, cs4, hp2, hq2, -, hr2, hc4⟩ := s2.at hy2
    obtain ⟨p7, k7, p8, k8, p9, k9, p10, k10, rfl, s7, s8, s9, s10⟩ := open_TWire hr2
    refine d_v (fun _ hb => v_ix tabOk hp2 hq2 ⟨he2.1, he2.2.1⟩ rfl rfl rfl rfl rfl rfl) rfl ?_
    refine d_v (fun _ hb => v_ld tabOk ((hc4.below h.below).below hb) (j := 0) rfl rfl rfl) rfl ?_
    obtain ⟨r1, hr3, hF⟩ := bindS hF
    refine d_call r1 (vsB _) call90 (fun _ hb => laws_eqWire_ok (mkR_TWire y1 ((h.ext hb).oldS s3) ((h.ext hb).oldS s4) ((h.ext hb).oldS s5) ((h.ext hb).oldS s6)) (mkR_TWire y2 ((h.ext hb).oldS s7) ((h.ext hb).oldS s8) ((h.ext hb).oldS s9) ((h.ext hb).oldS s10)) hr3) rfl rfl rfl rfl ?_
    refine dp rfl rfl ?_
    refine d_nil (fun w2 hb => ?_)
    replace h := h.ext hb
    clear hb
    refine r_if rfl hF (fun hF => ?_) (fun hF => ?_)
    · refine r_seq (r_region (rp rfl rfl (r_nil ?_)))
      obtain rfl := someI hF; replace hF := hK1
      exact r_rB tabOk h hF ⟨rfl, trivial⟩
    exact r_skip (r_blk (r_region (rp rfl rfl (rp rfl rfl (rp rfl rfl (r_nil (r_back m1 [(0, _), (1, _), (5, _)] (Nat.lt_succ_self m1) ⟨rfl, rfl, rfl, trivial⟩ ⟨_, hF, rfl, h⟩)))))))
  refine r_exit rfl ?_
  obtain rfl := someI hF; replace hF := hK1
  exact r_seq (r_region (rp rfl rfl (r_nil (r_rB tabOk h hF ⟨rfl, trivial⟩))))

def laws_eqBlock (n : Nat) (a : TBlock) (b : TBlock) : Option Bool :=
  (laws_eqLibrary n (⟨a.Library.Cells⟩ : TLibrary) (⟨b.Library.Cells⟩ : TLibrary)).bind fun r1 =>
  bif (!r1) then
    some false
  else
    (laws_eqDesign n (⟨a.Design.Instances, a.Design.Nets, a.Design.Ports⟩ : TDesign) (⟨b.Design.Instances, b.Design.Nets, b.Design.Ports⟩ : TDesign)).bind fun r2 =>
    bif (!r2) then
      some false
    else
      (laws_eqWireS n a.Wires b.Wires).bind fun r3 =>
      bif (!r3) then
        some false
      else
        some true

theorem laws_eqBlock_ok {n : Nat} {w : World} {a : TBlock} {b : TBlock} {cs1 : List Value} (ha1 : GoT.R w (old w) a cs1) {cs2 : List Value} (ha2 : GoT.R w (old w) b cs2) {r : Bool} (hF : laws_eqBlock n a b = some r) : RetV Tryz.prog 14 [GoT.v TBlock cs1, GoT.v TBlock cs2] w r := by
  obtain ⟨p1, k1, p2, k2, p3, k3, p4, k4, p5, k5, rfl, s1, s2, s3, s4, s5⟩ := open_TBlock ha1
  obtain ⟨p6, k6, p7, k7, p8, k8, p9, k9, p10, k10, rfl, s6, s7, s8, s9, s10⟩ := open_TBlock ha2
  refine retV_of_run Tryz.func14 rfl (m := 23) rfl rfl (fun h => ?_)
  rw [laws_eqBlock] at hF
  refine r_seq (r_region (r_box h rfl rfl ?_))
  intro w1 bb1 h
  refine r_box h rfl rfl ?_
  intro w2 bb2 h
  refine rp rfl rfl (r_nil (r_seq (r_seq (r_region (rp rfl rfl (r_v (v_ld tabOk (h.box 1 rfl) (j := 0) rfl rfl rfl) rfl (rp rfl rfl (r_v (v_ld tabOk (h.box 0 rfl) (j := 0) rfl rfl rfl) rfl ?_))))))))
  obtain ⟨r1, hr1, hF⟩ := bindS hF
  refine r_callB r1 h call42 (laws_eqLibrary_ok (mkR_TLibrary (⟨a.Library.Cells⟩ : TLibrary) (h.oldS s1)) (mkR_TLibrary (⟨b.Library.Cells⟩ : TLibrary) (h.oldS s6)) hr1) rfl rfl rfl rfl ?_
  intro w3 h
  refine rp rfl rfl (r_nil ?_)
  refine r_if rfl hF (fun hF => ?_) (fun hF => ?_)
  · exact r_seq (r_region (rp rfl rfl (r_nil (r_rB tabOk h hF ⟨rfl, trivial⟩))))
  refine r_skip (r_seq (r_seq (r_region (rp rfl rfl (r_v (v_ld tabOk (h.box 1 rfl) (j := 1) rfl rfl rfl) rfl (rp rfl rfl (r_v (v_ld tabOk (h.box 0 rfl) (j := 1) rfl rfl rfl) rfl ?_)))))))
  obtain ⟨r2, hr2, hF⟩ := bindS hF
  refine r_callB r2 h call43 (laws_eqDesign_ok (mkR_TDesign (⟨a.Design.Instances, a.Design.Nets, a.Design.Ports⟩ : TDesign) (h.oldS s2) (h.oldS s3) (h.oldS s4)) (mkR_TDesign (⟨b.Design.Instances, b.Design.Nets, b.Design.Ports⟩ : TDesign) (h.oldS s7) (h.oldS s8) (h.oldS s9)) hr2) rfl rfl rfl rfl ?_
  intro w4 h
  refine rp rfl rfl (r_nil ?_)
  refine r_if rfl hF (fun hF => ?_) (fun hF => ?_)
  · exact r_seq (r_region (rp rfl rfl (r_nil (r_rB tabOk h hF ⟨rfl, trivial⟩))))
  refine r_skip (r_seq (r_seq (r_region (rp rfl rfl (r_v (v_ld tabOk (h.box 1 rfl) (j := 4) rfl rfl rfl) rfl (rp rfl rfl (r_v (v_ld tabOk (h.box 0 rfl) (j := 4) rfl rfl rfl) rfl ?_)))))))
  obtain ⟨r3, hr3, hF⟩ := bindS hF
  refine r_callB r3 h call44 (laws_eqWireS_ok ⟨_, _, rfl, (h.oldS s5)⟩ ⟨_, _, rfl, (h.oldS s10)⟩ hr3) rfl rfl rfl rfl ?_
  intro w5 h
  refine rp rfl rfl (r_nil ?_)
  refine r_if rfl hF (fun hF => ?_) (fun hF => ?_)
  · exact r_seq (r_region (rp rfl rfl (r_nil (r_rB tabOk h hF ⟨rfl, trivial⟩))))
  exact r_skip (r_seq (r_region (rp rfl rfl (r_nil (r_rB tabOk h hF ⟨rfl, trivial⟩)))))

def spec_l01In (_ : Nat) (a_n : Int) (low : Int) (high : Int) : Option Bool :=
  bif decide (a_n ≥ low) then
    some (decide (a_n ≤ high))
  else
    some false

theorem spec_l01In_ok {n : Nat} {w : World} {a_n : Int} {low : Int} {high : Int}  {r : Bool} (hF : spec_l01In n a_n low high = some r) : RetV Tryz.prog 35 [.int .i64 a_n, .int .i64 low, .int .i64 high] w r := by
  refine retV_of_run Tryz.func35 rfl (m := 15) rfl rfl (fun h => ?_)
  rw [spec_l01In] at hF
  refine r_seq (r_region (rp rfl rfl (r_nil (r_seq (r_region (rp rfl rfl (rp rfl rfl (rp rfl rfl (rp rfl rfl ?_)))))))))
  by_cases hc1 : (decide (a_n ≥ low)) = true
  · replace hF := bifT hc1 hF
    exact r_setT hc1 (t := 10) rfl (r_wanted rfl (rp rfl rfl (r_wanted rfl (rp rfl rfl (r_wanted rfl (rp rfl rfl (rp rfl rfl (rp rfl rfl (r_nil (r_rB tabOk h hF ⟨rfl, trivial⟩))))))))))
  replace hc1 := Bool.eq_false_iff.2 hc1
  replace hF := bifF hc1 hF
  exact r_setF hc1 (t := 10) rfl (r_not rfl rfl rfl (r_not rfl rfl rfl (r_not rfl rfl rfl (rp rfl rfl (rp rfl rfl (r_nil (r_rB tabOk h hF ⟨rfl, trivial⟩)))))))

def spec_l03Name_L1 (s : ByteArray) : Nat → Int → Option (Flow Bool Int)
  | 0, _ => none
  | n + 1, i1 =>
    bif decide (i1 < (s.size : Int)) then
      (
        (atS s i1).bind fun y3 =>
        bif decide (y3 ≥ 97) then
          (atS s i1).bind fun y4 =>
          some (decide (y4 ≤ 122))
        else
          some false).bind fun b1 =>
      (
        (atS s i1).bind fun y1 =>
        bif decide (y1 ≥ 48) then
          (atS s i1).bind fun y2 =>
          some (decide (y2 ≤ 57))
        else
          some false).bind fun b2 =>
      bif (!b1) then
        bif b2 then
          bif (!(decide (i1 > 0))) then
            some (.ret false)
          else
            spec_l03Name_L1 s n (W64 (i1 + 1))
        else
          some (.ret false)
      else
        spec_l03Name_L1 s n (W64 (i1 + 1))
    else
      some (.nxt i1)

def spec_l03Name (n : Nat) (s : ByteArray) : Option Bool :=
  (spec_l03Name_L1 s n 0).bind fun o => match o with
  | .ret r => some r
  | .nxt _ =>
    bif decide ((s.size : Int) ≥ 1) then
      some (decide ((s.size : Int) ≤ 8))
    else
      some false

theorem spec_l03Name_ok {n : Nat} {w : World} {s : ByteArray}  {r : Bool} (hF : spec_l03Name n s = some r) : RetV Tryz.prog 150 [.string s] w r := by
  refine retV_of_run Tryz.func150 rfl (m := 50) rfl rfl (fun h => ?_)
  rw [spec_l03Name] at hF
  refine r_seq (r_region (rp rfl rfl (r_nil (r_seq (r_seq (r_region (rp rfl rfl (r_nil ?_))))))))
  obtain ⟨o1, hF, hK1⟩ := bindS hF
  refine r_block (r_sub [(0, _), (3, _)] ⟨rfl, rfl, trivial⟩ ?_)
  refine r_loop (fun m e w' => ∃ (i1 : Int), spec_l03Name_L1 s m i1 = some o1 ∧ e = [(0, .string s), (3, .int .i64 i1)] ∧ SH w w' []) n ⟨_, hF, rfl, h⟩ ?_
  rintro m1 e1 w1 ⟨i1, hF, rfl, h⟩
  rcases m1 with _ | m1
  · rw [spec_l03Name_L1] at hF
    cases hF
  rw [spec_l03Name_L1] at hF
  refine r_seq (r_seq (r_region (rp rfl rfl (rp rfl rfl (rp rfl rfl (rp rfl rfl (r_nil ?_)))))))
  refine r_if rfl hF (fun hF => ?_) (fun hF => ?_)
  · refine r_skip (r_seq (r_block (r_seq ?_)))
    obtain ⟨KF2, hKF2, o3, hF, hK3⟩ := bindE hF
    refine r_cut (fun e w' => ∃ (b1 : Bool), KF2 b1 = some o1 ∧ e = [(0, .string s), (3, .int .i64 i1), (4, .bool b1)] ∧ SH w w' []) ?_ ?_
    · refine r_region (rp rfl rfl (rp rfl rfl ?_))
      obtain ⟨y3, hx3, hF⟩ := bindS hF
      have g3 := atS_some hx3
      refine r_v (v_sindex tabOk g3 rfl rfl rfl rfl) rfl (rp rfl rfl (rp rfl rfl ?_))
      by_cases hc6 : (decide (y3 ≥ 97)) = true
      · replace hF := bifT hc6 hF
        refine r_setT hc6 (t := 16) rfl (r_wanted rfl (rp rfl rfl (r_wanted rfl (rp rfl rfl (r_wanted rfl ?_)))))
        obtain ⟨y4, hx4, hF⟩ := bindS hF
        have g4 := atS_some hx4
        refine r_v (v_sindex tabOk g4 rfl rfl rfl rfl) rfl (r_wanted rfl (rp rfl rfl (rp rfl rfl (rp rfl rfl (r_nil ?_)))))
        obtain rfl := someI hF
        exact r_cutgoal [(0, _), (3, _), (4, _)] ⟨rfl, rfl, rfl, trivial⟩ ⟨_, hK3, rfl, h⟩
      replace hc6 := Bool.eq_false_iff.2 hc6
      replace hF := bifF hc6 hF
      refine r_setF hc6 (t := 16) rfl (r_not rfl rfl rfl (r_not rfl rfl rfl (r_not rfl rfl rfl (r_not rfl rfl rfl (rp rfl rfl (rp rfl rfl (r_nil ?_)))))))
      obtain rfl := someI hF
      exact r_cutgoal [(0, _), (3, _), (4, _)] ⟨rfl, rfl, rfl, trivial⟩ ⟨_, hK3, rfl, h⟩
    rintro e3 w3 ⟨b1, hF, rfl, h⟩
    subst hKF2
    refine r_seq ?_
    obtain ⟨KF1, hKF1, o2, hF, hK2⟩ := bindE hF
    refine r_cut (fun e w' => ∃ (b2 : Bool), KF1 b2 = some o1 ∧ e = [(0, .string s), (3, .int .i64 i1), (4, .bool b1), (5, .bool b2)] ∧ SH w w' []) ?_ ?_
    · refine r_region (rp rfl rfl (rp rfl rfl ?_))
      obtain ⟨y1, hx1, hF⟩ := bindS hF
      have g1 := atS_some hx1
      refine r_v (v_sindex tabOk g1 rfl rfl rfl rfl) rfl (rp rfl rfl (rp rfl rfl ?_))
      by_cases hc5 : (decide (y1 ≥ 48)) = true
      · replace hF := bifT hc5 hF
        refine r_setT hc5 (t := 26) rfl (r_wanted rfl (rp rfl rfl (r_wanted rfl (rp rfl rfl (r_wanted rfl ?_)))))
        obtain ⟨y2, hx2, hF⟩ := bindS hF
        have g2 := atS_some hx2
        refine r_v (v_sindex tabOk g2 rfl rfl rfl rfl) rfl (r_wanted rfl (rp rfl rfl (rp rfl rfl (rp rfl rfl (r_nil ?_)))))
        obtain rfl := someI hF
        exact r_cutgoal [(0, _), (3, _), (4, _), (5, _)] ⟨rfl, rfl, rfl, rfl, trivial⟩ ⟨_, hK2, rfl, h⟩
      replace hc5 := Bool.eq_false_iff.2 hc5
      replace hF := bifF hc5 hF
      refine r_setF hc5 (t := 26) rfl (r_not rfl rfl rfl (r_not rfl rfl rfl (r_not rfl rfl rfl (r_not rfl rfl rfl (rp rfl rfl (rp rfl rfl (r_nil ?_)))))))
      obtain rfl := someI hF
      exact r_cutgoal [(0, _), (3, _), (4, _), (5, _)] ⟨rfl, rfl, rfl, rfl, trivial⟩ ⟨_, hK2, rfl, h⟩
    rintro e2 w2 ⟨b2, hF, rfl, h⟩
    subst hKF1
    refine r_seq (r_region (rp rfl rfl (rp rfl rfl (rp rfl rfl ?_))))
    by_cases hc2 : (!b1) = true
    · replace hF := bifT hc2 hF
      refine r_setT hc2 (t := 34) rfl (r_wanted rfl (rp rfl rfl (r_wanted rfl (rp rfl rfl ?_))))
      by_cases hc3 : b2 = true
      · replace hF := bifT hc3 hF
        refine r_setT hc3 (t := 36) rfl (r_wanted rfl (rp rfl rfl (r_wanted rfl (rp rfl rfl (r_wanted rfl (rp rfl rfl (r_wanted rfl (rp rfl rfl (rp rfl rfl (r_nil ?_))))))))))
        refine r_if rfl hF (fun hF => ?_) (fun hF => ?_)
        · refine r_seq (r_region (rp rfl rfl (r_nil ?_)))
          obtain rfl := someI hF; replace hF := hK1
          exact r_rB tabOk h hF ⟨rfl, trivial⟩
        exact r_skip (r_blk (r_region (rp rfl rfl (rp rfl rfl (rp rfl rfl (r_nil (r_back m1 [(0, _), (3, _)] (Nat.lt_succ_self m1) ⟨rfl, rfl, trivial⟩ ⟨_, hF, rfl, h⟩)))))))
      replace hc3 := Bool.eq_false_iff.2 hc3
      replace hF := bifF hc3 hF
      refine r_setF hc3 (t := 36) rfl (r_not rfl rfl rfl (r_not rfl rfl rfl (r_wanted rfl (rp rfl rfl (r_wanted rfl (rp rfl rfl (rp rfl rfl (r_nil (r_condT rfl rfl (r_seq (r_region ?_)))))))))))
      refine rp rfl rfl (r_nil ?_)
      obtain rfl := someI hF; replace hF := hK1
      exact r_rB tabOk h hF ⟨rfl, trivial⟩
    replace hc2 := Bool.eq_false_iff.2 hc2
    replace hF := bifF hc2 hF
    refine r_setF hc2 (t := 34) rfl (r_not rfl rfl rfl (r_not rfl rfl rfl (r_not rfl rfl rfl (r_not rfl rfl rfl (r_not rfl rfl rfl (r_not rfl rfl rfl (rp rfl rfl (r_nil (r_condF rfl rfl (r_skip (r_blk ?_)))))))))))
    exact r_region (rp rfl rfl (rp rfl rfl (rp rfl rfl (r_nil (r_back m1 [(0, _), (3, _)] (Nat.lt_succ_self m1) ⟨rfl, rfl, trivial⟩ ⟨_, hF, rfl, h⟩)))))
  refine r_exit rfl ?_
  obtain rfl := someI hF; replace hF := hK1
  refine r_seq (r_region (rp rfl rfl (rp rfl rfl (rp rfl rfl (rp rfl rfl ?_)))))
  by_cases hc7 : (decide ((s.size : Int) ≥ 1)) = true
  · replace hF := bifT hc7 hF
    exact r_setT hc7 (t := 45) rfl (r_wanted rfl (rp rfl rfl (r_wanted rfl (rp rfl rfl (r_wanted rfl (rp rfl rfl (rp rfl rfl (rp rfl rfl (r_nil (r_rB tabOk h hF ⟨rfl, trivial⟩))))))))))
  replace hc7 := Bool.eq_false_iff.2 hc7
  replace hF := bifF hc7 hF
  exact r_setF hc7 (t := 45) rfl (r_not rfl rfl rfl (r_not rfl rfl rfl (r_not rfl rfl rfl (rp rfl rfl (rp rfl rfl (r_nil (r_rB tabOk h hF ⟨rfl, trivial⟩)))))))

def spec_l03Pins_L2 (a_0 : TCell) (i2 : Int) (y1 : TPin) : Nat → Int → Option (Flow (Int × Bool) Int)
  | 0, _ => none
  | n + 1, i3 =>
    bif decide (i3 < i2) then
      (idx a_0.Pins i3).bind fun y2 =>
      bif (y2.Name.toList == y1.Name.toList) then
        some (.ret (0, false))
      else
        spec_l03Pins_L2 a_0 i2 y1 n (W64 (i3 + 1))
    else
      some (.nxt i3)

def spec_l03Pins_L1 (a_0 : TCell) : Nat → Int → Int → Option (Flow (Int × Bool) (Int × Int))
  | 0, _, _ => none
  | n + 1, i1, i2 =>
    bif decide (i2 < (a_0.Pins.length : Int)) then
      (idx a_0.Pins i2).bind fun y1 =>
      (spec_l03Pins_L2 a_0 i2 y1 n 0).bind fun o => match o with
      | .ret r => some (.ret r)
      | .nxt _ =>
        (
          (spec_l03Name n y1.Name).bind fun r1 =>
          bif (!r1) then
            some true
          else
            (spec_l01In n y1.Cap 0 500).bind fun r2 =>
            some (!r2)).bind fun b4 =>
        bif b4 then
          some (.ret (0, false))
        else
          (
            bif (i2 == (W64 ((a_0.Pins.length : Int) - 1))) then
              bif (y1.Dir != 2) then
                some true
              else
                bif (y1.Cap != 0) then
                  some true
                else
                  bif y1.Clock then
                    some true
                  else
                    bif decide (i2 < (W64 ((a_0.Pins.length : Int) - 1))) then
                      some (y1.Dir != 1)
                    else
                      some false
            else
              bif decide (i2 < (W64 ((a_0.Pins.length : Int) - 1))) then
                some (y1.Dir != 1)
              else
                some false).bind fun b5 =>
          bif b5 then
            some (.ret (0, false))
          else
            bif y1.Clock then
              spec_l03Pins_L1 a_0 n (W64 (i1 + 1)) (W64 (i2 + 1))
            else
              spec_l03Pins_L1 a_0 n i1 (W64 (i2 + 1))
    else
      some (.nxt (i1, i2))

def spec_l03Pins (n : Nat) (a_0 : TCell) : Option (Int × Bool) :=
  (
    bif decide ((a_0.Pins.length : Int) < 2) then
      some true
    else
      some (decide ((a_0.Pins.length : Int) > 5))).bind fun b1 =>
  bif b1 then
    some (0, false)
  else
    (spec_l03Pins_L1 a_0 n 0 0).bind fun o => match o with
    | .ret r => some r
    | .nxt (i1, _) =>
      some (i1, true)

theorem spec_l03Pins_ok {n : Nat} {w : World} {a_0 : TCell} {cs1 : List Value} (ha1 : GoT.R w (old w) a_0 cs1) {r : (Int × Bool)} (hF : spec_l03Pins n a_0 = some r) : RetV Tryz.prog 165 [GoT.v TCell cs1] w r := by
  obtain ⟨p1, k1, p2, k2, p3, k3, rfl, s1, s2, s3⟩ := open_TCell ha1
  refine retV_of_run Tryz.func165 rfl (m := 86) rfl rfl (fun h => ?_)
  rw [spec_l03Pins] at hF
  refine r_seq (r_region (r_box h rfl rfl ?_))
  intro w1 bb1 h
  refine rp rfl rfl (rp rfl rfl (r_nil (r_seq (r_region (rp rfl rfl (r_v (v_ld tabOk (h.box 0 rfl) (j := 2) rfl rfl rfl) rfl (rp rfl rfl (rp rfl rfl (r_nil (r_seq (r_seq ?_)))))))))))
  obtain ⟨KF3, hKF3, o5, hF, hK5⟩ := bindE hF
  refine r_cut (fun e w' => ∃ (b1 : Bool), KF3 b1 = some r ∧ e = [(1, .pointer (some ⟨bb1, 0, none⟩)), (4, .int .i64 (a_0.Pins.length : Int)), (17, .bool b1)] ∧ SH w w' [Ch.box bb1 [.string a_0.Name, .int .i64 a_0.Kind, .slice p1 a_0.Pins.length k1, .slice p2 a_0.Arcs.length k2, .slice p3 a_0.Truth.length k3, .int .i64 a_0.Leak, .int .i64 a_0.Energy] 155]) ?_ ?_
  · refine r_region (rp rfl rfl (rp rfl rfl (rp rfl rfl ?_)))
    by_cases hc17 : (decide ((a_0.Pins.length : Int) < 2)) = true
    · replace hF := bifT hc17 hF
      refine r_setT hc17 (t := 14) rfl (r_not rfl rfl rfl (r_not rfl rfl rfl (rp rfl rfl (r_nil ?_))))
      obtain rfl := someI hF
      exact r_cutgoal [(1, _), (4, _), (17, _)] ⟨rfl, rfl, rfl, trivial⟩ ⟨_, hK5, rfl, h⟩
    replace hc17 := Bool.eq_false_iff.2 hc17
    replace hF := bifF hc17 hF
    refine r_setF hc17 (t := 14) rfl (r_wanted rfl (rp rfl rfl (r_wanted rfl (rp rfl rfl (rp rfl rfl (r_nil ?_))))))
    obtain rfl := someI hF
    exact r_cutgoal [(1, _), (4, _), (17, _)] ⟨rfl, rfl, rfl, trivial⟩ ⟨_, hK5, rfl, h⟩
  rintro e5 w11 ⟨b1, hF, rfl, h⟩
  subst hKF3
  refine r_if rfl hF (fun hF => ?_) (fun hF => ?_)
  · refine r_seq (r_region (rp rfl rfl (rp rfl rfl (r_nil ?_))))
    obtain rfl := someI hF
    exact r_retV tabOk (ρ := (Int × Bool)) [GoT.v Int [.int .i64 0], GoT.v Bool [.bool false]] h ⟨rfl, rfl, trivial⟩ (PV.done h (pv_cons h (po_flat (S := fun _ => False) rfl) (pv_one (po_flat (S := fun _ => False) rfl)) (by rfl)))
  refine r_skip (r_seq (r_region (rp rfl rfl (r_nil (r_seq (r_seq (r_region (rp rfl rfl (r_nil ?_)))))))))
  obtain ⟨o1, hF, hK1⟩ := bindS hF
  refine r_block (r_sub [(1, _), (4, _), (5, _), (6, _)] ⟨rfl, rfl, rfl, rfl, trivial⟩ ?_)
  refine r_loop (fun m e w' => ∃ (i1 : Int) (i2 : Int), spec_l03Pins_L1 a_0 m i1 i2 = some o1 ∧ e = [(1, .pointer (some ⟨bb1, 0, none⟩)), (4, .int .i64 (a_0.Pins.length : Int)), (5, .int .i64 i1), (6, .int .i64 i2)] ∧ SH w w' [Ch.box bb1 [.string a_0.Name, .int .i64 a_0.Kind, .slice p1 a_0.Pins.length k1, .slice p2 a_0.Arcs.length k2, .slice p3 a_0.Truth.length k3, .int .i64 a_0.Leak, .int .i64 a_0.Energy] 155]) n ⟨_, _, hF, rfl, h⟩ ?_
  rintro m1 e1 w2 ⟨i1, i2, hF, rfl, h⟩
  rcases m1 with _ | m1
  · rw [spec_l03Pins_L1] at hF
    cases hF
  rw [spec_l03Pins_L1] at hF
  refine r_seq (r_seq (r_region (rp rfl rfl (rp rfl rfl (rp rfl rfl (r_nil ?_))))))
  refine r_if rfl hF (fun hF => ?_) (fun hF => ?_)
  · refine r_skip (r_seq (r_block (r_seq (r_region (rp rfl rfl (r_v (v_ld tabOk (h.box 0 rfl) (j := 2) rfl rfl rfl) rfl (rp rfl rfl ?_)))))))
    obtain ⟨y1, hy1, hF⟩ := bindS hF
    have he1 := idx_some hy1
    obtain ⟨b2, o_1, q1, cs2, hp1, hq1, -, hr1, hc3⟩ := s1.at hy1
    obtain rfl := open_TPin hr1
    refine r_v (v_ix tabOk hp1 hq1 ⟨he1.1, he1.2.1⟩ rfl rfl rfl rfl rfl rfl) rfl (r_v (v_ld tabOk (hc3.below h.below) (j := 0) rfl rfl rfl) rfl (r_alloc tabOk h rfl rfl rfl ?_))
    intro w3 bb2 h
    refine r_stbox tabOk 0 h rfl rfl rfl rfl rfl rfl rfl ?_
    intro w4 h
    refine r_nil (r_seq (r_seq (r_region (rp rfl rfl (r_nil ?_)))))
    obtain ⟨o2, hF, hK2⟩ := bindS hF
    refine r_block (r_sub [(1, _), (4, _), (5, _), (6, _), (7, _), (8, _)] ⟨rfl, rfl, rfl, rfl, rfl, rfl, trivial⟩ ?_)
    refine r_loop (fun m e w' => ∃ (i3 : Int), spec_l03Pins_L2 a_0 i2 y1 m i3 = some o2 ∧ e = [(1, .pointer (some ⟨bb1, 0, none⟩)), (4, .int .i64 (a_0.Pins.length : Int)), (5, .int .i64 i1), (6, .int .i64 i2), (7, .pointer (some ⟨bb2, 0, none⟩)), (8, .int .i64 i3)] ∧ SH w w' [Ch.box bb2 [.string y1.Name, .int .i64 y1.Dir, .int .i64 y1.Cap, .bool y1.Clock] 199, Ch.box bb1 [.string a_0.Name, .int .i64 a_0.Kind, .slice p1 a_0.Pins.length k1, .slice p2 a_0.Arcs.length k2, .slice p3 a_0.Truth.length k3, .int .i64 a_0.Leak, .int .i64 a_0.Energy] 155]) m1 ⟨_, hF, rfl, h⟩ ?_
    rintro m2 e2 w5 ⟨i3, hF, rfl, h⟩
    rcases m2 with _ | m2
    · rw [spec_l03Pins_L2] at hF
      cases hF
    rw [spec_l03Pins_L2] at hF
    refine r_seq (r_seq (r_region (rp rfl rfl (rp rfl rfl (rp rfl rfl (r_nil ?_))))))
    refine r_if rfl hF (fun hF => ?_) (fun hF => ?_)
    · refine r_skip (r_seq (r_block (r_seq ?_)))
      refine r_draw rfl (by kernel_rfl) ?_
      refine dp rfl rfl ?_
      refine d_v (fun _ hb => v_ld tabOk ((h.box 1 rfl).below hb) (j := 2) rfl rfl rfl) rfl ?_
      refine dp rfl rfl ?_
      obtain ⟨y2, hy2, hF⟩ := bindS hF
      have he2 := idx_some hy2
      obtain ⟨b3, o_2, q2, cs3, hp2, hq2, -, hr2, hc5⟩ := s1.at hy2
      obtain rfl := open_TPin hr2
      refine d_v (fun _ hb => v_ix tabOk hp2 hq2 ⟨he2.1, he2.2.1⟩ rfl rfl rfl rfl rfl rfl) rfl ?_
      refine dp rfl rfl ?_
      refine d_v (fun _ hb => v_ld tabOk ((hc5.below h.below).below hb) (j := 0) rfl rfl rfl) rfl ?_
      refine dp rfl rfl ?_
      refine d_v (fun _ hb => v_ld tabOk ((h.box 0 rfl).below hb) (j := 0) rfl rfl rfl) rfl ?_
      refine dp rfl rfl ?_
      refine d_nil (fun w6 hb => ?_)
      replace h := h.ext hb
      clear hb
      refine r_if rfl hF (fun hF => ?_) (fun hF => ?_)
      · refine r_seq (r_region (rp rfl rfl (rp rfl rfl (r_nil ?_))))
        obtain rfl := someI hF; replace hF := hK2
        obtain rfl := someI hF; replace hF := hK1
        obtain rfl := someI hF
        exact r_retV tabOk (ρ := (Int × Bool)) [GoT.v Int [.int .i64 0], GoT.v Bool [.bool false]] h ⟨rfl, rfl, trivial⟩ (PV.done h (pv_cons h (po_flat (S := fun _ => False) rfl) (pv_one (po_flat (S := fun _ => False) rfl)) (by rfl)))
      exact r_skip (r_blk (r_region (rp rfl rfl (rp rfl rfl (rp rfl rfl (r_nil (r_back m2 [(1, _), (4, _), (5, _), (6, _), (7, _), (8, _)] (Nat.lt_succ_self m2) ⟨rfl, rfl, rfl, rfl, rfl, rfl, trivial⟩ ⟨_, hF, rfl, h⟩)))))))
    refine r_exit rfl ?_
    obtain rfl := someI hF; replace hF := hK2
    refine r_seq (r_seq ?_)
    obtain ⟨KF2, hKF2, o4, hF, hK4⟩ := bindE hF
    refine r_cut (fun e w' => ∃ (b4 : Bool), KF2 b4 = some o1 ∧ e = [(1, .pointer (some ⟨bb1, 0, none⟩)), (4, .int .i64 (a_0.Pins.length : Int)), (5, .int .i64 i1), (6, .int .i64 i2), (7, .pointer (some ⟨bb2, 0, none⟩)), (51, .bool b4)] ∧ SH w w' [Ch.box bb2 [.string y1.Name, .int .i64 y1.Dir, .int .i64 y1.Cap, .bool y1.Clock] 199, Ch.box bb1 [.string a_0.Name, .int .i64 a_0.Kind, .slice p1 a_0.Pins.length k1, .slice p2 a_0.Arcs.length k2, .slice p3 a_0.Truth.length k3, .int .i64 a_0.Leak, .int .i64 a_0.Energy] 155]) ?_ ?_
    · refine r_region (rp rfl rfl (r_v (v_ld tabOk (h.box 0 rfl) (j := 0) rfl rfl rfl) rfl ?_))
      obtain ⟨r1, hr3, hF⟩ := bindS hF
      refine r_callB r1 h call150 (spec_l03Name_ok hr3) rfl rfl rfl rfl ?_
      intro w8 h
      refine rp rfl rfl (rp rfl rfl ?_)
      by_cases hc16 : (!r1) = true
      · replace hF := bifT hc16 hF
        refine r_setT hc16 (t := 46) rfl (r_not rfl rfl rfl (r_not rfl rfl rfl (r_not rfl rfl rfl (r_not rfl rfl rfl (rp rfl rfl (r_nil ?_))))))
        obtain rfl := someI hF
        exact r_cutgoal [(1, _), (4, _), (5, _), (6, _), (7, _), (51, _)] ⟨rfl, rfl, rfl, rfl, rfl, rfl, trivial⟩ ⟨_, hK4, rfl, h⟩
      replace hc16 := Bool.eq_false_iff.2 hc16
      replace hF := bifF hc16 hF
      refine r_setF hc16 (t := 46) rfl (r_wanted rfl (rp rfl rfl (r_wanted rfl (r_v (v_ld tabOk (h.box 0 rfl) (j := 2) rfl rfl rfl) rfl (r_wanted rfl ?_)))))
      obtain ⟨r2, hr4, hF⟩ := bindS hF
      refine r_callB r2 h call35 (spec_l01In_ok hr4) rfl rfl rfl rfl ?_
      intro w9 h
      refine r_wanted rfl (rp rfl rfl (rp rfl rfl (r_nil ?_)))
      obtain rfl := someI hF
      exact r_cutgoal [(1, _), (4, _), (5, _), (6, _), (7, _), (51, _)] ⟨rfl, rfl, rfl, rfl, rfl, rfl, trivial⟩ ⟨_, hK4, rfl, h⟩
    rintro e4 w10 ⟨b4, hF, rfl, h⟩
    subst hKF2
    refine r_if rfl hF (fun hF => ?_) (fun hF => ?_)
    · refine r_seq (r_region (rp rfl rfl (rp rfl rfl (r_nil ?_))))
      obtain rfl := someI hF; replace hF := hK1
      obtain rfl := someI hF
      exact r_retV tabOk (ρ := (Int × Bool)) [GoT.v Int [.int .i64 0], GoT.v Bool [.bool false]] h ⟨rfl, rfl, trivial⟩ (PV.done h (pv_cons h (po_flat (S := fun _ => False) rfl) (pv_one (po_flat (S := fun _ => False) rfl)) (by rfl)))
    refine r_skip (r_seq (r_seq ?_))
    obtain ⟨KF1, hKF1, o3, hF, hK3⟩ := bindE hF
    refine r_cut (fun e w' => ∃ (b5 : Bool), KF1 b5 = some o1 ∧ e = [(1, .pointer (some ⟨bb1, 0, none⟩)), (4, .int .i64 (a_0.Pins.length : Int)), (5, .int .i64 i1), (6, .int .i64 i2), (7, .pointer (some ⟨bb2, 0, none⟩)), (80, .bool b5)] ∧ SH w w' [Ch.box bb2 [.string y1.Name, .int .i64 y1.Dir, .int .i64 y1.Cap, .bool y1.Clock] 199, Ch.box bb1 [.string a_0.Name, .int .i64 a_0.Kind, .slice p1 a_0.Pins.length k1, .slice p2 a_0.Arcs.length k2, .slice p3 a_0.Truth.length k3, .int .i64 a_0.Leak, .int .i64 a_0.Energy] 155]) ?_ ?_
    · refine r_region (rp rfl rfl (rp rfl rfl (rp rfl rfl (rp rfl rfl (rp rfl rfl ?_)))))
      by_cases hc10 : (i2 == (W64 ((a_0.Pins.length : Int) - 1))) = true
      · replace hF := bifT hc10 hF
        refine r_setT hc10 (t := 56) rfl (r_wanted rfl (rp rfl rfl (r_wanted rfl (r_v (v_ld tabOk (h.box 0 rfl) (j := 1) rfl rfl rfl) rfl (r_wanted rfl (rp rfl rfl (r_wanted rfl (rp rfl rfl ?_))))))))
        by_cases hc11 : (y1.Dir != 2) = true
        · replace hF := bifT hc11 hF
          refine r_setT hc11 (t := 60) rfl (r_not rfl rfl rfl (r_not rfl rfl rfl (r_not rfl rfl rfl (r_wanted rfl (rp rfl rfl (r_wanted rfl (rp rfl rfl (r_not rfl rfl rfl (r_not rfl rfl rfl (r_wanted rfl (rp rfl rfl ?_)))))))))))
          refine rp rfl rfl (rp rfl rfl (r_not rfl rfl rfl (r_not rfl rfl rfl (r_not rfl rfl rfl (r_not rfl rfl rfl (r_not rfl rfl rfl (r_not rfl rfl rfl (r_not rfl rfl rfl (r_not rfl rfl rfl (r_not rfl rfl rfl (rp rfl rfl ?_)))))))))))
          refine r_nil ?_
          obtain rfl := someI hF
          exact r_cutgoal [(1, _), (4, _), (5, _), (6, _), (7, _), (80, _)] ⟨rfl, rfl, rfl, rfl, rfl, rfl, trivial⟩ ⟨_, hK3, rfl, h⟩
        replace hc11 := Bool.eq_false_iff.2 hc11
        replace hF := bifF hc11 hF
        refine r_setF hc11 (t := 60) rfl (r_wanted rfl (rp rfl rfl (r_wanted rfl (r_v (v_ld tabOk (h.box 0 rfl) (j := 2) rfl rfl rfl) rfl (r_wanted rfl (rp rfl rfl (r_wanted rfl (rp rfl rfl (r_wanted rfl (rp rfl rfl ?_))))))))))
        by_cases hc12 : (y1.Cap != 0) = true
        · replace hF := bifT hc12 hF
          refine r_setT hc12 (t := 65) rfl (r_not rfl rfl rfl (r_not rfl rfl rfl (r_wanted rfl (rp rfl rfl (rp rfl rfl (rp rfl rfl (r_not rfl rfl rfl (r_not rfl rfl rfl (r_not rfl rfl rfl (r_not rfl rfl rfl (r_not rfl rfl rfl ?_)))))))))))
          refine r_not rfl rfl rfl (r_not rfl rfl rfl (r_not rfl rfl rfl (r_not rfl rfl rfl (rp rfl rfl (r_nil ?_)))))
          obtain rfl := someI hF
          exact r_cutgoal [(1, _), (4, _), (5, _), (6, _), (7, _), (80, _)] ⟨rfl, rfl, rfl, rfl, rfl, rfl, trivial⟩ ⟨_, hK3, rfl, h⟩
        replace hc12 := Bool.eq_false_iff.2 hc12
        replace hF := bifF hc12 hF
        refine r_setF hc12 (t := 65) rfl (r_wanted rfl (rp rfl rfl (r_wanted rfl (r_v (v_ld tabOk (h.box 0 rfl) (j := 3) rfl rfl rfl) rfl (r_wanted rfl (rp rfl rfl (rp rfl rfl (rp rfl rfl ?_))))))))
        by_cases hc13 : y1.Clock = true
        · replace hF := bifT hc13 hF
          refine r_setT hc13 (t := 70) rfl (r_not rfl rfl rfl (r_not rfl rfl rfl (r_not rfl rfl rfl (r_not rfl rfl rfl (r_not rfl rfl rfl (r_not rfl rfl rfl (r_not rfl rfl rfl (r_not rfl rfl rfl (r_not rfl rfl rfl (rp rfl rfl (r_nil ?_)))))))))))
          obtain rfl := someI hF
          exact r_cutgoal [(1, _), (4, _), (5, _), (6, _), (7, _), (80, _)] ⟨rfl, rfl, rfl, rfl, rfl, rfl, trivial⟩ ⟨_, hK3, rfl, h⟩
        replace hc13 := Bool.eq_false_iff.2 hc13
        replace hF := bifF hc13 hF
        refine r_setF hc13 (t := 70) rfl (r_wanted rfl (rp rfl rfl (r_wanted rfl (rp rfl rfl (r_wanted rfl (rp rfl rfl (r_wanted rfl (rp rfl rfl (r_wanted rfl (rp rfl rfl ?_))))))))))
        by_cases hc14 : (decide (i2 < (W64 ((a_0.Pins.length : Int) - 1)))) = true
        · replace hF := bifT hc14 hF
          refine r_setT hc14 (t := 75) rfl (r_wanted rfl (rp rfl rfl (r_wanted rfl (r_v (v_ld tabOk (h.box 0 rfl) (j := 1) rfl rfl rfl) rfl (r_wanted rfl (rp rfl rfl (r_wanted rfl (rp rfl rfl (rp rfl rfl (r_nil ?_))))))))))
          obtain rfl := someI hF
          exact r_cutgoal [(1, _), (4, _), (5, _), (6, _), (7, _), (80, _)] ⟨rfl, rfl, rfl, rfl, rfl, rfl, trivial⟩ ⟨_, hK3, rfl, h⟩
        replace hc14 := Bool.eq_false_iff.2 hc14
        replace hF := bifF hc14 hF
        refine r_setF hc14 (t := 75) rfl (r_not rfl rfl rfl (r_not rfl rfl rfl (r_not rfl rfl rfl (r_wanted rfl (rp rfl rfl (rp rfl rfl (r_nil ?_)))))))
        obtain rfl := someI hF
        exact r_cutgoal [(1, _), (4, _), (5, _), (6, _), (7, _), (80, _)] ⟨rfl, rfl, rfl, rfl, rfl, rfl, trivial⟩ ⟨_, hK3, rfl, h⟩
      replace hc10 := Bool.eq_false_iff.2 hc10
      replace hF := bifF hc10 hF
      refine r_setF hc10 (t := 56) rfl (r_not rfl rfl rfl (r_not rfl rfl rfl (r_not rfl rfl rfl (r_not rfl rfl rfl (r_not rfl rfl rfl (r_not rfl rfl rfl (r_not rfl rfl rfl (r_not rfl rfl rfl (r_not rfl rfl rfl (r_not rfl rfl rfl (r_not rfl rfl rfl ?_)))))))))))
      refine r_not rfl rfl rfl (rp rfl rfl (rp rfl rfl (r_wanted rfl (rp rfl rfl (r_wanted rfl (rp rfl rfl (r_wanted rfl (rp rfl rfl (r_wanted rfl (rp rfl rfl (r_wanted rfl ?_)))))))))))
      refine rp rfl rfl ?_
      by_cases hc15 : (decide (i2 < (W64 ((a_0.Pins.length : Int) - 1)))) = true
      · replace hF := bifT hc15 hF
        refine r_setT hc15 (t := 75) rfl (r_wanted rfl (rp rfl rfl (r_wanted rfl (r_v (v_ld tabOk (h.box 0 rfl) (j := 1) rfl rfl rfl) rfl (r_wanted rfl (rp rfl rfl (r_wanted rfl (rp rfl rfl (rp rfl rfl (r_nil ?_))))))))))
        obtain rfl := someI hF
        exact r_cutgoal [(1, _), (4, _), (5, _), (6, _), (7, _), (80, _)] ⟨rfl, rfl, rfl, rfl, rfl, rfl, trivial⟩ ⟨_, hK3, rfl, h⟩
      replace hc15 := Bool.eq_false_iff.2 hc15
      replace hF := bifF hc15 hF
      refine r_setF hc15 (t := 75) rfl (r_not rfl rfl rfl (r_not rfl rfl rfl (r_not rfl rfl rfl (r_wanted rfl (rp rfl rfl (rp rfl rfl (r_nil ?_)))))))
      obtain rfl := someI hF
      exact r_cutgoal [(1, _), (4, _), (5, _), (6, _), (7, _), (80, _)] ⟨rfl, rfl, rfl, rfl, rfl, rfl, trivial⟩ ⟨_, hK3, rfl, h⟩
    rintro e3 w7 ⟨b5, hF, rfl, h⟩
    subst hKF1
    refine r_if rfl hF (fun hF => ?_) (fun hF => ?_)
    · refine r_seq (r_region (rp rfl rfl (rp rfl rfl (r_nil ?_))))
      obtain rfl := someI hF; replace hF := hK1
      obtain rfl := someI hF
      exact r_retV tabOk (ρ := (Int × Bool)) [GoT.v Int [.int .i64 0], GoT.v Bool [.bool false]] h ⟨rfl, rfl, trivial⟩ (PV.done h (pv_cons h (po_flat (S := fun _ => False) rfl) (pv_one (po_flat (S := fun _ => False) rfl)) (by rfl)))
    refine r_skip (r_seq (r_region (rp rfl rfl (r_v (v_ld tabOk (h.box 0 rfl) (j := 3) rfl rfl rfl) rfl (r_nil ?_)))))
    refine r_if rfl hF (fun hF => ?_) (fun hF => ?_)
    · refine r_region (rp rfl rfl (rp rfl rfl (rp rfl rfl (r_nil (r_blk (r_region (rp rfl rfl (rp rfl rfl (rp rfl rfl (r_nil ?_))))))))))
      replace h := h.pick [1] rfl
      exact r_back m1 [(1, _), (4, _), (5, _), (6, _)] (Nat.lt_succ_self m1) ⟨rfl, rfl, rfl, rfl, trivial⟩ ⟨_, _, hF, rfl, h⟩
    refine r_skip (r_blk (r_region (rp rfl rfl (rp rfl rfl (rp rfl rfl (r_nil ?_))))))
    replace h := h.pick [1] rfl
    exact r_back m1 [(1, _), (4, _), (5, _), (6, _)] (Nat.lt_succ_self m1) ⟨rfl, rfl, rfl, rfl, trivial⟩ ⟨_, _, hF, rfl, h⟩
  refine r_exit rfl ?_
  obtain rfl := someI hF; replace hF := hK1
  refine r_seq (r_region (rp rfl rfl (rp rfl rfl (rp rfl rfl (r_nil ?_)))))
  obtain rfl := someI hF
  exact r_retV tabOk (ρ := (Int × Bool)) [GoT.v Int [.int .i64 i1], GoT.v Bool [.bool true]] h ⟨rfl, rfl, trivial⟩ (PV.done h (pv_cons h (po_flat (S := fun _ => False) rfl) (pv_one (po_flat (S := fun _ => False) rfl)) (by rfl)))

def spec_l02Axis_L1 (list : (List Int)) : Nat → Int → Option (Flow Bool Int)
  | 0, _ => none
  | n + 1, i1 =>
    bif decide (i1 < (list.length : Int)) then
      (idx list i1).bind fun y1 =>
      (spec_l01In n y1 0 100000).bind fun r1 =>
      bif (!r1) then
        some (.ret false)
      else
        bif decide (i1 > 0) then
          (idx list (W64 (i1 - 1))).bind fun y2 =>
          (idx list i1).bind fun y3 =>
          bif decide (y2 ≥ y3) then
            some (.ret false)
          else
            spec_l02Axis_L1 list n (W64 (i1 + 1))
        else
          spec_l02Axis_L1 list n (W64 (i1 + 1))
    else
      some (.nxt i1)

def spec_l02Axis (n : Nat) (list : (List Int)) : Option Bool :=
  (spec_l02Axis_L1 list n 0).bind fun o => match o with
  | .ret r => some r
  | .nxt _ =>
    bif decide ((list.length : Int) ≥ 1) then
      some (decide ((list.length : Int) ≤ 4))
    else
      some false

theorem spec_l02Axis_ok {n : Nat} {w : World} {list : (List Int)} {cs1 : List Value} (ha1 : GoT.R w (old w) list cs1) {r : Bool} (hF : spec_l02Axis n list = some r) : RetV Tryz.prog 216 [GoT.v (List Int) cs1] w r := by
  obtain ⟨p1, k1, rfl, s1⟩ := ha1
  refine retV_of_run Tryz.func216 rfl (m := 40) rfl rfl (fun h => ?_)
  rw [spec_l02Axis] at hF
  refine r_seq (r_region (rp rfl rfl (r_nil (r_seq (r_seq (r_region (rp rfl rfl (r_nil ?_))))))))
  obtain ⟨o1, hF, hK1⟩ := bindS hF
  refine r_block (r_sub [(0, _), (3, _)] ⟨rfl, rfl, trivial⟩ ?_)
  refine r_loop (fun m e w' => ∃ (i1 : Int), spec_l02Axis_L1 list m i1 = some o1 ∧ e = [(0, .slice p1 list.length k1), (3, .int .i64 i1)] ∧ SH w w' []) n ⟨_, hF, rfl, h⟩ ?_
  rintro m1 e1 w1 ⟨i1, hF, rfl, h⟩
  rcases m1 with _ | m1
  · rw [spec_l02Axis_L1] at hF
    cases hF
  rw [spec_l02Axis_L1] at hF
  refine r_seq (r_seq (r_region (rp rfl rfl (rp rfl rfl (rp rfl rfl (rp rfl rfl (r_nil ?_)))))))
  refine r_if rfl hF (fun hF => ?_) (fun hF => ?_)
  · refine r_skip (r_seq (r_block (r_seq ?_)))
    refine r_draw rfl (by kernel_rfl) ?_
    refine dp rfl rfl (dp rfl rfl ?_)
    obtain ⟨y1, hy1, hF⟩ := bindS hF
    have he1 := idx_some hy1
    obtain ⟨b1, o_1, q1, cs2, hp1, hq1, -, hr1, hc2⟩ := s1.at hy1
    obtain rfl := hr1
    refine d_v (fun _ hb => v_ix tabOk hp1 hq1 ⟨he1.1, he1.2.1⟩ rfl rfl rfl rfl rfl rfl) rfl ?_
    refine d_v (fun _ hb => v_ld tabOk ((hc2.below h.below).below hb) (j := 0) rfl rfl rfl) rfl ?_
    obtain ⟨r1, hr2, hF⟩ := bindS hF
    refine d_call r1 (vsB _) call35 (fun _ hb => spec_l01In_ok  hr2) rfl rfl rfl rfl ?_
    refine dp rfl rfl (dp rfl rfl ?_)
    by_cases hc3 : (!r1) = true
    · replace hF := bifT hc3 hF
      refine d_setT hc3 (t := 16) rfl (d_not rfl rfl rfl (d_not rfl rfl rfl (d_not rfl rfl rfl (d_not rfl rfl rfl (d_not rfl rfl rfl (d_not rfl rfl rfl (d_not rfl rfl rfl (d_not rfl rfl rfl (d_not rfl rfl rfl (d_not rfl rfl rfl (d_not rfl rfl rfl ?_)))))))))))
      refine d_not rfl rfl rfl (d_not rfl rfl rfl (d_not rfl rfl rfl (dp rfl rfl ?_)))
      refine d_nil (fun w2 hb => ?_)
      replace h := h.ext hb
      clear hb
      refine r_condT rfl rfl (r_seq (r_region (rp rfl rfl (r_nil ?_))))
      obtain rfl := someI hF; replace hF := hK1
      exact r_rB tabOk h hF ⟨rfl, trivial⟩
    replace hc3 := Bool.eq_false_iff.2 hc3
    replace hF := bifF hc3 hF
    refine d_setF hc3 (t := 16) rfl (d_wanted rfl (dp rfl rfl (d_wanted rfl (dp rfl rfl (d_wanted rfl (dp rfl rfl ?_))))))
    by_cases hc4 : (decide (i1 > 0)) = true
    · replace hF := bifT hc4 hF
      refine d_setT hc4 (t := 19) rfl (d_wanted rfl (dp rfl rfl (d_wanted rfl (dp rfl rfl (d_wanted rfl (dp rfl rfl (d_wanted rfl ?_)))))))
      obtain ⟨y2, hy2, hF⟩ := bindS hF
      have he2 := idx_some hy2
      obtain ⟨b2, o_2, q2, cs3, hp2, hq2, -, hr3, hc5⟩ := s1.at hy2
      obtain rfl := hr3
      refine d_v (fun _ hb => v_ix tabOk hp2 hq2 ⟨he2.1, he2.2.1⟩ rfl rfl rfl rfl rfl rfl) rfl ?_
      refine d_wanted rfl ?_
      refine d_v (fun _ hb => v_ld tabOk ((hc5.below h.below).below hb) (j := 0) rfl rfl rfl) rfl ?_
      refine d_wanted rfl (dp rfl rfl (d_wanted rfl (dp rfl rfl (d_wanted rfl ?_))))
      obtain ⟨y3, hy3, hF⟩ := bindS hF
      have he3 := idx_some hy3
      obtain ⟨b3, o_3, q3, cs4, hp3, hq3, -, hr4, hc6⟩ := s1.at hy3
      obtain rfl := hr4
      refine d_v (fun _ hb => v_ix tabOk hp3 hq3 ⟨he3.1, he3.2.1⟩ rfl rfl rfl rfl rfl rfl) rfl ?_
      refine d_wanted rfl ?_
      refine d_v (fun _ hb => v_ld tabOk ((hc6.below h.below).below hb) (j := 0) rfl rfl rfl) rfl ?_
      refine d_wanted rfl (dp rfl rfl (d_wanted rfl (dp rfl rfl (dp rfl rfl ?_))))
      refine d_nil (fun w3 hb => ?_)
      replace h := h.ext hb
      clear hb
      refine r_if rfl hF (fun hF => ?_) (fun hF => ?_)
      · refine r_seq (r_region (rp rfl rfl (r_nil ?_)))
        obtain rfl := someI hF; replace hF := hK1
        exact r_rB tabOk h hF ⟨rfl, trivial⟩
      exact r_skip (r_blk (r_region (rp rfl rfl (rp rfl rfl (rp rfl rfl (r_nil (r_back m1 [(0, _), (3, _)] (Nat.lt_succ_self m1) ⟨rfl, rfl, trivial⟩ ⟨_, hF, rfl, h⟩)))))))
    replace hc4 := Bool.eq_false_iff.2 hc4
    replace hF := bifF hc4 hF
    refine d_setF hc4 (t := 19) rfl (d_not rfl rfl rfl (d_not rfl rfl rfl (d_not rfl rfl rfl (d_not rfl rfl rfl (d_not rfl rfl rfl (d_not rfl rfl rfl (d_not rfl rfl rfl (d_not rfl rfl rfl (d_not rfl rfl rfl (d_not rfl rfl rfl (d_wanted rfl ?_)))))))))))
    refine dp rfl rfl (dp rfl rfl ?_)
    refine d_nil (fun w4 hb => ?_)
    replace h := h.ext hb
    clear hb
    exact r_condF rfl rfl (r_skip (r_blk (r_region (rp rfl rfl (rp rfl rfl (rp rfl rfl (r_nil (r_back m1 [(0, _), (3, _)] (Nat.lt_succ_self m1) ⟨rfl, rfl, trivial⟩ ⟨_, hF, rfl, h⟩))))))))
  refine r_exit rfl ?_
  obtain rfl := someI hF; replace hF := hK1
  refine r_seq (r_region (rp rfl rfl (rp rfl rfl (rp rfl rfl (rp rfl rfl ?_)))))
  by_cases hc8 : (decide ((list.length : Int) ≥ 1)) = true
  · replace hF := bifT hc8 hF
    exact r_setT hc8 (t := 35) rfl (r_wanted rfl (rp rfl rfl (r_wanted rfl (rp rfl rfl (r_wanted rfl (rp rfl rfl (rp rfl rfl (rp rfl rfl (r_nil (r_rB tabOk h hF ⟨rfl, trivial⟩))))))))))
  replace hc8 := Bool.eq_false_iff.2 hc8
  replace hF := bifF hc8 hF
  exact r_setF hc8 (t := 35) rfl (r_not rfl rfl rfl (r_not rfl rfl rfl (r_not rfl rfl rfl (rp rfl rfl (rp rfl rfl (r_nil (r_rB tabOk h hF ⟨rfl, trivial⟩)))))))

def spec_IsTable_L1 (t : TTable) : Nat → Int → Option (Flow Bool Int)
  | 0, _ => none
  | n + 1, i1 =>
    bif decide (i1 < (t.Values.length : Int)) then
      (idx t.Values i1).bind fun y1 =>
      (spec_l01In n y1 (-1000000) 1000000).bind fun r1 =>
      bif (!r1) then
        some (.ret false)
      else
        spec_IsTable_L1 t n (W64 (i1 + 1))
    else
      some (.nxt i1)

def spec_IsTable (n : Nat) (t : TTable) : Option Bool :=
  (
    (spec_l02Axis n t.Slews).bind fun r2 =>
    bif (!r2) then
      some true
    else
      (spec_l02Axis n t.Loads).bind fun r3 =>
      bif (!r3) then
        some true
      else
        some ((t.Values.length : Int) != (W64 ((t.Slews.length : Int) * (t.Loads.length : Int))))).bind fun b1 =>
  bif b1 then
    some false
  else
    (spec_IsTable_L1 t n 0).bind fun o => match o with
    | .ret r => some r
    | .nxt _ =>
      some true

theorem spec_IsTable_ok {n : Nat} {w : World} {t : TTable} {cs1 : List Value} (ha1 : GoT.R w (old w) t cs1) {r : Bool} (hF : spec_IsTable n t = some r) : RetV Tryz.prog 204 [GoT.v TTable cs1] w r := by
  obtain ⟨p1, k1, p2, k2, p3, k3, rfl, s1, s2, s3⟩ := open_TTable ha1
  refine retV_of_run Tryz.func204 rfl (m := 41) rfl rfl (fun h => ?_)
  rw [spec_IsTable] at hF
  refine r_seq (r_region (r_box h rfl rfl ?_))
  intro w1 bb1 h
  refine rp rfl rfl (r_nil (r_seq (r_seq ?_)))
  obtain ⟨KF1, hKF1, o2, hF, hK2⟩ := bindE hF
  refine r_cut (fun e w' => ∃ (b1 : Bool), KF1 b1 = some r ∧ e = [(1, .pointer (some ⟨bb1, 0, none⟩)), (26, .bool b1)] ∧ SH w w' [Ch.box bb1 [.slice p1 t.Slews.length k1, .slice p2 t.Loads.length k2, .slice p3 t.Values.length k3] 238]) ?_ ?_
  · refine r_region (rp rfl rfl (r_v (v_ld tabOk (h.box 0 rfl) (j := 0) rfl rfl rfl) rfl ?_))
    obtain ⟨r2, hr3, hF⟩ := bindS hF
    refine r_callB r2 h call216 (spec_l02Axis_ok ⟨_, _, rfl, (h.oldS s1)⟩ hr3) rfl rfl rfl rfl ?_
    intro w4 h
    refine rp rfl rfl (rp rfl rfl ?_)
    by_cases hc5 : (!r2) = true
    · replace hF := bifT hc5 hF
      refine r_setT hc5 (t := 8) rfl (r_not rfl rfl rfl (r_not rfl rfl rfl (r_not rfl rfl rfl (r_not rfl rfl rfl (rp rfl rfl (rp rfl rfl (r_not rfl rfl rfl (r_not rfl rfl rfl (r_not rfl rfl rfl (r_not rfl rfl rfl (r_not rfl rfl rfl ?_)))))))))))
      refine r_not rfl rfl rfl (r_not rfl rfl rfl (r_not rfl rfl rfl (r_not rfl rfl rfl (r_not rfl rfl rfl (r_not rfl rfl rfl (rp rfl rfl (r_nil ?_)))))))
      obtain rfl := someI hF
      exact r_cutgoal [(1, _), (26, _)] ⟨rfl, rfl, trivial⟩ ⟨_, hK2, rfl, h⟩
    replace hc5 := Bool.eq_false_iff.2 hc5
    replace hF := bifF hc5 hF
    refine r_setF hc5 (t := 8) rfl (r_wanted rfl (rp rfl rfl (r_wanted rfl (r_v (v_ld tabOk (h.box 0 rfl) (j := 1) rfl rfl rfl) rfl (r_wanted rfl ?_)))))
    obtain ⟨r3, hr4, hF⟩ := bindS hF
    refine r_callB r3 h call216 (spec_l02Axis_ok ⟨_, _, rfl, (h.oldS s2)⟩ hr4) rfl rfl rfl rfl ?_
    intro w5 h
    refine r_wanted rfl (rp rfl rfl (rp rfl rfl (rp rfl rfl ?_)))
    by_cases hc6 : (!r3) = true
    · replace hF := bifT hc6 hF
      refine r_setT hc6 (t := 14) rfl (r_not rfl rfl rfl (r_not rfl rfl rfl (r_not rfl rfl rfl (r_not rfl rfl rfl (r_not rfl rfl rfl (r_not rfl rfl rfl (r_not rfl rfl rfl (r_not rfl rfl rfl (r_not rfl rfl rfl (r_not rfl rfl rfl (r_not rfl rfl rfl ?_)))))))))))
      refine rp rfl rfl (r_nil ?_)
      obtain rfl := someI hF
      exact r_cutgoal [(1, _), (26, _)] ⟨rfl, rfl, trivial⟩ ⟨_, hK2, rfl, h⟩
    replace hc6 := Bool.eq_false_iff.2 hc6
    replace hF := bifF hc6 hF
    refine r_setF hc6 (t := 14) rfl (r_wanted rfl (rp rfl rfl (r_wanted rfl (r_v (v_ld tabOk (h.box 0 rfl) (j := 2) rfl rfl rfl) rfl (r_wanted rfl (rp rfl rfl (r_wanted rfl (rp rfl rfl (r_wanted rfl (r_v (v_ld tabOk (h.box 0 rfl) (j := 0) rfl rfl rfl) rfl (r_wanted rfl ?_)))))))))))
    refine rp rfl rfl (r_wanted rfl (rp rfl rfl (r_wanted rfl (r_v (v_ld tabOk (h.box 0 rfl) (j := 1) rfl rfl rfl) rfl (r_wanted rfl (rp rfl rfl (r_wanted rfl (rp rfl rfl (r_wanted rfl (rp rfl rfl (rp rfl rfl ?_)))))))))))
    refine r_nil ?_
    obtain rfl := someI hF
    exact r_cutgoal [(1, _), (26, _)] ⟨rfl, rfl, trivial⟩ ⟨_, hK2, rfl, h⟩
  rintro e2 w6 ⟨b1, hF, rfl, h⟩
  subst hKF1
  refine r_if rfl hF (fun hF => ?_) (fun hF => ?_)
  · exact r_seq (r_region (rp rfl rfl (r_nil (r_rB tabOk h hF ⟨rfl, trivial⟩))))
  refine r_skip (r_seq (r_seq (r_region (rp rfl rfl (r_nil ?_)))))
  obtain ⟨o1, hF, hK1⟩ := bindS hF
  refine r_block (r_sub [(1, _), (3, _)] ⟨rfl, rfl, trivial⟩ ?_)
  refine r_loop (fun m e w' => ∃ (i1 : Int), spec_IsTable_L1 t m i1 = some o1 ∧ e = [(1, .pointer (some ⟨bb1, 0, none⟩)), (3, .int .i64 i1)] ∧ SH w w' [Ch.box bb1 [.slice p1 t.Slews.length k1, .slice p2 t.Loads.length k2, .slice p3 t.Values.length k3] 238]) n ⟨_, hF, rfl, h⟩ ?_
  rintro m1 e1 w2 ⟨i1, hF, rfl, h⟩
  rcases m1 with _ | m1
  · rw [spec_IsTable_L1] at hF
    cases hF
  rw [spec_IsTable_L1] at hF
  refine r_seq (r_seq (r_region (rp rfl rfl (rp rfl rfl (r_v (v_ld tabOk (h.box 0 rfl) (j := 2) rfl rfl rfl) rfl (rp rfl rfl (rp rfl rfl (r_nil ?_))))))))
  refine r_if rfl hF (fun hF => ?_) (fun hF => ?_)
  · refine r_skip (r_seq (r_block (r_seq (r_region (rp rfl rfl (r_v (v_ld tabOk (h.box 0 rfl) (j := 2) rfl rfl rfl) rfl (rp rfl rfl ?_)))))))
    obtain ⟨y1, hy1, hF⟩ := bindS hF
    have he1 := idx_some hy1
    obtain ⟨b2, o_1, q1, cs2, hp1, hq1, -, hr1, hc3⟩ := s3.at hy1
    obtain rfl := hr1
    refine r_v (v_ix tabOk hp1 hq1 ⟨he1.1, he1.2.1⟩ rfl rfl rfl rfl rfl rfl) rfl (r_v (v_ld tabOk (hc3.below h.below) (j := 0) rfl rfl rfl) rfl ?_)
    obtain ⟨r1, hr2, hF⟩ := bindS hF
    refine r_callB r1 h call35 (spec_l01In_ok hr2) rfl rfl rfl rfl ?_
    intro w3 h
    refine rp rfl rfl (r_nil ?_)
    refine r_if rfl hF (fun hF => ?_) (fun hF => ?_)
    · refine r_seq (r_region (rp rfl rfl (r_nil ?_)))
      obtain rfl := someI hF; replace hF := hK1
      exact r_rB tabOk h hF ⟨rfl, trivial⟩
    exact r_skip (r_blk (r_region (rp rfl rfl (rp rfl rfl (rp rfl rfl (r_nil (r_back m1 [(1, _), (3, _)] (Nat.lt_succ_self m1) ⟨rfl, rfl, trivial⟩ ⟨_, hF, rfl, h⟩)))))))
  refine r_exit rfl ?_
  obtain rfl := someI hF; replace hF := hK1
  exact r_seq (r_region (rp rfl rfl (r_nil (r_rB tabOk h hF ⟨rfl, trivial⟩))))

def spec_TableBounds_L1 (t : TTable) : Nat → Int → Int → Int → Option (Int × Int × Int)
  | 0, _, _, _ => none
  | n + 1, i1, i2, i3 =>
    bif decide (i3 < (t.Values.length : Int)) then
      (idx t.Values i3).bind fun y3 =>
      (idx t.Values i3).bind fun y4 =>
      spec_TableBounds_L1 t n (if y3 < i1 then y3 else i1) (if y4 > i2 then y4 else i2) (W64 (i3 + 1))
    else
      some (i1, i2, i3)

def spec_TableBounds (n : Nat) (t : TTable) : Option (TSpan × Int) :=
  (spec_IsTable n t).bind fun r1 =>
  bif (!r1) then
    some ((⟨0, 0⟩ : TSpan), 1)
  else
    (idx t.Values 0).bind fun y1 =>
    (idx t.Values 0).bind fun y2 =>
    (spec_TableBounds_L1 t n y1 y2 1).bind fun o => match o with
    | (i1, i2, _) =>
      some ((⟨i1, i2⟩ : TSpan), 0)

theorem spec_TableBounds_ok {n : Nat} {w : World} {t : TTable} {cs1 : List Value} (ha1 : GoT.R w (old w) t cs1) {r : (TSpan × Int)} (hF : spec_TableBounds n t = some r) : RetV Tryz.prog 188 [GoT.v TTable cs1] w r := by
  obtain ⟨p1, k1, p2, k2, p3, k3, rfl, s1, s2, s3⟩ := open_TTable ha1
  refine retV_of_run Tryz.func188 rfl (m := 45) rfl rfl (fun h => ?_)
  rw [spec_TableBounds] at hF
  refine r_seq (r_region (r_box h rfl rfl ?_))
  intro w1 bb1 h
  refine r_alloc tabOk h rfl rfl rfl ?_
  intro w2 bb2 h
  refine rp rfl rfl (r_nil (r_seq (r_seq (r_region (r_v (v_ld tabOk (h.box 1 rfl) (j := 0) rfl rfl rfl) rfl ?_)))))
  obtain ⟨r1, hr1, hF⟩ := bindS hF
  refine r_callB r1 h call204 (spec_IsTable_ok (h.old ha1) hr1) rfl rfl rfl rfl ?_
  intro w3 h
  refine rp rfl rfl (r_nil ?_)
  refine r_if rfl hF (fun hF => ?_) (fun hF => ?_)
  · refine r_seq (r_region (r_v (v_build tabOk [] [] rfl rfl rfl rfl rfl rfl rfl rfl) rfl (r_stbox tabOk 0 h rfl rfl rfl rfl rfl rfl rfl ?_)))
    intro w4 h
    refine rp rfl rfl (r_nil ?_)
    obtain rfl := someI hF
    exact r_retV tabOk (ρ := (TSpan × Int)) [GoT.v TSpan [.int .i64 0, .int .i64 0], GoT.v Int [.int .i64 1]] h ⟨⟨_, _, _, rfl, rfl, h.box 0 rfl, rfl⟩, rfl, trivial⟩ (PV.done h (pv_cons h (po_flat (S := fun _ => False) (mkR_TSpan (⟨0, 0⟩ : TSpan))) (pv_one (po_flat (S := fun _ => False) rfl)) (by rfl)))
  refine r_skip (r_seq ?_)
  refine r_any [] (fun w' => SH w w' [Ch.box bb1 [.slice p1 t.Slews.length k1, .slice p2 t.Loads.length k2, .slice p3 t.Values.length k3] 238]) rfl 11 rfl #[ff, ff, ff, ff, ff, ff, ff, ff, ff, ff, ff] (by kernel_rfl) (fun w5 hb => ?_)
  replace h := h.ext hb
  clear hb
  refine a_take 0 rfl #[tt, ff, ff, ff, ff, ff, ff, ff, ff, ff, ff] (by kernel_rfl) (by kernel_rfl) (fun w' hw => v_p tabOk rfl w') (h.pick [1] rfl) rfl ?_
  refine a_take 1 rfl #[tt, tt, ff, ff, ff, ff, ff, ff, ff, ff, ff] (by kernel_rfl) (by kernel_rfl) (fun w' hw => v_ld tabOk (hw.box 0 rfl) (j := 2) rfl rfl rfl) (h.pick [1] rfl) rfl ?_
  obtain ⟨y1, hy1, hF⟩ := bindS hF
  have he1 := idx_some hy1
  obtain ⟨b1, o_1, q1, cs2, hp1, hq1, -, hr2, hc2⟩ := s3.at hy1
  obtain rfl := hr2
  refine a_take 2 rfl #[tt, tt, tt, ff, ff, ff, ff, ff, ff, ff, ff] (by kernel_rfl) (by kernel_rfl) (fun w' hw => v_ix tabOk hp1 hq1 ⟨he1.1, he1.2.1⟩ rfl rfl rfl rfl rfl rfl) (h.pick [1] rfl) rfl ?_
  refine a_take 3 rfl #[tt, tt, tt, tt, ff, ff, ff, ff, ff, ff, ff] (by kernel_rfl) (by kernel_rfl) (fun w' hw => v_ld tabOk (hc2.below hw.below) (j := 0) rfl rfl rfl) (h.pick [1] rfl) rfl ?_
  refine a_take 4 rfl #[tt, tt, tt, tt, tt, ff, ff, ff, ff, ff, ff] (by kernel_rfl) (by kernel_rfl) (fun w' hw => v_p tabOk rfl w') (h.pick [1] rfl) rfl ?_
  refine a_take 5 rfl #[tt, tt, tt, tt, tt, tt, ff, ff, ff, ff, ff] (by kernel_rfl) (by kernel_rfl) (fun w' hw => v_ld tabOk (hw.box 0 rfl) (j := 2) rfl rfl rfl) (h.pick [1] rfl) rfl ?_
  obtain ⟨y2, hy2, hF⟩ := bindS hF
  have he2 := idx_some hy2
  obtain ⟨b2, o_2, q2, cs3, hp2, hq2, -, hr3, hc3⟩ := s3.at hy2
  obtain rfl := hr3
  refine a_take 6 rfl #[tt, tt, tt, tt, tt, tt, tt, ff, ff, ff, ff] (by kernel_rfl) (by kernel_rfl) (fun w' hw => v_ix tabOk hp2 hq2 ⟨he2.1, he2.2.1⟩ rfl rfl rfl rfl rfl rfl) (h.pick [1] rfl) rfl ?_
  refine a_take 7 rfl #[tt, tt, tt, tt, tt, tt, tt, tt, ff, ff, ff] (by kernel_rfl) (by kernel_rfl) (fun w' hw => v_ld tabOk (hc3.below hw.below) (j := 0) rfl rfl rfl) (h.pick [1] rfl) rfl ?_
  refine a_take 8 rfl #[tt, tt, tt, tt, tt, tt, tt, tt, tt, ff, ff] (by kernel_rfl) (by kernel_rfl) (fun w' hw => v_build tabOk [0, 1] [.tmp 13, .tmp 17] rfl rfl rfl rfl rfl rfl rfl rfl) (h.pick [1] rfl) rfl ?_
  refine a_only 9 rfl #[tt, tt, tt, tt, tt, tt, tt, tt, tt, tt, ff] (by kernel_rfl) (by kernel_rfl) ?_
  refine r_alloc tabOk h rfl rfl rfl ?_
  intro w6 bb3 h
  refine a_goal (fun _ => (h.pick [2] rfl)) ?_
  refine a_only 10 rfl #[tt, tt, tt, tt, tt, tt, tt, tt, tt, tt, tt] (by kernel_rfl) (by kernel_rfl) ?_
  refine r_stbox tabOk 0 h rfl rfl rfl rfl rfl rfl rfl ?_
  intro w7 h
  refine a_goal (fun _ => (h.pick [2] rfl)) ?_
  refine a_done (by kernel_rfl) ?_
  refine r_seq (r_seq (r_region (rp rfl rfl (r_nil ?_))))
  obtain ⟨o1, hF, hK1⟩ := bindS hF
  refine r_block (r_sub [(1, _), (2, _), (4, _), (5, _)] ⟨rfl, rfl, rfl, rfl, trivial⟩ ?_)
  refine r_loop (fun m e w' => ∃ (i1 : Int) (i2 : Int) (i3 : Int), spec_TableBounds_L1 t m i1 i2 i3 = some o1 ∧ e = [(1, .pointer (some ⟨bb1, 0, none⟩)), (2, .pointer (some ⟨bb2, 0, none⟩)), (4, .pointer (some ⟨bb3, 0, none⟩)), (5, .int .i64 i3)] ∧ SH w w' [Ch.box bb3 [.int .i64 i1, .int .i64 i2] 249, Ch.box bb2 [.int .i64 0, .int .i64 0] 249, Ch.box bb1 [.slice p1 t.Slews.length k1, .slice p2 t.Loads.length k2, .slice p3 t.Values.length k3] 238]) n ⟨_, _, _, hF, rfl, h⟩ ?_
  rintro m1 e1 w8 ⟨i1, i2, i3, hF, rfl, h⟩
  rcases m1 with _ | m1
  · rw [spec_TableBounds_L1] at hF
    cases hF
  rw [spec_TableBounds_L1] at hF
  refine r_seq (r_seq (r_region (rp rfl rfl (rp rfl rfl (r_v (v_ld tabOk (h.box 2 rfl) (j := 2) rfl rfl rfl) rfl (rp rfl rfl (rp rfl rfl (r_nil ?_))))))))
  refine r_if rfl hF (fun hF => ?_) (fun hF => ?_)
  · refine r_skip (r_seq (r_block (r_seq ?_)))
    refine r_any [9] (fun w' => SH w w' [Ch.box bb3 [.int .i64 i1, .int .i64 i2] 249, Ch.box bb1 [.slice p1 t.Slews.length k1, .slice p2 t.Loads.length k2, .slice p3 t.Values.length k3] 238]) rfl 10 rfl #[ff, ff, ff, ff, ff, ff, ff, ff, ff, ff] (by kernel_rfl) (fun w9 hb => ?_)
    replace h := h.ext hb
    clear hb
    refine a_take 0 rfl #[tt, ff, ff, ff, ff, ff, ff, ff, ff, ff] (by kernel_rfl) (by kernel_rfl) (fun w' hw => v_p tabOk rfl w') (h.pick [0, 2] rfl) rfl ?_
    refine a_take 1 rfl #[tt, tt, ff, ff, ff, ff, ff, ff, ff, ff] (by kernel_rfl) (by kernel_rfl) (fun w' hw => v_ld tabOk (hw.box 0 rfl) (j := 0) rfl rfl rfl) (h.pick [0, 2] rfl) rfl ?_
    refine a_take 2 rfl #[tt, tt, tt, ff, ff, ff, ff, ff, ff, ff] (by kernel_rfl) (by kernel_rfl) (fun w' hw => v_p tabOk rfl w') (h.pick [0, 2] rfl) rfl ?_
    refine a_take 3 rfl #[tt, tt, tt, tt, ff, ff, ff, ff, ff, ff] (by kernel_rfl) (by kernel_rfl) (fun w' hw => v_ld tabOk (hw.box 1 rfl) (j := 2) rfl rfl rfl) (h.pick [0, 2] rfl) rfl ?_
    refine a_take 4 rfl #[tt, tt, tt, tt, tt, ff, ff, ff, ff, ff] (by kernel_rfl) (by kernel_rfl) (fun w' hw => v_p tabOk rfl w') (h.pick [0, 2] rfl) rfl ?_
    obtain ⟨y3, hy3, hF⟩ := bindS hF
    have he3 := idx_some hy3
    obtain ⟨b3, o_3, q3, cs4, hp3, hq3, -, hr4, hc5⟩ := s3.at hy3
    obtain rfl := hr4
    refine a_take 5 rfl #[tt, tt, tt, tt, tt, tt, ff, ff, ff, ff] (by kernel_rfl) (by kernel_rfl) (fun w' hw => v_ix tabOk hp3 hq3 ⟨he3.1, he3.2.1⟩ rfl rfl rfl rfl rfl rfl) (h.pick [0, 2] rfl) rfl ?_
    refine a_take 6 rfl #[tt, tt, tt, tt, tt, tt, tt, ff, ff, ff] (by kernel_rfl) (by kernel_rfl) (fun w' hw => v_ld tabOk (hc5.below hw.below) (j := 0) rfl rfl rfl) (h.pick [0, 2] rfl) rfl ?_
    refine a_take 7 rfl #[tt, tt, tt, tt, tt, tt, tt, tt, ff, ff] (by kernel_rfl) (by kernel_rfl) (fun w' hw => v_p tabOk rfl w') (h.pick [0, 2] rfl) rfl ?_
    refine a_take 8 rfl #[tt, tt, tt, tt, tt, tt, tt, tt, tt, ff] (by kernel_rfl) (by kernel_rfl) (fun w' hw => v_p tabOk rfl w') (h.pick [0, 2] rfl) rfl ?_
    refine a_only 9 rfl #[tt, tt, tt, tt, tt, tt, tt, tt, tt, tt] (by kernel_rfl) (by kernel_rfl) ?_
    refine r_stbox tabOk 0 h rfl rfl rfl rfl rfl rfl rfl ?_
    intro w10 h
    refine a_goal (fun hs => absurd (hs 9 (by decide)) (by decide)) ?_
    refine a_done (by kernel_rfl) ?_
    refine r_any [9] (fun w' => SH w w' [Ch.box bb3 [.int .i64 (if y3 < i1 then y3 else i1), .int .i64 i2] 249, Ch.box bb1 [.slice p1 t.Slews.length k1, .slice p2 t.Loads.length k2, .slice p3 t.Values.length k3] 238]) rfl 10 rfl #[ff, ff, ff, ff, ff, ff, ff, ff, ff, ff] (by kernel_rfl) (fun w11 hb => ?_)
    replace h := h.ext hb
    clear hb
    refine a_take 0 rfl #[tt, ff, ff, ff, ff, ff, ff, ff, ff, ff] (by kernel_rfl) (by kernel_rfl) (fun w' hw => v_p tabOk rfl w') (h.pick [0, 2] rfl) rfl ?_
    refine a_take 1 rfl #[tt, tt, ff, ff, ff, ff, ff, ff, ff, ff] (by kernel_rfl) (by kernel_rfl) (fun w' hw => v_ld tabOk (hw.box 0 rfl) (j := 1) rfl rfl rfl) (h.pick [0, 2] rfl) rfl ?_
    refine a_take 2 rfl #[tt, tt, tt, ff, ff, ff, ff, ff, ff, ff] (by kernel_rfl) (by kernel_rfl) (fun w' hw => v_p tabOk rfl w') (h.pick [0, 2] rfl) rfl ?_
    refine a_take 3 rfl #[tt, tt, tt, tt, ff, ff, ff, ff, ff, ff] (by kernel_rfl) (by kernel_rfl) (fun w' hw => v_ld tabOk (hw.box 1 rfl) (j := 2) rfl rfl rfl) (h.pick [0, 2] rfl) rfl ?_
    refine a_take 4 rfl #[tt, tt, tt, tt, tt, ff, ff, ff, ff, ff] (by kernel_rfl) (by kernel_rfl) (fun w' hw => v_p tabOk rfl w') (h.pick [0, 2] rfl) rfl ?_
    obtain ⟨y4, hy4, hF⟩ := bindS hF
    have he4 := idx_some hy4
    obtain ⟨b4, o_4, q4, cs5, hp4, hq4, -, hr5, hc6⟩ := s3.at hy4
    obtain rfl := hr5
    refine a_take 5 rfl #[tt, tt, tt, tt, tt, tt, ff, ff, ff, ff] (by kernel_rfl) (by kernel_rfl) (fun w' hw => v_ix tabOk hp4 hq4 ⟨he4.1, he4.2.1⟩ rfl rfl rfl rfl rfl rfl) (h.pick [0, 2] rfl) rfl ?_
    refine a_take 6 rfl #[tt, tt, tt, tt, tt, tt, tt, ff, ff, ff] (by kernel_rfl) (by kernel_rfl) (fun w' hw => v_ld tabOk (hc6.below hw.below) (j := 0) rfl rfl rfl) (h.pick [0, 2] rfl) rfl ?_
    refine a_take 7 rfl #[tt, tt, tt, tt, tt, tt, tt, tt, ff, ff] (by kernel_rfl) (by kernel_rfl) (fun w' hw => v_p tabOk rfl w') (h.pick [0, 2] rfl) rfl ?_
    refine a_take 8 rfl #[tt, tt, tt, tt, tt, tt, tt, tt, tt, ff] (by kernel_rfl) (by kernel_rfl) (fun w' hw => v_p tabOk rfl w') (h.pick [0, 2] rfl) rfl ?_
    refine a_only 9 rfl #[tt, tt, tt, tt, tt, tt, tt, tt, tt, tt] (by kernel_rfl) (by kernel_rfl) ?_
    refine r_stbox tabOk 0 h rfl rfl rfl rfl rfl rfl rfl ?_
    intro w12 h
    refine a_goal (fun hs => absurd (hs 9 (by decide)) (by decide)) ?_
    refine a_done (by kernel_rfl) ?_
    exact r_blk (r_region (rp rfl rfl (rp rfl rfl (rp rfl rfl (r_nil (r_back m1 [(1, _), (2, _), (4, _), (5, _)] (Nat.lt_succ_self m1) ⟨rfl, rfl, rfl, rfl, trivial⟩ ⟨_, _, _, hF, rfl, h⟩))))))
  refine r_exit rfl ?_
  obtain rfl := someI hF; replace hF := hK1
  refine r_seq (r_region (r_v (v_ld tabOk (h.box 0 rfl) (j := 0) rfl rfl rfl) rfl (r_stbox tabOk 1 h rfl rfl rfl rfl rfl rfl rfl ?_)))
  intro w13 h
  replace h : SH _ _ [Ch.box bb3 [.int .i64 i1, .int .i64 i2] 249, Ch.box bb2 [.int .i64 i1, .int .i64 i2] 249, Ch.box bb1 [.slice p1 t.Slews.length k1, .slice p2 t.Loads.length k2, .slice p3 t.Values.length k3] 238] := h
  refine rp rfl rfl (r_nil ?_)
  obtain rfl := someI hF
  exact r_retV tabOk (ρ := (TSpan × Int)) [GoT.v TSpan [.int .i64 i1, .int .i64 i2], GoT.v Int [.int .i64 0]] h ⟨⟨_, _, _, rfl, rfl, h.box 1 rfl, rfl⟩, rfl, trivial⟩ (PV.done h (pv_cons h (po_flat (S := fun _ => False) (mkR_TSpan (⟨i1, i2⟩ : TSpan))) (pv_one (po_flat (S := fun _ => False) rfl)) (by rfl)))

def spec_l03Tables_L1 (list : (List TTable)) (positive : Bool) : Nat → Int → Option (Flow Bool Int)
  | 0, _ => none
  | n + 1, i1 =>
    bif decide (i1 < 2) then
      (idx list i1).bind fun y1 =>
      (spec_TableBounds n y1).bind fun o => match o with
        | (r2, r3) =>
          bif (r3 != 0) then
            some (.ret false)
          else
            bif positive then
              bif decide (r2.Early < 0) then
                some (.ret false)
              else
                spec_l03Tables_L1 list positive n (W64 (i1 + 1))
            else
              spec_l03Tables_L1 list positive n (W64 (i1 + 1))
    else
      some (.nxt i1)

def spec_l03Tables (n : Nat) (list : (List TTable)) (positive : Bool) : Option Bool :=
  bif ((list.length : Int) != 2) then
    some false
  else
    (spec_l03Tables_L1 list positive n 0).bind fun o => match o with
    | .ret r => some r
    | .nxt _ =>
      some true

theorem spec_l03Tables_ok {n : Nat} {w : World} {list : (List TTable)} {positive : Bool} {cs1 : List Value} (ha1 : GoT.R w (old w) list cs1) {r : Bool} (hF : spec_l03Tables n list positive = some r) : RetV Tryz.prog 178 [GoT.v (List TTable) cs1, .bool positive] w r := by
  obtain ⟨p1, k1, rfl, s1⟩ := ha1
  refine retV_of_run Tryz.func178 rfl (m := 33) rfl rfl (fun h => ?_)
  rw [spec_l03Tables] at hF
  refine r_seq (r_region (rp rfl rfl (r_nil (r_seq (r_seq (r_region (rp rfl rfl (rp rfl rfl (rp rfl rfl (r_nil ?_))))))))))
  refine r_if rfl hF (fun hF => ?_) (fun hF => ?_)
  · exact r_seq (r_region (rp rfl rfl (r_nil (r_rB tabOk h hF ⟨rfl, trivial⟩))))
  refine r_skip (r_seq (r_seq (r_region (rp rfl rfl (r_nil ?_)))))
  obtain ⟨o1, hF, hK1⟩ := bindS hF
  refine r_block (r_sub [(0, _), (1, _), (5, _)] ⟨rfl, rfl, rfl, trivial⟩ ?_)
  refine r_loop (fun m e w' => ∃ (i1 : Int), spec_l03Tables_L1 list positive m i1 = some o1 ∧ e = [(0, .slice p1 list.length k1), (1, .bool positive), (5, .int .i64 i1)] ∧ SH w w' []) n ⟨_, hF, rfl, h⟩ ?_
  rintro m1 e1 w1 ⟨i1, hF, rfl, h⟩
  rcases m1 with _ | m1
  · rw [spec_l03Tables_L1] at hF
    cases hF
  rw [spec_l03Tables_L1] at hF
  refine r_seq (r_seq (r_region (rp rfl rfl (rp rfl rfl (r_nil ?_)))))
  refine r_if rfl hF (fun hF => ?_) (fun hF => ?_)
  · refine r_skip (r_seq (r_block (r_seq (r_region (rp rfl rfl (rp rfl rfl ?_))))))
    obtain ⟨y1, hy1, hF⟩ := bindS hF
    have he1 := idx_some hy1
    obtain ⟨b1, o_1, q1, cs2, hp1, hq1, -, hr1, hc3⟩ := s1.at hy1
    obtain ⟨p2, k2, p3, k3, p4, k4, rfl, s2, s3, s4⟩ := open_TTable hr1
    refine r_v (v_ix tabOk hp1 hq1 ⟨he1.1, he1.2.1⟩ rfl rfl rfl rfl rfl rfl) rfl (r_v (v_ld tabOk (hc3.below h.below) (j := 0) rfl rfl rfl) rfl ?_)
    obtain ⟨r1, hr2, hF⟩ := bindS hF
    obtain ⟨r2, r3⟩ := r1
    refine r_call (r2, r3) h call188 (spec_TableBounds_ok (mkR_TTable y1 (h.oldS s2) (h.oldS s3) (h.oldS s4)) hr2) rfl rfl rfl rfl ?_
    intro w2 S1 us1 hv1 hr3
    obtain ⟨S2, S3, cs3, us2, rfl, hv2, hr4⟩ := hv1.cons hr3
    obtain rfl := open_TSpan (hv2.sh.own 0 rfl)
    obtain ⟨rfl, h⟩ := hv2.lastI hr4
    refine rp rfl rfl (rp rfl rfl (rp rfl rfl (r_alloc tabOk h rfl rfl rfl ?_)))
    intro w3 bb1 h
    refine r_stbox tabOk 0 h rfl rfl rfl rfl rfl rfl rfl ?_
    intro w4 h
    refine rp rfl rfl (r_nil (r_seq (r_region (rp rfl rfl (rp rfl rfl (rp rfl rfl ?_))))))
    by_cases hc4 : (r3 != 0) = true
    · replace hF := bifT hc4 hF
      refine r_setT hc4 (t := 25) rfl (r_not rfl rfl rfl (r_not rfl rfl rfl (r_not rfl rfl rfl (r_not rfl rfl rfl (r_not rfl rfl rfl (r_not rfl rfl rfl (rp rfl rfl (r_nil (r_condT rfl rfl (r_seq (r_region ?_)))))))))))
      refine rp rfl rfl (r_nil ?_)
      obtain rfl := someI hF; replace hF := hK1
      exact r_rB tabOk h hF ⟨rfl, trivial⟩
    replace hc4 := Bool.eq_false_iff.2 hc4
    replace hF := bifF hc4 hF
    refine r_setF hc4 (t := 25) rfl (r_wanted rfl (rp rfl rfl (r_wanted rfl (rp rfl rfl ?_))))
    by_cases hc5 : positive = true
    · replace hF := bifT hc5 hF
      refine r_setT hc5 (t := 27) rfl (r_wanted rfl (rp rfl rfl (r_wanted rfl (r_v (v_ld tabOk (h.box 0 rfl) (j := 0) rfl rfl rfl) rfl (r_wanted rfl (rp rfl rfl (r_wanted rfl (rp rfl rfl (rp rfl rfl (r_nil ?_))))))))))
      refine r_if rfl hF (fun hF => ?_) (fun hF => ?_)
      · refine r_seq (r_region (rp rfl rfl (r_nil ?_)))
        obtain rfl := someI hF; replace hF := hK1
        exact r_rB tabOk h hF ⟨rfl, trivial⟩
      refine r_skip (r_blk (r_region (rp rfl rfl (rp rfl rfl (rp rfl rfl (r_nil ?_))))))
      replace h := h.pick [] rfl
      exact r_back m1 [(0, _), (1, _), (5, _)] (Nat.lt_succ_self m1) ⟨rfl, rfl, rfl, trivial⟩ ⟨_, hF, rfl, h⟩
    replace hc5 := Bool.eq_false_iff.2 hc5
    replace hF := bifF hc5 hF
    refine r_setF hc5 (t := 27) rfl (r_not rfl rfl rfl (r_not rfl rfl rfl (r_not rfl rfl rfl (r_wanted rfl (rp rfl rfl (rp rfl rfl (r_nil (r_condF rfl rfl (r_skip (r_blk (r_region ?_)))))))))))
    refine rp rfl rfl (rp rfl rfl (rp rfl rfl (r_nil ?_)))
    replace h := h.pick [] rfl
    exact r_back m1 [(0, _), (1, _), (5, _)] (Nat.lt_succ_self m1) ⟨rfl, rfl, rfl, trivial⟩ ⟨_, hF, rfl, h⟩
  refine r_exit rfl ?_
  obtain rfl := someI hF; replace hF := hK1
  exact r_seq (r_region (rp rfl rfl (r_nil (r_rB tabOk h hF ⟨rfl, trivial⟩))))

def spec_l03Arc (n : Nat) (a_0 : TCell) (a_1 : TArc) : Option Bool :=
  (
    (spec_l01In n a_1.From 0 (W64 ((W64 ((a_0.Pins.length : Int) - 1)) - 1))).bind fun r7 =>
    bif (!r7) then
      some true
    else
      (spec_l01In n a_1.To 0 (W64 ((a_0.Pins.length : Int) - 1))).bind fun r8 =>
      some (!r8)).bind fun b1 =>
  bif b1 then
    some false
  else
    (idx a_0.Pins a_1.From).bind fun y1 =>
    bif (a_1.Kind == 1) then
      bif (!y1.Clock) then
        bif (a_1.To == (W64 ((a_0.Pins.length : Int) - 1))) then
          (spec_l01In n a_1.Sense 1 3).bind fun r1 =>
          bif r1 then
            (spec_l03Tables n a_1.Delay true).bind fun r2 =>
            bif r2 then
              (spec_l03Tables n a_1.Slew true).bind fun r3 =>
              some r3
            else
              some false
          else
            some false
        else
          some false
      else
        some false
    else
      (
        bif (a_1.Kind == 2) then
          some (a_1.Kind == 2)
        else
          some (a_1.Kind == 3)).bind fun b3 =>
      bif b3 then
        bif y1.Clock then
          bif (a_1.To == (W64 ((a_0.Pins.length : Int) - 1))) then
            bif (a_1.Sense == 0) then
              (spec_l03Tables n a_1.Delay true).bind fun r4 =>
              bif r4 then
                (spec_l03Tables n a_1.Slew true).bind fun r5 =>
                some r5
              else
                some false
            else
              some false
          else
            some false
        else
          some false
      else
        (
          bif (a_1.Kind == 4) then
            some (a_1.Kind == 4)
          else
            some (a_1.Kind == 5)).bind fun b4 =>
        bif b4 then
          bif y1.Clock then
            bif decide (a_1.To < (W64 ((a_0.Pins.length : Int) - 1))) then
              (idx a_0.Pins a_1.To).bind fun y2 =>
              bif (!y2.Clock) then
                bif (a_1.Sense == 0) then
                  (spec_l03Tables n a_1.Delay false).bind fun r6 =>
                  bif r6 then
                    some ((a_1.Slew.length : Int) == 0)
                  else
                    some false
                else
                  some false
              else
                some false
            else
              some false
          else
            some false
        else
          some false

theorem spec_l03Arc_ok {n : Nat} {w : World} {a_0 : TCell} {a_1 : TArc} {cs1 : List Value} (ha1 : GoT.R w (old w) a_0 cs1) {cs2 : List Value} (ha2 : GoT.R w (old w) a_1 cs2) {r : Bool} (hF : spec_l03Arc n a_0 a_1 = some r) : RetV Tryz.prog 166 [GoT.v TCell cs1, GoT.v TArc cs2] w r := by
  obtain ⟨p1, k1, p2, k2, p3, k3, rfl, s1, s2, s3⟩ := open_TCell ha1
  obtain ⟨p4, k4, p5, k5, rfl, s4, s5⟩ := open_TArc ha2
  refine retV_of_run Tryz.func166 rfl (m := 119) rfl rfl (fun h => ?_)
  rw [spec_l03Arc] at hF
  refine r_seq (r_region (r_box h rfl rfl ?_))
  intro w1 bb1 h
  refine r_box h rfl rfl ?_
  intro w2 bb2 h
  refine rp rfl rfl (r_nil (r_seq (r_region (rp rfl rfl (r_v (v_ld tabOk (h.box 1 rfl) (j := 2) rfl rfl rfl) rfl (rp rfl rfl (rp rfl rfl (rp rfl rfl (r_nil (r_seq (r_seq ?_)))))))))))
  obtain ⟨KF3, hKF3, o3, hF, hK3⟩ := bindE hF
  refine r_cut (fun e w' => ∃ (b1 : Bool), KF3 b1 = some r ∧ e = [(2, .pointer (some ⟨bb1, 0, none⟩)), (3, .pointer (some ⟨bb2, 0, none⟩)), (5, .int .i64 (W64 ((a_0.Pins.length : Int) - 1))), (23, .bool b1)] ∧ SH w w' [Ch.box bb2 [.int .i64 a_1.Kind, .int .i64 a_1.From, .int .i64 a_1.To, .int .i64 a_1.Sense, .slice p4 a_1.Delay.length k4, .slice p5 a_1.Slew.length k5] 159, Ch.box bb1 [.string a_0.Name, .int .i64 a_0.Kind, .slice p1 a_0.Pins.length k1, .slice p2 a_0.Arcs.length k2, .slice p3 a_0.Truth.length k3, .int .i64 a_0.Leak, .int .i64 a_0.Energy] 155]) ?_ ?_
  · refine r_region (rp rfl rfl (r_v (v_ld tabOk (h.box 0 rfl) (j := 1) rfl rfl rfl) rfl (rp rfl rfl (rp rfl rfl ?_))))
    obtain ⟨r7, hr9, hF⟩ := bindS hF
    refine r_callB r7 h call35 (spec_l01In_ok hr9) rfl rfl rfl rfl ?_
    intro w11 h
    refine rp rfl rfl (rp rfl rfl ?_)
    by_cases hc22 : (!r7) = true
    · replace hF := bifT hc22 hF
      refine r_setT hc22 (t := 17) rfl (r_not rfl rfl rfl (r_not rfl rfl rfl (r_not rfl rfl rfl (r_not rfl rfl rfl (r_not rfl rfl rfl (rp rfl rfl (r_nil ?_)))))))
      obtain rfl := someI hF
      exact r_cutgoal [(2, _), (3, _), (5, _), (23, _)] ⟨rfl, rfl, rfl, rfl, trivial⟩ ⟨_, hK3, rfl, h⟩
    replace hc22 := Bool.eq_false_iff.2 hc22
    replace hF := bifF hc22 hF
    refine r_setF hc22 (t := 17) rfl (r_wanted rfl (rp rfl rfl (r_wanted rfl (r_v (v_ld tabOk (h.box 0 rfl) (j := 2) rfl rfl rfl) rfl (r_wanted rfl (rp rfl rfl (r_wanted rfl ?_)))))))
    obtain ⟨r8, hr10, hF⟩ := bindS hF
    refine r_callB r8 h call35 (spec_l01In_ok hr10) rfl rfl rfl rfl ?_
    intro w12 h
    refine r_wanted rfl (rp rfl rfl (rp rfl rfl (r_nil ?_)))
    obtain rfl := someI hF
    exact r_cutgoal [(2, _), (3, _), (5, _), (23, _)] ⟨rfl, rfl, rfl, rfl, trivial⟩ ⟨_, hK3, rfl, h⟩
  rintro e3 w13 ⟨b1, hF, rfl, h⟩
  subst hKF3
  refine r_if rfl hF (fun hF => ?_) (fun hF => ?_)
  · exact r_seq (r_region (rp rfl rfl (r_nil (r_rB tabOk h hF ⟨rfl, trivial⟩))))
  refine r_skip (r_seq (r_region (rp rfl rfl (r_v (v_ld tabOk (h.box 1 rfl) (j := 2) rfl rfl rfl) rfl (rp rfl rfl (r_v (v_ld tabOk (h.box 0 rfl) (j := 1) rfl rfl rfl) rfl ?_))))))
  obtain ⟨y1, hy1, hF⟩ := bindS hF
  have he1 := idx_some hy1
  obtain ⟨b2, o_1, q1, cs3, hp1, hq1, -, hr1, hc2⟩ := s1.at hy1
  obtain rfl := open_TPin hr1
  refine r_v (v_ix tabOk hp1 hq1 ⟨he1.1, he1.2.1⟩ rfl rfl rfl rfl rfl rfl) rfl (rp rfl rfl (r_v (v_ld tabOk (hc2.below h.below) (j := 3) rfl rfl rfl) rfl (rp rfl rfl (r_nil (r_seq (r_seq (r_region (rp rfl rfl (r_v (v_ld tabOk (h.box 0 rfl) (j := 0) rfl rfl rfl) rfl (r_nil (r_block ?_)))))))))))
  refine r_seq (r_region (rp rfl rfl (rp rfl rfl (r_nil ?_))))
  refine r_if rfl hF (fun hF => ?_) (fun hF => ?_)
  · refine r_seq (r_region (rp rfl rfl (rp rfl rfl (rp rfl rfl ?_))))
    by_cases hc4 : (!y1.Clock) = true
    · replace hF := bifT hc4 hF
      refine r_setT hc4 (t := 37) rfl (r_wanted rfl (rp rfl rfl (r_wanted rfl (r_v (v_ld tabOk (h.box 0 rfl) (j := 2) rfl rfl rfl) rfl (r_wanted rfl (rp rfl rfl (r_wanted rfl (rp rfl rfl (rp rfl rfl (rp rfl rfl ?_))))))))))
      by_cases hc5 : (a_1.To == (W64 ((a_0.Pins.length : Int) - 1))) = true
      · replace hF := bifT hc5 hF
        refine r_setT hc5 (t := 43) rfl (r_wanted rfl (rp rfl rfl (r_wanted rfl (r_v (v_ld tabOk (h.box 0 rfl) (j := 3) rfl rfl rfl) rfl (r_wanted rfl ?_)))))
        obtain ⟨r1, hr2, hF⟩ := bindS hF
        refine r_callB r1 h call35 (spec_l01In_ok hr2) rfl rfl rfl rfl ?_
        intro w3 h
        refine rp rfl rfl (rp rfl rfl ?_)
        by_cases hc6 : r1 = true
        · replace hF := bifT hc6 hF
          refine r_setT hc6 (t := 48) rfl (r_wanted rfl (rp rfl rfl (r_wanted rfl (r_v (v_ld tabOk (h.box 0 rfl) (j := 4) rfl rfl rfl) rfl (r_wanted rfl ?_)))))
          obtain ⟨r2, hr3, hF⟩ := bindS hF
          refine r_callB r2 h call178 (spec_l03Tables_ok ⟨_, _, rfl, (h.oldS s4)⟩ hr3) rfl rfl rfl rfl ?_
          intro w4 h
          refine rp rfl rfl (rp rfl rfl ?_)
          by_cases hc7 : r2 = true
          · replace hF := bifT hc7 hF
            refine r_setT hc7 (t := 53) rfl (r_wanted rfl (rp rfl rfl (r_wanted rfl (r_v (v_ld tabOk (h.box 0 rfl) (j := 5) rfl rfl rfl) rfl (r_wanted rfl ?_)))))
            obtain ⟨r3, hr4, hF⟩ := bindS hF
            refine r_callB r3 h call178 (spec_l03Tables_ok ⟨_, _, rfl, (h.oldS s5)⟩ hr4) rfl rfl rfl rfl ?_
            intro w5 h
            exact rp rfl rfl (rp rfl rfl (r_nil (r_rB tabOk h hF ⟨rfl, trivial⟩)))
          replace hc7 := Bool.eq_false_iff.2 hc7
          replace hF := bifF hc7 hF
          exact r_setF hc7 (t := 53) rfl (r_not rfl rfl rfl (r_not rfl rfl rfl (r_not rfl rfl rfl (rp rfl rfl (rp rfl rfl (r_nil (r_rB tabOk h hF ⟨rfl, trivial⟩)))))))
        replace hc6 := Bool.eq_false_iff.2 hc6
        replace hF := bifF hc6 hF
        refine r_setF hc6 (t := 48) rfl (r_not rfl rfl rfl (r_not rfl rfl rfl (r_not rfl rfl rfl (rp rfl rfl (rp rfl rfl (r_not rfl rfl rfl (r_not rfl rfl rfl (r_not rfl rfl rfl (rp rfl rfl (rp rfl rfl (r_nil ?_)))))))))))
        exact r_rB tabOk h hF ⟨rfl, trivial⟩
      replace hc5 := Bool.eq_false_iff.2 hc5
      replace hF := bifF hc5 hF
      refine r_setF hc5 (t := 43) rfl (r_not rfl rfl rfl (r_not rfl rfl rfl (r_not rfl rfl rfl (rp rfl rfl (rp rfl rfl (r_not rfl rfl rfl (r_not rfl rfl rfl (r_not rfl rfl rfl (rp rfl rfl (rp rfl rfl (r_not rfl rfl rfl ?_)))))))))))
      exact r_not rfl rfl rfl (r_not rfl rfl rfl (rp rfl rfl (rp rfl rfl (r_nil (r_rB tabOk h hF ⟨rfl, trivial⟩)))))
    replace hc4 := Bool.eq_false_iff.2 hc4
    replace hF := bifF hc4 hF
    refine r_setF hc4 (t := 37) rfl (r_not rfl rfl rfl (r_not rfl rfl rfl (r_not rfl rfl rfl (r_not rfl rfl rfl (rp rfl rfl (rp rfl rfl (r_not rfl rfl rfl (r_not rfl rfl rfl (r_not rfl rfl rfl (rp rfl rfl (rp rfl rfl ?_)))))))))))
    exact r_not rfl rfl rfl (r_not rfl rfl rfl (r_not rfl rfl rfl (rp rfl rfl (rp rfl rfl (r_not rfl rfl rfl (r_not rfl rfl rfl (r_not rfl rfl rfl (rp rfl rfl (rp rfl rfl (r_nil (r_rB tabOk h hF ⟨rfl, trivial⟩)))))))))))
  refine r_seq (r_seq (r_region (rp rfl rfl (rp rfl rfl (r_nil ?_)))))
  obtain ⟨KF2, hKF2, o2, hF, hK2⟩ := bindE hF
  refine r_cut (fun e w' => ∃ (b3 : Bool), KF2 b3 = some r ∧ e = [(2, .pointer (some ⟨bb1, 0, none⟩)), (3, .pointer (some ⟨bb2, 0, none⟩)), (5, .int .i64 (W64 ((a_0.Pins.length : Int) - 1))), (6, .bool y1.Clock), (32, .int .i64 a_1.Kind), (58, .bool b3)] ∧ SH w w' [Ch.box bb2 [.int .i64 a_1.Kind, .int .i64 a_1.From, .int .i64 a_1.To, .int .i64 a_1.Sense, .slice p4 a_1.Delay.length k4, .slice p5 a_1.Slew.length k5] 159, Ch.box bb1 [.string a_0.Name, .int .i64 a_0.Kind, .slice p1 a_0.Pins.length k1, .slice p2 a_0.Arcs.length k2, .slice p3 a_0.Truth.length k3, .int .i64 a_0.Leak, .int .i64 a_0.Energy] 155]) ?_ ?_
  · refine r_if rfl hF (fun hF => ?_) (fun hF => ?_)
    · refine r_skip ?_
      obtain rfl := someI hF
      exact r_cutgoal [(2, _), (3, _), (5, _), (6, _), (32, _), (58, _)] ⟨rfl, rfl, rfl, rfl, rfl, rfl, trivial⟩ ⟨_, hK2, rfl, h⟩
    refine r_region (rp rfl rfl (rp rfl rfl (r_nil ?_)))
    obtain rfl := someI hF
    exact r_cutgoal [(2, _), (3, _), (5, _), (6, _), (32, _), (58, _)] ⟨rfl, rfl, rfl, rfl, rfl, rfl, trivial⟩ ⟨_, hK2, rfl, h⟩
  rintro e2 w10 ⟨b3, hF, rfl, h⟩
  subst hKF2
  refine r_if rfl hF (fun hF => ?_) (fun hF => ?_)
  · refine r_seq (r_region (rp rfl rfl (rp rfl rfl ?_)))
    by_cases hc9 : y1.Clock = true
    · replace hF := bifT hc9 hF
      refine r_setT hc9 (t := 62) rfl (r_wanted rfl (rp rfl rfl (r_wanted rfl (r_v (v_ld tabOk (h.box 0 rfl) (j := 2) rfl rfl rfl) rfl (r_wanted rfl (rp rfl rfl (r_wanted rfl (rp rfl rfl (rp rfl rfl (rp rfl rfl ?_))))))))))
      by_cases hc10 : (a_1.To == (W64 ((a_0.Pins.length : Int) - 1))) = true
      · replace hF := bifT hc10 hF
        refine r_setT hc10 (t := 68) rfl (r_wanted rfl (rp rfl rfl (r_wanted rfl (r_v (v_ld tabOk (h.box 0 rfl) (j := 3) rfl rfl rfl) rfl (r_wanted rfl (rp rfl rfl (rp rfl rfl (rp rfl rfl ?_))))))))
        by_cases hc11 : (a_1.Sense == 0) = true
        · replace hF := bifT hc11 hF
          refine r_setT hc11 (t := 73) rfl (r_wanted rfl (rp rfl rfl (r_wanted rfl (r_v (v_ld tabOk (h.box 0 rfl) (j := 4) rfl rfl rfl) rfl (r_wanted rfl ?_)))))
          obtain ⟨r4, hr5, hF⟩ := bindS hF
          refine r_callB r4 h call178 (spec_l03Tables_ok ⟨_, _, rfl, (h.oldS s4)⟩ hr5) rfl rfl rfl rfl ?_
          intro w6 h
          refine rp rfl rfl (rp rfl rfl ?_)
          by_cases hc12 : r4 = true
          · replace hF := bifT hc12 hF
            refine r_setT hc12 (t := 78) rfl (r_wanted rfl (rp rfl rfl (r_wanted rfl (r_v (v_ld tabOk (h.box 0 rfl) (j := 5) rfl rfl rfl) rfl (r_wanted rfl ?_)))))
            obtain ⟨r5, hr6, hF⟩ := bindS hF
            refine r_callB r5 h call178 (spec_l03Tables_ok ⟨_, _, rfl, (h.oldS s5)⟩ hr6) rfl rfl rfl rfl ?_
            intro w7 h
            exact rp rfl rfl (rp rfl rfl (r_nil (r_rB tabOk h hF ⟨rfl, trivial⟩)))
          replace hc12 := Bool.eq_false_iff.2 hc12
          replace hF := bifF hc12 hF
          exact r_setF hc12 (t := 78) rfl (r_not rfl rfl rfl (r_not rfl rfl rfl (r_not rfl rfl rfl (rp rfl rfl (rp rfl rfl (r_nil (r_rB tabOk h hF ⟨rfl, trivial⟩)))))))
        replace hc11 := Bool.eq_false_iff.2 hc11
        replace hF := bifF hc11 hF
        refine r_setF hc11 (t := 73) rfl (r_not rfl rfl rfl (r_not rfl rfl rfl (r_not rfl rfl rfl (rp rfl rfl (rp rfl rfl (r_not rfl rfl rfl (r_not rfl rfl rfl (r_not rfl rfl rfl (rp rfl rfl (rp rfl rfl (r_nil ?_)))))))))))
        exact r_rB tabOk h hF ⟨rfl, trivial⟩
      replace hc10 := Bool.eq_false_iff.2 hc10
      replace hF := bifF hc10 hF
      refine r_setF hc10 (t := 68) rfl (r_not rfl rfl rfl (r_not rfl rfl rfl (r_not rfl rfl rfl (rp rfl rfl (rp rfl rfl (r_not rfl rfl rfl (r_not rfl rfl rfl (r_not rfl rfl rfl (rp rfl rfl (rp rfl rfl (r_not rfl rfl rfl ?_)))))))))))
      exact r_not rfl rfl rfl (r_not rfl rfl rfl (rp rfl rfl (rp rfl rfl (r_nil (r_rB tabOk h hF ⟨rfl, trivial⟩)))))
    replace hc9 := Bool.eq_false_iff.2 hc9
    replace hF := bifF hc9 hF
    refine r_setF hc9 (t := 62) rfl (r_not rfl rfl rfl (r_not rfl rfl rfl (r_not rfl rfl rfl (r_not rfl rfl rfl (rp rfl rfl (rp rfl rfl (r_not rfl rfl rfl (r_not rfl rfl rfl (r_not rfl rfl rfl (rp rfl rfl (rp rfl rfl ?_)))))))))))
    exact r_not rfl rfl rfl (r_not rfl rfl rfl (r_not rfl rfl rfl (rp rfl rfl (rp rfl rfl (r_not rfl rfl rfl (r_not rfl rfl rfl (r_not rfl rfl rfl (rp rfl rfl (rp rfl rfl (r_nil (r_rB tabOk h hF ⟨rfl, trivial⟩)))))))))))
  refine r_seq (r_seq (r_region (rp rfl rfl (rp rfl rfl (r_nil ?_)))))
  obtain ⟨KF1, hKF1, o1, hF, hK1⟩ := bindE hF
  refine r_cut (fun e w' => ∃ (b4 : Bool), KF1 b4 = some r ∧ e = [(2, .pointer (some ⟨bb1, 0, none⟩)), (3, .pointer (some ⟨bb2, 0, none⟩)), (5, .int .i64 (W64 ((a_0.Pins.length : Int) - 1))), (6, .bool y1.Clock), (83, .bool b4)] ∧ SH w w' [Ch.box bb2 [.int .i64 a_1.Kind, .int .i64 a_1.From, .int .i64 a_1.To, .int .i64 a_1.Sense, .slice p4 a_1.Delay.length k4, .slice p5 a_1.Slew.length k5] 159, Ch.box bb1 [.string a_0.Name, .int .i64 a_0.Kind, .slice p1 a_0.Pins.length k1, .slice p2 a_0.Arcs.length k2, .slice p3 a_0.Truth.length k3, .int .i64 a_0.Leak, .int .i64 a_0.Energy] 155]) ?_ ?_
  · refine r_if rfl hF (fun hF => ?_) (fun hF => ?_)
    · refine r_skip ?_
      obtain rfl := someI hF
      exact r_cutgoal [(2, _), (3, _), (5, _), (6, _), (83, _)] ⟨rfl, rfl, rfl, rfl, rfl, trivial⟩ ⟨_, hK1, rfl, h⟩
    refine r_region (rp rfl rfl (rp rfl rfl (r_nil ?_)))
    obtain rfl := someI hF
    exact r_cutgoal [(2, _), (3, _), (5, _), (6, _), (83, _)] ⟨rfl, rfl, rfl, rfl, rfl, trivial⟩ ⟨_, hK1, rfl, h⟩
  rintro e1 w9 ⟨b4, hF, rfl, h⟩
  subst hKF1
  refine r_if rfl hF (fun hF => ?_) (fun hF => ?_)
  · refine r_seq (r_region (rp rfl rfl (rp rfl rfl ?_)))
    by_cases hc14 : y1.Clock = true
    · replace hF := bifT hc14 hF
      refine r_setT hc14 (t := 87) rfl (r_wanted rfl (rp rfl rfl (r_wanted rfl (r_v (v_ld tabOk (h.box 0 rfl) (j := 2) rfl rfl rfl) rfl (r_wanted rfl (rp rfl rfl (r_wanted rfl (rp rfl rfl (rp rfl rfl (rp rfl rfl ?_))))))))))
      by_cases hc15 : (decide (a_1.To < (W64 ((a_0.Pins.length : Int) - 1)))) = true
      · replace hF := bifT hc15 hF
        refine r_setT hc15 (t := 93) rfl (r_wanted rfl (rp rfl rfl (r_wanted rfl (r_v (v_ld tabOk (h.box 1 rfl) (j := 2) rfl rfl rfl) rfl (r_wanted rfl (rp rfl rfl (r_wanted rfl (r_v (v_ld tabOk (h.box 0 rfl) (j := 2) rfl rfl rfl) rfl (r_wanted rfl ?_)))))))))
        obtain ⟨y2, hy2, hF⟩ := bindS hF
        have he2 := idx_some hy2
        obtain ⟨b5, o_2, q2, cs4, hp2, hq2, -, hr7, hc16⟩ := s1.at hy2
        obtain rfl := open_TPin hr7
        refine r_v (v_ix tabOk hp2 hq2 ⟨he2.1, he2.2.1⟩ rfl rfl rfl rfl rfl rfl) rfl (r_wanted rfl (rp rfl rfl (r_wanted rfl (r_v (v_ld tabOk (hc16.below h.below) (j := 3) rfl rfl rfl) rfl (r_wanted rfl (rp rfl rfl (rp rfl rfl (rp rfl rfl ?_))))))))
        by_cases hc17 : (!y2.Clock) = true
        · replace hF := bifT hc17 hF
          refine r_setT hc17 (t := 103) rfl (r_wanted rfl (rp rfl rfl (r_wanted rfl (r_v (v_ld tabOk (h.box 0 rfl) (j := 3) rfl rfl rfl) rfl (r_wanted rfl (rp rfl rfl (rp rfl rfl (rp rfl rfl ?_))))))))
          by_cases hc18 : (a_1.Sense == 0) = true
          · replace hF := bifT hc18 hF
            refine r_setT hc18 (t := 108) rfl (r_wanted rfl (rp rfl rfl (r_wanted rfl (r_v (v_ld tabOk (h.box 0 rfl) (j := 4) rfl rfl rfl) rfl (r_wanted rfl ?_)))))
            obtain ⟨r6, hr8, hF⟩ := bindS hF
            refine r_callB r6 h call178 (spec_l03Tables_ok ⟨_, _, rfl, (h.oldS s4)⟩ hr8) rfl rfl rfl rfl ?_
            intro w8 h
            refine rp rfl rfl (rp rfl rfl ?_)
            by_cases hc19 : r6 = true
            · replace hF := bifT hc19 hF
              refine r_setT hc19 (t := 113) rfl (r_wanted rfl (rp rfl rfl (r_wanted rfl (r_v (v_ld tabOk (h.box 0 rfl) (j := 5) rfl rfl rfl) rfl (r_wanted rfl (rp rfl rfl (r_wanted rfl (rp rfl rfl (rp rfl rfl (rp rfl rfl (r_nil ?_)))))))))))
              exact r_rB tabOk h hF ⟨rfl, trivial⟩
            replace hc19 := Bool.eq_false_iff.2 hc19
            replace hF := bifF hc19 hF
            exact r_setF hc19 (t := 113) rfl (r_not rfl rfl rfl (r_not rfl rfl rfl (r_not rfl rfl rfl (r_not rfl rfl rfl (rp rfl rfl (rp rfl rfl (r_nil (r_rB tabOk h hF ⟨rfl, trivial⟩))))))))
          replace hc18 := Bool.eq_false_iff.2 hc18
          replace hF := bifF hc18 hF
          refine r_setF hc18 (t := 108) rfl (r_not rfl rfl rfl (r_not rfl rfl rfl (r_not rfl rfl rfl (rp rfl rfl (rp rfl rfl (r_not rfl rfl rfl (r_not rfl rfl rfl (r_not rfl rfl rfl (r_not rfl rfl rfl (rp rfl rfl (rp rfl rfl ?_)))))))))))
          exact r_nil (r_rB tabOk h hF ⟨rfl, trivial⟩)
        replace hc17 := Bool.eq_false_iff.2 hc17
        replace hF := bifF hc17 hF
        refine r_setF hc17 (t := 103) rfl (r_not rfl rfl rfl (r_not rfl rfl rfl (r_not rfl rfl rfl (rp rfl rfl (rp rfl rfl (r_not rfl rfl rfl (r_not rfl rfl rfl (r_not rfl rfl rfl (rp rfl rfl (rp rfl rfl (r_not rfl rfl rfl ?_)))))))))))
        exact r_not rfl rfl rfl (r_not rfl rfl rfl (r_not rfl rfl rfl (rp rfl rfl (rp rfl rfl (r_nil (r_rB tabOk h hF ⟨rfl, trivial⟩))))))
      replace hc15 := Bool.eq_false_iff.2 hc15
      replace hF := bifF hc15 hF
      refine r_setF hc15 (t := 93) rfl (r_not rfl rfl rfl (r_not rfl rfl rfl (r_not rfl rfl rfl (r_not rfl rfl rfl (r_not rfl rfl rfl (r_not rfl rfl rfl (r_not rfl rfl rfl (r_not rfl rfl rfl (rp rfl rfl (rp rfl rfl (r_not rfl rfl rfl ?_)))))))))))
      refine r_not rfl rfl rfl (r_not rfl rfl rfl (rp rfl rfl (rp rfl rfl (r_not rfl rfl rfl (r_not rfl rfl rfl (r_not rfl rfl rfl (rp rfl rfl (rp rfl rfl (r_not rfl rfl rfl (r_not rfl rfl rfl (r_not rfl rfl rfl ?_)))))))))))
      exact r_not rfl rfl rfl (rp rfl rfl (rp rfl rfl (r_nil (r_rB tabOk h hF ⟨rfl, trivial⟩))))
    replace hc14 := Bool.eq_false_iff.2 hc14
    replace hF := bifF hc14 hF
    refine r_setF hc14 (t := 87) rfl (r_not rfl rfl rfl (r_not rfl rfl rfl (r_not rfl rfl rfl (r_not rfl rfl rfl (rp rfl rfl (rp rfl rfl (r_not rfl rfl rfl (r_not rfl rfl rfl (r_not rfl rfl rfl (r_not rfl rfl rfl (r_not rfl rfl rfl ?_)))))))))))
    refine r_not rfl rfl rfl (r_not rfl rfl rfl (r_not rfl rfl rfl (rp rfl rfl (rp rfl rfl (r_not rfl rfl rfl (r_not rfl rfl rfl (r_not rfl rfl rfl (rp rfl rfl (rp rfl rfl (r_not rfl rfl rfl (r_not rfl rfl rfl ?_)))))))))))
    exact r_not rfl rfl rfl (rp rfl rfl (rp rfl rfl (r_not rfl rfl rfl (r_not rfl rfl rfl (r_not rfl rfl rfl (r_not rfl rfl rfl (rp rfl rfl (rp rfl rfl (r_nil (r_rB tabOk h hF ⟨rfl, trivial⟩))))))))))
  exact r_skip (r_blk (r_seq (r_region (rp rfl rfl (r_nil (r_rB tabOk h hF ⟨rfl, trivial⟩))))))

def spec_l03Kinds_L1 (c : TCell) : Nat → (List Int) → Int → Option ((List Int) × Int)
  | 0, _, _ => none
  | n + 1, x2, i1 =>
    bif decide (i1 < (c.Arcs.length : Int)) then
      (idx c.Arcs i1).bind fun y1 =>
      (idx x2 y1.Kind).bind fun y2 =>
      (idx x2 y1.Kind).bind fun _ =>
      spec_l03Kinds_L1 c n (setS x2 y1.Kind (W64 (y2 + 1))) (W64 (i1 + 1))
    else
      some (x2, i1)

def spec_l03Kinds (n : Nat) (c : TCell) : Option (List Int) :=
  (mkS 6 (0 : Int)).bind fun x1 =>
  (spec_l03Kinds_L1 c n x1 0).bind fun o => match o with
  | (x2, _) =>
    some x2

theorem spec_l03Kinds_ok {n : Nat} {w : World} {c : TCell} {cs1 : List Value} (ha1 : GoT.R w (old w) c cs1) {r : (List Int)} (hF : spec_l03Kinds n c = some r) : RetV Tryz.prog 167 [GoT.v TCell cs1] w r := by
  obtain ⟨p1, k1, p2, k2, p3, k3, rfl, s1, s2, s3⟩ := open_TCell ha1
  refine retV_of_run Tryz.func167 rfl (m := 25) rfl rfl (fun h => ?_)
  rw [spec_l03Kinds] at hF
  refine r_seq (r_region (r_box h rfl rfl ?_))
  intro w1 bb1 h
  refine rp rfl rfl (r_nil (r_seq (r_region ?_)))
  obtain ⟨x1, hx1, hF⟩ := bindS hF
  obtain ⟨g1, g2, hx1⟩ := mkS_some hx1
  refine r_makeE tabOk Int h rfl rfl rfl rfl rfl rfl rfl rfl rfl g1 g2 hx1 rfl ?_
  intro w2 S1 p4 h
  refine rp rfl rfl (r_nil (r_seq (r_seq (r_region (rp rfl rfl (r_nil ?_))))))
  obtain ⟨o1, hF, hK1⟩ := bindS hF
  refine r_block (r_sub [(1, _), (3, _), (4, _)] ⟨rfl, rfl, rfl, trivial⟩ ?_)
  refine r_loop (fun m e w' => ∃ (x2 : (List Int)) (i1 : Int), spec_l03Kinds_L1 c m x2 i1 = some o1 ∧ e = [(1, .pointer (some ⟨bb1, 0, none⟩)), (3, .slice p4 x1.length x1.length), (4, .int .i64 i1)] ∧ SH w w' [Ch.own S1 (x2 : List Int) [.slice p4 x1.length x1.length], Ch.box bb1 [.string c.Name, .int .i64 c.Kind, .slice p1 c.Pins.length k1, .slice p2 c.Arcs.length k2, .slice p3 c.Truth.length k3, .int .i64 c.Leak, .int .i64 c.Energy] 155]) n ⟨_, _, hF, rfl, h⟩ ?_
  rintro m1 e1 w3 ⟨x2, i1, hF, rfl, h⟩
  rcases m1 with _ | m1
  · rw [spec_l03Kinds_L1] at hF
    cases hF
  rw [spec_l03Kinds_L1] at hF
  refine r_seq (r_seq (r_region (rp rfl rfl (rp rfl rfl (r_v (v_ld tabOk (h.box 1 rfl) (j := 3) rfl rfl rfl) rfl (rp rfl rfl (rp rfl rfl (r_nil ?_))))))))
  refine r_if rfl hF (fun hF => ?_) (fun hF => ?_)
  · refine r_skip (r_seq (r_block (r_region (rp rfl rfl (rp rfl rfl (r_v (v_ld tabOk (h.box 1 rfl) (j := 3) rfl rfl rfl) rfl (rp rfl rfl ?_)))))))
    obtain ⟨y1, hy1, hF⟩ := bindS hF
    have he1 := idx_some hy1
    obtain ⟨b1, o_1, q1, cs2, hp1, hq1, -, hr1, hc2⟩ := s2.at hy1
    obtain ⟨p5, k4, p6, k5, rfl, s4, s5⟩ := open_TArc hr1
    refine r_v (v_ix tabOk hp1 hq1 ⟨he1.1, he1.2.1⟩ rfl rfl rfl rfl rfl rfl) rfl (rp rfl rfl (r_v (v_ld tabOk (hc2.below h.below) (j := 0) rfl rfl rfl) rfl ?_))
    obtain ⟨y2, hy2, hF⟩ := bindS hF
    have he2 := idx_some hy2
    obtain ⟨b2, o_2, q2, cs3, hp2, hq2, -, hr2, hc3⟩ := (h.sl 0 rfl).1.at hy2
    obtain rfl := hr2
    refine r_v (v_ix tabOk hp2 hq2 ⟨he2.1, lt_ln he2.2.1 (h.sl 0 rfl).2⟩ rfl rfl rfl rfl rfl rfl) rfl (r_v (v_ld tabOk hc3 (j := 0) rfl rfl rfl) rfl (rp rfl rfl ?_))
    obtain ⟨y3, hy3, hF⟩ := bindS hF
    have he3 := idx_some hy3
    obtain ⟨b3, o_3, q3, cs4, hp3, hq3, -, hr3, hc4⟩ := (h.sl 0 rfl).1.at hy3
    obtain rfl := hr3
    refine r_v (v_ix tabOk hp3 hq3 ⟨he3.1, lt_ln he3.2.1 (h.sl 0 rfl).2⟩ rfl rfl rfl rfl rfl rfl) rfl (r_stown tabOk 0 0 (W64 (y2 + 1)) h rfl hy3 hp3 hq3 rfl hc4 rfl rfl rfl rfl rfl rfl rfl ?_)
    intro w4 h
    exact r_nil (r_blk (r_region (rp rfl rfl (rp rfl rfl (rp rfl rfl (r_nil (r_back m1 [(1, _), (3, _), (4, _)] (Nat.lt_succ_self m1) ⟨rfl, rfl, rfl, trivial⟩ ⟨_, _, hF, rfl, h⟩)))))))
  refine r_exit rfl ?_
  obtain rfl := someI hF; replace hF := hK1
  refine r_seq (r_region (rp rfl rfl (rp rfl rfl (r_nil ?_))))
  obtain rfl := someI hF
  exact r_retV tabOk (ρ := (List Int)) [GoT.v (List Int) [.slice p4 x1.length x1.length]] h ⟨rfl, trivial⟩ (PV.done h (pv_one (po_own 0 h rfl)))

end Go.Fw
