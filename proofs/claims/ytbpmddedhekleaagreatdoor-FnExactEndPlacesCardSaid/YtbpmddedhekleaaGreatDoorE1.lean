/- By a program of mine (gen.py): for each function a plain function and the proof that the code computes it. -/
import Derived.Test.YtbpmddedhekleaaGreatDoorD2
namespace Go.Fw
open Go Go.Proofs
open Go.RowKit (Below)
set_option maxRecDepth 100000
def laws_markInt64S_L1 (a : (List Int)) : Nat → (List Int) → Int → Int → Option ((List Int) × Int × Int)
  | 0, _, _, _ => none
  | n + 1, x1, i1, i2 =>
    bif decide (i2 < (a.length : Int)) then
      (idx x1 i2).bind fun _ =>
      laws_markInt64S_L1 a n (setS x1 i2 i1) (W64 (i1 + 1)) (W64 (i2 + 1))
    else
      some (x1, i1, i2)

def laws_markInt64S (n : Nat) (a : (List Int)) (k : Int) : Option (Int × (List Int)) :=
  (laws_markInt64S_L1 a n a k 0).bind fun o => match o with
  | (x1, i1, _) =>
    some (i1, x1)

theorem laws_markInt64S_okm {n : Nat} {w0 w : World} {F : List Ch} {a : (List Int)} {k : Int} {S1 : Nat → Prop} {p1 : Option Addr} {ln1 k1 : Nat} (h : SH w0 w (Ch.own S1 (a : List Int) [.slice p1 ln1 k1] :: F)) {r : (Int × (List Int))} (hF : laws_markInt64S n a k = some r) : RetN Tryz.prog 25 [.slice p1 ln1 k1, .int .i64 k] w (fun w' => ∃ Z0 : Nat → Prop, SH w0 w' (Ch.own Z0 (r.2 : List Int) [.slice p1 ln1 k1] :: F)) r.1 := by
  refine retN_of_run Tryz.func25 rfl (m := 19) rfl rfl ?_
  rw [laws_markInt64S] at hF
  obtain rfl := (h.sl 0 rfl).2
  refine r_seq (r_region (rp rfl rfl (r_nil (r_seq (r_seq (r_region (rp rfl rfl (r_nil ?_))))))))
  obtain ⟨o1, hF, hK1⟩ := bindS hF
  refine r_block (r_sub [(0, _), (1, _), (5, _)] ⟨rfl, rfl, rfl, trivial⟩ ?_)
  refine r_loop (fun m e w' => ∃ (x1 : (List Int)) (i1 : Int) (i2 : Int), laws_markInt64S_L1 a m x1 i1 i2 = some o1 ∧ e = [(0, .slice p1 a.length k1), (1, .int .i64 i1), (5, .int .i64 i2)] ∧ SH w0 w' (Ch.own S1 (x1 : List Int) [.slice p1 a.length k1] :: F)) n ⟨_, _, _, hF, rfl, h⟩ ?_
  rintro m1 e1 w1 ⟨x1, i1, i2, hF, rfl, h⟩
  rcases m1 with _ | m1
  · rw [laws_markInt64S_L1] at hF
    cases hF
  rw [laws_markInt64S_L1] at hF
  refine r_seq (r_seq (r_region (rp rfl rfl (rp rfl rfl (rp rfl rfl (rp rfl rfl (r_nil ?_)))))))
  refine r_if rfl hF (fun hF => ?_) (fun hF => ?_)
  · refine r_skip (r_seq (r_block (r_seq (r_region (rp rfl rfl (rp rfl rfl (rp rfl rfl ?_)))))))
    obtain ⟨y1, hy1, hF⟩ := bindS hF
    have he1 := idx_some hy1
    obtain ⟨b1, o_1, q1, cs1, hp1, hq1, -, hr1, hc2⟩ := (h.sl 0 rfl).1.at hy1
    obtain rfl := hr1
    refine r_v (v_ix tabOk hp1 hq1 ⟨he1.1, lt_ln he1.2.1 (h.sl 0 rfl).2⟩ rfl rfl rfl rfl rfl rfl) rfl (r_stown tabOk 0 0 i1 h rfl hy1 hp1 hq1 rfl hc2 rfl rfl rfl rfl rfl rfl rfl ?_)
    intro w2 h
    refine r_nil (r_region (rp rfl rfl (rp rfl rfl (rp rfl rfl (r_nil (r_blk (r_region (rp rfl rfl (rp rfl rfl (rp rfl rfl (r_nil ?_)))))))))))
    exact r_back m1 [(0, _), (1, _), (5, _)] (Nat.lt_succ_self m1) ⟨rfl, rfl, rfl, trivial⟩ ⟨_, _, _, hF, rfl, h⟩
  refine r_exit rfl ?_
  obtain rfl := someI hF; replace hF := hK1
  refine r_seq (r_region (rp rfl rfl (rp rfl rfl (r_nil ?_))))
  obtain rfl := someI hF
  exact r_retN tabOk ⟨_, h⟩ ⟨rfl, trivial⟩

def laws_markText_L1 : Nat → Int → ByteArray → Option (Int × ByteArray)
  | 0, _, _ => none
  | n + 1, i1, z1 =>
    bif decide (i1 > 0) then
      (catB (strOf ([(⟨IntKind.wrap .u8 (W64 (48 + (i1.tmod 10)))⟩ : IntK .u8)] : List (IntK .u8))) z1).bind fun z2 =>
      laws_markText_L1 n (W64 (i1.tdiv 10)) z2
    else
      some (i1, z1)

def laws_markText (n : Nat) (k : Int) : Option ByteArray :=
  bif decide (k ≤ 0) then
    some (⟨#[109, 48]⟩ : ByteArray)
  else
    (laws_markText_L1 n k (⟨#[]⟩ : ByteArray)).bind fun o => match o with
    | (_, z1) =>
      (catB (⟨#[109]⟩ : ByteArray) z1).bind fun z3 =>
      some z3

theorem laws_markText_ok {n : Nat} {w : World} {k : Int}  {r : ByteArray} (hF : laws_markText n k = some r) : RetV Tryz.prog 151 [.int .i64 k] w r := by
  refine retV_of_run Tryz.func151 rfl (m := 20) rfl rfl (fun h => ?_)
  rw [laws_markText] at hF
  refine r_seq (r_region (rp rfl rfl (r_nil (r_seq (r_seq (r_region (rp rfl rfl (rp rfl rfl (r_nil ?_)))))))))
  refine r_if rfl hF (fun hF => ?_) (fun hF => ?_)
  · refine r_seq (r_region (rp rfl rfl (r_nil ?_)))
    obtain rfl := someI hF
    exact r_retV tabOk (ρ := ByteArray) [_] h ⟨rfl, trivial⟩ (vs_str _ _)
  refine r_skip (r_seq (r_region (rp rfl rfl (r_nil (r_seq ?_)))))
  obtain ⟨o1, hF, hK1⟩ := bindS hF
  refine r_block (r_sub [(0, _), (3, _)] ⟨rfl, rfl, trivial⟩ ?_)
  refine r_loop (fun m e w' => ∃ (i1 : Int) (z1 : ByteArray), laws_markText_L1 m i1 z1 = some o1 ∧ e = [(0, .int .i64 i1), (3, .string z1)] ∧ SH w w' []) n ⟨_, _, hF, rfl, h⟩ ?_
  rintro m1 e1 w1 ⟨i1, z1, hF, rfl, h⟩
  rcases m1 with _ | m1
  · rw [laws_markText_L1] at hF
    cases hF
  rw [laws_markText_L1] at hF
  refine r_seq (r_seq (r_region (rp rfl rfl (rp rfl rfl (r_nil ?_)))))
  refine r_if rfl hF (fun hF => ?_) (fun hF => ?_)
  · refine r_skip (r_block (r_seq (r_region (rp rfl rfl (rp rfl rfl (rp rfl rfl (rp rfl rfl (r_bslice tabOk [.tmp 11] _ ([(⟨IntKind.wrap .u8 (W64 (48 + (i1.tmod 10)))⟩ : IntK .u8)] : List (IntK .u8)) h rfl rfl rfl rfl rfl rfl rfl rfl rfl ⟨rfl, trivial⟩ rfl ?_))))))))
    intro w2 p1 S1 h
    refine r_v (v_bytes tabOk (h.sl 0 rfl).1 (h.sl 0 rfl).2 rfl ⟨rfl, rfl⟩ ⟨rfl, rfl⟩ rfl rfl) rfl (rp rfl rfl ?_)
    obtain ⟨z2, hx1, hF⟩ := bindS hF
    obtain ⟨g1, hx1⟩ := catB_some hx1
    refine r_v (v_cat g1 rfl rfl) rfl ?_
    rw [hx1]
    refine rp rfl rfl (r_nil (r_region (rp rfl rfl (rp rfl rfl (rp rfl rfl (r_nil (r_blk ?_)))))))
    replace h := h.pick [] rfl
    exact r_back m1 [(0, _), (3, _)] (Nat.lt_succ_self m1) ⟨rfl, rfl, trivial⟩ ⟨_, _, hF, rfl, h⟩
  refine r_exit rfl ?_
  obtain rfl := someI hF; replace hF := hK1
  refine r_seq (r_region (rp rfl rfl ?_))
  obtain ⟨z3, hx2, hF⟩ := bindS hF
  obtain ⟨g2, hx2⟩ := catB_some hx2
  refine r_v (v_cat g2 rfl rfl) rfl ?_
  rw [hx2]
  refine rp rfl rfl (r_nil ?_)
  obtain rfl := someI hF
  exact r_retV tabOk (ρ := ByteArray) [_] h ⟨rfl, trivial⟩ (vs_str _ _)

def laws_markPinS_L1 (a : (List TPin)) : Nat → (List TPin) → Int → Int → Option ((List TPin) × Int × Int)
  | 0, _, _, _ => none
  | n + 1, x1, i1, i2 =>
    bif decide (i2 < (a.length : Int)) then
      (laws_markText n i1).bind fun r1 =>
      (idx x1 i2).bind fun y1 =>
      (idx (setS x1 i2 ({ y1 with Name := r1 })) i2).bind fun y2 =>
      (idx (setS (setS x1 i2 ({ y1 with Name := r1 })) i2 ({ y2 with Dir := W64 (i1 + 1) })) i2).bind fun y3 =>
      (idx (setS (setS (setS x1 i2 ({ y1 with Name := r1 })) i2 ({ y2 with Dir := W64 (i1 + 1) })) i2 ({ y3 with Cap := W64 ((W64 (i1 + 1)) + 1) })) i2).bind fun y4 =>
      laws_markPinS_L1 a n (setS (setS (setS (setS x1 i2 ({ y1 with Name := r1 })) i2 ({ y2 with Dir := W64 (i1 + 1) })) i2 ({ y3 with Cap := W64 ((W64 (i1 + 1)) + 1) })) i2 ({ y4 with Clock := (((W64 ((W64 ((W64 (i1 + 1)) + 1)) + 1)).tmod 3) == 0) })) (W64 ((W64 ((W64 ((W64 (i1 + 1)) + 1)) + 1)) + 1)) (W64 (i2 + 1))
    else
      some (x1, i1, i2)

def laws_markPinS (n : Nat) (a : (List TPin)) (k : Int) : Option (Int × (List TPin)) :=
  (laws_markPinS_L1 a n a k 0).bind fun o => match o with
  | (x1, i1, _) =>
    some (i1, x1)

theorem laws_markPinS_okm {n : Nat} {w0 w : World} {F : List Ch} {a : (List TPin)} {k : Int} {S1 : Nat → Prop} {p1 : Option Addr} {ln1 k1 : Nat} (h : SH w0 w (Ch.own S1 (a : List TPin) [.slice p1 ln1 k1] :: F)) {r : (Int × (List TPin))} (hF : laws_markPinS n a k = some r) : RetN Tryz.prog 152 [.slice p1 ln1 k1, .int .i64 k] w (fun w' => ∃ Z0 : Nat → Prop, SH w0 w' (Ch.own Z0 (r.2 : List TPin) [.slice p1 ln1 k1] :: F)) r.1 := by
  refine retN_of_run Tryz.func152 rfl (m := 44) rfl rfl ?_
  rw [laws_markPinS] at hF
  obtain rfl := (h.sl 0 rfl).2
  refine r_seq (r_region (rp rfl rfl (r_nil (r_seq (r_seq (r_region (rp rfl rfl (r_nil ?_))))))))
  obtain ⟨o1, hF, hK1⟩ := bindS hF
  refine r_block (r_sub [(0, _), (1, _), (5, _)] ⟨rfl, rfl, rfl, trivial⟩ ?_)
  refine r_loop (fun m e w' => ∃ (x1 : (List TPin)) (i1 : Int) (i2 : Int), laws_markPinS_L1 a m x1 i1 i2 = some o1 ∧ e = [(0, .slice p1 a.length k1), (1, .int .i64 i1), (5, .int .i64 i2)] ∧ SH w0 w' (Ch.own S1 (x1 : List TPin) [.slice p1 a.length k1] :: F)) n ⟨_, _, _, hF, rfl, h⟩ ?_
  rintro m1 e1 w1 ⟨x1, i1, i2, hF, rfl, h⟩
  rcases m1 with _ | m1
  · rw [laws_markPinS_L1] at hF
    cases hF
  rw [laws_markPinS_L1] at hF
  refine r_seq (r_seq (r_region (rp rfl rfl (rp rfl rfl (rp rfl rfl (rp rfl rfl (r_nil ?_)))))))
  refine r_if rfl hF (fun hF => ?_) (fun hF => ?_)
  · refine r_skip (r_seq (r_block (r_seq (r_region (rp rfl rfl (rp rfl rfl (rp rfl rfl ?_)))))))
    obtain ⟨r1, hr1, hF⟩ := bindS hF
    refine r_callS r1 h call151 (laws_markText_ok hr1) rfl rfl rfl rfl ?_
    intro w2 h
    obtain ⟨y1, hy1, hF⟩ := bindS hF
    have he1 := idx_some hy1
    obtain ⟨b1, o_1, q1, cs1, hp1, hq1, -, hr2, hc2⟩ := (h.sl 0 rfl).1.at hy1
    obtain rfl := open_TPin hr2
    refine r_v (v_ix tabOk hp1 hq1 ⟨he1.1, lt_ln he1.2.1 (h.sl 0 rfl).2⟩ rfl rfl rfl rfl rfl rfl) rfl (rp rfl rfl (r_stown tabOk 0 0 ({ y1 with Name := r1 }) h rfl hy1 hp1 hq1 (mkR_TPin y1) hc2 rfl rfl rfl (mkR_TPin ({ y1 with Name := r1 })) rfl rfl rfl ?_))
    intro w3 h
    refine r_nil (r_seq (r_region (rp rfl rfl (rp rfl rfl (rp rfl rfl (r_nil (r_seq (r_region (rp rfl rfl (rp rfl rfl (rp rfl rfl ?_)))))))))))
    obtain ⟨y2, hy2, hF⟩ := bindS hF
    have he2 := idx_some hy2
    obtain ⟨b2, o_2, q2, cs2, hp2, hq2, -, hr3, hc3⟩ := (h.sl 0 rfl).1.at hy2
    obtain rfl := open_TPin hr3
    refine r_v (v_ix tabOk hp2 hq2 ⟨he2.1, lt_ln he2.2.1 (h.sl 0 rfl).2⟩ rfl rfl rfl rfl rfl rfl) rfl (rp rfl rfl (r_stown tabOk 0 1 ({ y2 with Dir := W64 (i1 + 1) }) h rfl hy2 hp2 hq2 (mkR_TPin y2) hc3 rfl rfl rfl (mkR_TPin ({ y2 with Dir := W64 (i1 + 1) })) rfl rfl rfl ?_))
    intro w4 h
    refine r_nil (r_seq (r_region (rp rfl rfl (rp rfl rfl (rp rfl rfl (r_nil (r_seq (r_region (rp rfl rfl (rp rfl rfl (rp rfl rfl ?_)))))))))))
    obtain ⟨y3, hy3, hF⟩ := bindS hF
    have he3 := idx_some hy3
    obtain ⟨b3, o_3, q3, cs3, hp3, hq3, -, hr4, hc4⟩ := (h.sl 0 rfl).1.at hy3
    obtain rfl := open_TPin hr4
    refine r_v (v_ix tabOk hp3 hq3 ⟨he3.1, lt_ln he3.2.1 (h.sl 0 rfl).2⟩ rfl rfl rfl rfl rfl rfl) rfl (rp rfl rfl (r_stown tabOk 0 2 ({ y3 with Cap := W64 ((W64 (i1 + 1)) + 1) }) h rfl hy3 hp3 hq3 (mkR_TPin y3) hc4 rfl rfl rfl (mkR_TPin ({ y3 with Cap := W64 ((W64 (i1 + 1)) + 1) })) rfl rfl rfl ?_))
    intro w5 h
    refine r_nil (r_seq (r_region (rp rfl rfl (rp rfl rfl (rp rfl rfl (r_nil (r_seq (r_region (rp rfl rfl (rp rfl rfl (rp rfl rfl ?_)))))))))))
    refine rp rfl rfl (rp rfl rfl ?_)
    obtain ⟨y4, hy4, hF⟩ := bindS hF
    have he4 := idx_some hy4
    obtain ⟨b4, o_4, q4, cs4, hp4, hq4, -, hr5, hc5⟩ := (h.sl 0 rfl).1.at hy4
    obtain rfl := open_TPin hr5
    refine r_v (v_ix tabOk hp4 hq4 ⟨he4.1, lt_ln he4.2.1 (h.sl 0 rfl).2⟩ rfl rfl rfl rfl rfl rfl) rfl (rp rfl rfl (r_stown tabOk 0 3 ({ y4 with Clock := (((W64 ((W64 ((W64 (i1 + 1)) + 1)) + 1)).tmod 3) == 0) }) h rfl hy4 hp4 hq4 (mkR_TPin y4) hc5 rfl rfl rfl (mkR_TPin ({ y4 with Clock := (((W64 ((W64 ((W64 (i1 + 1)) + 1)) + 1)).tmod 3) == 0) })) rfl rfl rfl ?_))
    intro w6 h
    refine r_nil (r_region (rp rfl rfl (rp rfl rfl (rp rfl rfl (r_nil (r_blk (r_region (rp rfl rfl (rp rfl rfl (rp rfl rfl (r_nil ?_)))))))))))
    exact r_back m1 [(0, _), (1, _), (5, _)] (Nat.lt_succ_self m1) ⟨rfl, rfl, rfl, trivial⟩ ⟨_, _, _, hF, rfl, h⟩
  refine r_exit rfl ?_
  obtain rfl := someI hF; replace hF := hK1
  refine r_seq (r_region (rp rfl rfl (rp rfl rfl (r_nil ?_))))
  obtain rfl := someI hF
  exact r_retN tabOk ⟨_, h⟩ ⟨rfl, trivial⟩

def laws_markTableS_L1 (a : (List TTable)) : Nat → (List TTable) → Int → Int → Option ((List TTable) × Int × Int)
  | 0, _, _, _ => none
  | n + 1, x1, i1, i2 =>
    bif decide (i2 < (a.length : Int)) then
      (idx x1 i2).bind fun y1 =>
      (laws_markInt64S n y1.Slews i1).bind fun o => match o with
        | (r1, x2) =>
          (laws_markInt64S n y1.Loads r1).bind fun o => match o with
            | (r2, x3) =>
              (laws_markInt64S n y1.Values r2).bind fun o => match o with
                | (r3, x4) =>
                  laws_markTableS_L1 a n (setS x1 i2 (⟨x2, x3, x4⟩ : TTable)) r3 (W64 (i2 + 1))
    else
      some (x1, i1, i2)

def laws_markTableS (n : Nat) (a : (List TTable)) (k : Int) : Option (Int × (List TTable)) :=
  (laws_markTableS_L1 a n a k 0).bind fun o => match o with
  | (x1, i1, _) =>
    some (i1, x1)

theorem laws_markTableS_okm {n : Nat} {w0 w : World} {F : List Ch} {a : (List TTable)} {k : Int} {S1 : Nat → Prop} {p1 : Option Addr} {ln1 k1 : Nat} (h : SH w0 w (Ch.own S1 (a : List TTable) [.slice p1 ln1 k1] :: F)) {r : (Int × (List TTable))} (hF : laws_markTableS n a k = some r) : RetN Tryz.prog 172 [.slice p1 ln1 k1, .int .i64 k] w (fun w' => ∃ Z0 : Nat → Prop, SH w0 w' (Ch.own Z0 (r.2 : List TTable) [.slice p1 ln1 k1] :: F)) r.1 := by
  refine retN_of_run Tryz.func172 rfl (m := 34) rfl rfl ?_
  rw [laws_markTableS] at hF
  obtain rfl := (h.sl 0 rfl).2
  refine r_seq (r_region (rp rfl rfl (r_nil (r_seq (r_seq (r_region (rp rfl rfl (r_nil ?_))))))))
  obtain ⟨o1, hF, hK1⟩ := bindS hF
  refine r_block (r_sub [(0, _), (1, _), (5, _)] ⟨rfl, rfl, rfl, trivial⟩ ?_)
  refine r_loop (fun m e w' => ∃ (S2 : Nat → Prop) (x1 : (List TTable)) (i1 : Int) (i2 : Int), laws_markTableS_L1 a m x1 i1 i2 = some o1 ∧ e = [(0, .slice p1 a.length k1), (1, .int .i64 i1), (5, .int .i64 i2)] ∧ SH w0 w' (Ch.own S2 (x1 : List TTable) [.slice p1 a.length k1] :: F)) n ⟨_, _, _, _, hF, rfl, h⟩ ?_
  rintro m1 e1 w1 ⟨S2, x1, i1, i2, hF, rfl, h⟩
  rcases m1 with _ | m1
  · rw [laws_markTableS_L1] at hF
    cases hF
  rw [laws_markTableS_L1] at hF
  refine r_seq (r_seq (r_region (rp rfl rfl (rp rfl rfl (rp rfl rfl (rp rfl rfl (r_nil ?_)))))))
  refine r_if rfl hF (fun hF => ?_) (fun hF => ?_)
  · refine r_skip (r_seq (r_block (r_seq (r_region (rp rfl rfl (rp rfl rfl ?_))))))
    obtain ⟨y1, hy1, hF⟩ := bindS hF
    have he1 := idx_some hy1
    obtain ⟨S3, S4, cs1, h⟩ := h.take hy1
    obtain ⟨p2, k2, p3, k3, p4, k4, rfl, -, -, -⟩ := open_TTable (h.own 0 rfl)
    obtain ⟨S5, S6, S7, h⟩ := split_TTable h
    obtain ⟨b1, hp1, -, -, hl2⟩ := h.holeAt 3 rfl
    obtain ⟨q1, hq1⟩ : ∃ q, q = 0 + (i2).toNat * GoT.k TTable := ⟨_, rfl⟩
    refine r_v (v_ix tabOk hp1 hq1 ⟨he1.1, lt_ln he1.2.1 hl2⟩ rfl rfl rfl rfl rfl rfl) rfl (rp rfl rfl (r_v (v_ld tabOk (hole_cells h 3 rfl hp1 hq1) (j := 0) rfl rfl rfl) rfl (rp rfl rfl ?_)))
    replace h := h.pickT 4 [2, 0, 1, 3] rfl
    obtain ⟨o2, hr1, hF⟩ := bindS hF
    obtain ⟨r1, x2⟩ := o2
    refine r_callN r1 call25 (laws_markInt64S_okm h hr1) rfl rfl rfl rfl ?_
    rintro w2 ⟨S8, h⟩
    refine rp rfl rfl (r_nil (r_seq (r_region (rp rfl rfl (rp rfl rfl ?_)))))
    obtain ⟨b2, hp2, -, -, hl4⟩ := h.holeAt 3 rfl
    obtain ⟨q2, hq2⟩ : ∃ q, q = 0 + (i2).toNat * GoT.k TTable := ⟨_, rfl⟩
    refine r_v (v_ix tabOk hp2 hq2 ⟨he1.1, lt_ln he1.2.1 hl4⟩ rfl rfl rfl rfl rfl rfl) rfl (rp rfl rfl (r_v (v_ld tabOk (hole_cells h 3 rfl hp2 hq2) (j := 1) rfl rfl rfl) rfl (rp rfl rfl ?_)))
    replace h := h.pickT 4 [2, 0, 1, 3] rfl
    obtain ⟨o3, hr2, hF⟩ := bindS hF
    obtain ⟨r2, x3⟩ := o3
    refine r_callN r2 call25 (laws_markInt64S_okm h hr2) rfl rfl rfl rfl ?_
    rintro w3 ⟨S9, h⟩
    refine rp rfl rfl (r_nil (r_region (rp rfl rfl (rp rfl rfl ?_))))
    obtain ⟨b3, hp3, -, -, hl6⟩ := h.holeAt 3 rfl
    obtain ⟨q3, hq3⟩ : ∃ q, q = 0 + (i2).toNat * GoT.k TTable := ⟨_, rfl⟩
    refine r_v (v_ix tabOk hp3 hq3 ⟨he1.1, lt_ln he1.2.1 hl6⟩ rfl rfl rfl rfl rfl rfl) rfl (rp rfl rfl (r_v (v_ld tabOk (hole_cells h 3 rfl hp3 hq3) (j := 2) rfl rfl rfl) rfl (rp rfl rfl ?_)))
    replace h := h.pickT 4 [2, 0, 1, 3] rfl
    obtain ⟨o4, hr3, hF⟩ := bindS hF
    obtain ⟨r3, x4⟩ := o4
    refine r_callN r3 call25 (laws_markInt64S_okm h hr3) rfl rfl rfl rfl ?_
    rintro w4 ⟨S10, h⟩
    refine rp rfl rfl (r_nil (r_blk (r_region (rp rfl rfl (rp rfl rfl (rp rfl rfl (r_nil ?_)))))))
    obtain ⟨S11, h⟩ := h.gatherT 4 [3] (po_TTable (⟨x2, x3, x4⟩ : TTable) h (po_own 2 h rfl) (po_own 1 h rfl) (po_own 0 h rfl) (by rfl) (by rfl)) rfl
    replace h := h.put
    obtain ⟨S12, h⟩ := sh_any (S := _) h
    exact r_back m1 [(0, _), (1, _), (5, _)] (Nat.lt_succ_self m1) ⟨rfl, rfl, rfl, trivial⟩ ⟨_, _, _, _, hF, rfl, h⟩
  refine r_exit rfl ?_
  obtain rfl := someI hF; replace hF := hK1
  refine r_seq (r_region (rp rfl rfl (rp rfl rfl (r_nil ?_))))
  obtain rfl := someI hF
  exact r_retN tabOk ⟨_, h⟩ ⟨rfl, trivial⟩

def laws_markArcS_L1 (a : (List TArc)) : Nat → (List TArc) → Int → Int → Option ((List TArc) × Int × Int)
  | 0, _, _, _ => none
  | n + 1, x1, i1, i2 =>
    bif decide (i2 < (a.length : Int)) then
      (idx x1 i2).bind fun y1 =>
      (laws_markTableS n y1.Delay (W64 ((W64 ((W64 ((W64 (i1 + 1)) + 1)) + 1)) + 1))).bind fun o => match o with
        | (r1, x2) =>
          (laws_markTableS n y1.Slew r1).bind fun o => match o with
            | (r2, x3) =>
              laws_markArcS_L1 a n (setS x1 i2 (⟨i1, W64 (i1 + 1), W64 ((W64 (i1 + 1)) + 1), W64 ((W64 ((W64 (i1 + 1)) + 1)) + 1), x2, x3⟩ : TArc)) r2 (W64 (i2 + 1))
    else
      some (x1, i1, i2)

def laws_markArcS (n : Nat) (a : (List TArc)) (k : Int) : Option (Int × (List TArc)) :=
  (laws_markArcS_L1 a n a k 0).bind fun o => match o with
  | (x1, i1, _) =>
    some (i1, x1)

theorem laws_markArcS_okm {n : Nat} {w0 w : World} {F : List Ch} {a : (List TArc)} {k : Int} {S1 : Nat → Prop} {p1 : Option Addr} {ln1 k1 : Nat} (h : SH w0 w (Ch.own S1 (a : List TArc) [.slice p1 ln1 k1] :: F)) {r : (Int × (List TArc))} (hF : laws_markArcS n a k = some r) : RetN Tryz.prog 153 [.slice p1 ln1 k1, .int .i64 k] w (fun w' => ∃ Z0 : Nat → Prop, SH w0 w' (Ch.own Z0 (r.2 : List TArc) [.slice p1 ln1 k1] :: F)) r.1 := by
  refine retN_of_run Tryz.func153 rfl (m := 55) rfl rfl ?_
  rw [laws_markArcS] at hF
  obtain rfl := (h.sl 0 rfl).2
  refine r_seq (r_region (rp rfl rfl (r_nil (r_seq (r_seq (r_region (rp rfl rfl (r_nil ?_))))))))
  obtain ⟨o1, hF, hK1⟩ := bindS hF
  refine r_block (r_sub [(0, _), (1, _), (5, _)] ⟨rfl, rfl, rfl, trivial⟩ ?_)
  refine r_loop (fun m e w' => ∃ (S2 : Nat → Prop) (x1 : (List TArc)) (i1 : Int) (i2 : Int), laws_markArcS_L1 a m x1 i1 i2 = some o1 ∧ e = [(0, .slice p1 a.length k1), (1, .int .i64 i1), (5, .int .i64 i2)] ∧ SH w0 w' (Ch.own S2 (x1 : List TArc) [.slice p1 a.length k1] :: F)) n ⟨_, _, _, _, hF, rfl, h⟩ ?_
  rintro m1 e1 w1 ⟨S2, x1, i1, i2, hF, rfl, h⟩
  rcases m1 with _ | m1
  · rw [laws_markArcS_L1] at hF
    cases hF
  rw [laws_markArcS_L1] at hF
  refine r_seq (r_seq (r_region (rp rfl rfl (rp rfl rfl (rp rfl rfl (rp rfl rfl (r_nil ?_)))))))
  refine r_if rfl hF (fun hF => ?_) (fun hF => ?_)
  · refine r_skip (r_seq (r_block (r_seq (r_region (rp rfl rfl (rp rfl rfl (rp rfl rfl ?_)))))))
    obtain ⟨y1, hy1, hF⟩ := bindS hF
    have he1 := idx_some hy1
    obtain ⟨S3, S4, cs1, h⟩ := h.take hy1
    obtain ⟨p2, k2, p3, k3, rfl, -, -⟩ := open_TArc (h.own 0 rfl)
    obtain ⟨S5, S6, h⟩ := split_TArc h
    obtain ⟨b1, hp1, -, -, hl2⟩ := h.holeAt 2 rfl
    obtain ⟨q1, hq1⟩ : ∃ q, q = 0 + (i2).toNat * GoT.k TArc := ⟨_, rfl⟩
    refine r_v (v_ix tabOk hp1 hq1 ⟨he1.1, lt_ln he1.2.1 hl2⟩ rfl rfl rfl rfl rfl rfl) rfl (rp rfl rfl (r_sthole tabOk 2 0 h rfl hp1 hq1 rfl rfl rfl rfl rfl rfl ?_))
    intro w2 h
    refine r_nil (r_seq (r_region (rp rfl rfl (rp rfl rfl (rp rfl rfl (r_nil (r_seq (r_region (rp rfl rfl (rp rfl rfl (rp rfl rfl ?_)))))))))))
    obtain ⟨b2, hp2, -, -, hl4⟩ := h.holeAt 2 rfl
    obtain ⟨q2, hq2⟩ : ∃ q, q = 0 + (i2).toNat * GoT.k TArc := ⟨_, rfl⟩
    refine r_v (v_ix tabOk hp2 hq2 ⟨he1.1, lt_ln he1.2.1 hl4⟩ rfl rfl rfl rfl rfl rfl) rfl (rp rfl rfl (r_sthole tabOk 2 1 h rfl hp2 hq2 rfl rfl rfl rfl rfl rfl ?_))
    intro w3 h
    replace h : SH _ _ (Ch.own S6 (y1.Slew : List TTable) [.slice p3 y1.Slew.length k3] :: Ch.own S5 (y1.Delay : List TTable) [.slice p2 y1.Delay.length k2] :: Ch.hole S4 (x1 : List TArc) p1 a.length k1 (i2).toNat [.int .i64 i1, .int .i64 (W64 (i1 + 1)), .int .i64 y1.To, .int .i64 y1.Sense, .slice p2 y1.Delay.length k2, .slice p3 y1.Slew.length k3] :: F) := h
    refine r_nil (r_seq (r_region (rp rfl rfl (rp rfl rfl (rp rfl rfl (r_nil (r_seq (r_region (rp rfl rfl (rp rfl rfl (rp rfl rfl ?_)))))))))))
    obtain ⟨b3, hp3, -, -, hl6⟩ := h.holeAt 2 rfl
    obtain ⟨q3, hq3⟩ : ∃ q, q = 0 + (i2).toNat * GoT.k TArc := ⟨_, rfl⟩
    refine r_v (v_ix tabOk hp3 hq3 ⟨he1.1, lt_ln he1.2.1 hl6⟩ rfl rfl rfl rfl rfl rfl) rfl (rp rfl rfl (r_sthole tabOk 2 2 h rfl hp3 hq3 rfl rfl rfl rfl rfl rfl ?_))
    intro w4 h
    refine r_nil (r_seq (r_region (rp rfl rfl (rp rfl rfl (rp rfl rfl (r_nil (r_seq (r_region (rp rfl rfl (rp rfl rfl (rp rfl rfl ?_)))))))))))
    obtain ⟨b4, hp4, -, -, hl8⟩ := h.holeAt 2 rfl
    obtain ⟨q4, hq4⟩ : ∃ q, q = 0 + (i2).toNat * GoT.k TArc := ⟨_, rfl⟩
    refine r_v (v_ix tabOk hp4 hq4 ⟨he1.1, lt_ln he1.2.1 hl8⟩ rfl rfl rfl rfl rfl rfl) rfl (rp rfl rfl (r_sthole tabOk 2 3 h rfl hp4 hq4 rfl rfl rfl rfl rfl rfl ?_))
    intro w5 h
    replace h : SH _ _ (Ch.own S6 (y1.Slew : List TTable) [.slice p3 y1.Slew.length k3] :: Ch.own S5 (y1.Delay : List TTable) [.slice p2 y1.Delay.length k2] :: Ch.hole S4 (x1 : List TArc) p1 a.length k1 (i2).toNat [.int .i64 i1, .int .i64 (W64 (i1 + 1)), .int .i64 (W64 ((W64 (i1 + 1)) + 1)), .int .i64 (W64 ((W64 ((W64 (i1 + 1)) + 1)) + 1)), .slice p2 y1.Delay.length k2, .slice p3 y1.Slew.length k3] :: F) := h
    refine r_nil (r_seq (r_region (rp rfl rfl (rp rfl rfl (rp rfl rfl (r_nil (r_seq (r_region (rp rfl rfl (rp rfl rfl ?_))))))))))
    obtain ⟨b5, hp5, -, -, hl10⟩ := h.holeAt 2 rfl
    obtain ⟨q5, hq5⟩ : ∃ q, q = 0 + (i2).toNat * GoT.k TArc := ⟨_, rfl⟩
    refine r_v (v_ix tabOk hp5 hq5 ⟨he1.1, lt_ln he1.2.1 hl10⟩ rfl rfl rfl rfl rfl rfl) rfl (rp rfl rfl (r_v (v_ld tabOk (hole_cells h 2 rfl hp5 hq5) (j := 4) rfl rfl rfl) rfl (rp rfl rfl ?_)))
    replace h := h.pickT 3 [1, 0, 2] rfl
    obtain ⟨o2, hr1, hF⟩ := bindS hF
    obtain ⟨r1, x2⟩ := o2
    refine r_callN r1 call172 (laws_markTableS_okm h hr1) rfl rfl rfl rfl ?_
    rintro w6 ⟨S7, h⟩
    refine rp rfl rfl (r_nil (r_region (rp rfl rfl (rp rfl rfl ?_))))
    obtain ⟨b6, hp6, -, -, hl12⟩ := h.holeAt 2 rfl
    obtain ⟨q6, hq6⟩ : ∃ q, q = 0 + (i2).toNat * GoT.k TArc := ⟨_, rfl⟩
    refine r_v (v_ix tabOk hp6 hq6 ⟨he1.1, lt_ln he1.2.1 hl12⟩ rfl rfl rfl rfl rfl rfl) rfl (rp rfl rfl (r_v (v_ld tabOk (hole_cells h 2 rfl hp6 hq6) (j := 5) rfl rfl rfl) rfl (rp rfl rfl ?_)))
    replace h := h.pickT 3 [1, 0, 2] rfl
    obtain ⟨o3, hr2, hF⟩ := bindS hF
    obtain ⟨r2, x3⟩ := o3
    refine r_callN r2 call172 (laws_markTableS_okm h hr2) rfl rfl rfl rfl ?_
    rintro w7 ⟨S8, h⟩
    refine rp rfl rfl (r_nil (r_blk (r_region (rp rfl rfl (rp rfl rfl (rp rfl rfl (r_nil ?_)))))))
    obtain ⟨S9, h⟩ := h.gatherT 3 [2] (po_TArc (⟨i1, W64 (i1 + 1), W64 ((W64 (i1 + 1)) + 1), W64 ((W64 ((W64 (i1 + 1)) + 1)) + 1), x2, x3⟩ : TArc) h (po_flat (S := fun _ => False) rfl) (po_flat (S := fun _ => False) rfl) (po_flat (S := fun _ => False) rfl) (po_flat (S := fun _ => False) rfl) (po_own 1 h rfl) (po_own 0 h rfl) (by rfl) (by rfl) (by rfl) (by rfl) (by rfl)) rfl
    replace h := h.put
    obtain ⟨S10, h⟩ := sh_any (S := _) h
    exact r_back m1 [(0, _), (1, _), (5, _)] (Nat.lt_succ_self m1) ⟨rfl, rfl, rfl, trivial⟩ ⟨_, _, _, _, hF, rfl, h⟩
  refine r_exit rfl ?_
  obtain rfl := someI hF; replace hF := hK1
  refine r_seq (r_region (rp rfl rfl (rp rfl rfl (r_nil ?_))))
  obtain rfl := someI hF
  exact r_retN tabOk ⟨_, h⟩ ⟨rfl, trivial⟩

def laws_markCellS_L1 (a : (List TCell)) : Nat → (List TCell) → Int → Int → Option ((List TCell) × Int × Int)
  | 0, _, _, _ => none
  | n + 1, x1, i1, i2 =>
    bif decide (i2 < (a.length : Int)) then
      (laws_markText n i1).bind fun r1 =>
      (idx x1 i2).bind fun y1 =>
      (laws_markPinS n y1.Pins (W64 ((W64 (i1 + 1)) + 1))).bind fun o => match o with
        | (r2, x2) =>
          (laws_markArcS n y1.Arcs r2).bind fun o => match o with
            | (r3, x3) =>
              (laws_markInt64S n y1.Truth r3).bind fun o => match o with
                | (r4, x4) =>
                  laws_markCellS_L1 a n (setS x1 i2 (⟨r1, W64 (i1 + 1), x2, x3, x4, r4, W64 (r4 + 1)⟩ : TCell)) (W64 ((W64 (r4 + 1)) + 1)) (W64 (i2 + 1))
    else
      some (x1, i1, i2)

def laws_markCellS (n : Nat) (a : (List TCell)) (k : Int) : Option (Int × (List TCell)) :=
  (laws_markCellS_L1 a n a k 0).bind fun o => match o with
  | (x1, i1, _) =>
    some (i1, x1)

theorem laws_markCellS_okm {n : Nat} {w0 w : World} {F : List Ch} {a : (List TCell)} {k : Int} {S1 : Nat → Prop} {p1 : Option Addr} {ln1 k1 : Nat} (h : SH w0 w (Ch.own S1 (a : List TCell) [.slice p1 ln1 k1] :: F)) {r : (Int × (List TCell))} (hF : laws_markCellS n a k = some r) : RetN Tryz.prog 109 [.slice p1 ln1 k1, .int .i64 k] w (fun w' => ∃ Z0 : Nat → Prop, SH w0 w' (Ch.own Z0 (r.2 : List TCell) [.slice p1 ln1 k1] :: F)) r.1 := by
  refine retN_of_run Tryz.func109 rfl (m := 63) rfl rfl ?_
  rw [laws_markCellS] at hF
  obtain rfl := (h.sl 0 rfl).2
  refine r_seq (r_region (rp rfl rfl (r_nil (r_seq (r_seq (r_region (rp rfl rfl (r_nil ?_))))))))
  obtain ⟨o1, hF, hK1⟩ := bindS hF
  refine r_block (r_sub [(0, _), (1, _), (5, _)] ⟨rfl, rfl, rfl, trivial⟩ ?_)
  refine r_loop (fun m e w' => ∃ (S2 : Nat → Prop) (x1 : (List TCell)) (i1 : Int) (i2 : Int), laws_markCellS_L1 a m x1 i1 i2 = some o1 ∧ e = [(0, .slice p1 a.length k1), (1, .int .i64 i1), (5, .int .i64 i2)] ∧ SH w0 w' (Ch.own S2 (x1 : List TCell) [.slice p1 a.length k1] :: F)) n ⟨_, _, _, _, hF, rfl, h⟩ ?_
  rintro m1 e1 w1 ⟨S2, x1, i1, i2, hF, rfl, h⟩
  rcases m1 with _ | m1
  · rw [laws_markCellS_L1] at hF
    cases hF
  rw [laws_markCellS_L1] at hF
  refine r_seq (r_seq (r_region (rp rfl rfl (rp rfl rfl (rp rfl rfl (rp rfl rfl (r_nil ?_)))))))
  refine r_if rfl hF (fun hF => ?_) (fun hF => ?_)
  · refine r_skip (r_seq (r_block (r_seq (r_region (rp rfl rfl (rp rfl rfl (rp rfl rfl ?_)))))))
    obtain ⟨r1, hr1, hF⟩ := bindS hF
    refine r_callS r1 h call151 (laws_markText_ok hr1) rfl rfl rfl rfl ?_
    intro w2 h
    obtain ⟨y1, hy1, hF⟩ := bindS hF
    have he1 := idx_some hy1
    obtain ⟨S3, S4, cs1, h⟩ := h.take hy1
    obtain ⟨p2, k2, p3, k3, p4, k4, rfl, -, -, -⟩ := open_TCell (h.own 0 rfl)
    obtain ⟨S5, S6, S7, h⟩ := split_TCell h
    obtain ⟨b1, hp1, -, -, hl2⟩ := h.holeAt 3 rfl
    obtain ⟨q1, hq1⟩ : ∃ q, q = 0 + (i2).toNat * GoT.k TCell := ⟨_, rfl⟩
    refine r_v (v_ix tabOk hp1 hq1 ⟨he1.1, lt_ln he1.2.1 hl2⟩ rfl rfl rfl rfl rfl rfl) rfl (rp rfl rfl (r_sthole tabOk 3 0 h rfl hp1 hq1 rfl rfl rfl rfl rfl rfl ?_))
    intro w3 h
    refine r_nil (r_seq (r_region (rp rfl rfl (rp rfl rfl (rp rfl rfl (r_nil (r_seq (r_region (rp rfl rfl (rp rfl rfl (rp rfl rfl ?_)))))))))))
    obtain ⟨b2, hp2, -, -, hl4⟩ := h.holeAt 3 rfl
    obtain ⟨q2, hq2⟩ : ∃ q, q = 0 + (i2).toNat * GoT.k TCell := ⟨_, rfl⟩
    refine r_v (v_ix tabOk hp2 hq2 ⟨he1.1, lt_ln he1.2.1 hl4⟩ rfl rfl rfl rfl rfl rfl) rfl (rp rfl rfl (r_sthole tabOk 3 1 h rfl hp2 hq2 rfl rfl rfl rfl rfl rfl ?_))
    intro w4 h
    replace h : SH _ _ (Ch.own S7 (y1.Truth : List Int) [.slice p4 y1.Truth.length k4] :: Ch.own S6 (y1.Arcs : List TArc) [.slice p3 y1.Arcs.length k3] :: Ch.own S5 (y1.Pins : List TPin) [.slice p2 y1.Pins.length k2] :: Ch.hole S4 (x1 : List TCell) p1 a.length k1 (i2).toNat [.string r1, .int .i64 (W64 (i1 + 1)), .slice p2 y1.Pins.length k2, .slice p3 y1.Arcs.length k3, .slice p4 y1.Truth.length k4, .int .i64 y1.Leak, .int .i64 y1.Energy] :: F) := h
    refine r_nil (r_seq (r_region (rp rfl rfl (rp rfl rfl (rp rfl rfl (r_nil (r_seq (r_region (rp rfl rfl (rp rfl rfl ?_))))))))))
    obtain ⟨b3, hp3, -, -, hl6⟩ := h.holeAt 3 rfl
    obtain ⟨q3, hq3⟩ : ∃ q, q = 0 + (i2).toNat * GoT.k TCell := ⟨_, rfl⟩
    refine r_v (v_ix tabOk hp3 hq3 ⟨he1.1, lt_ln he1.2.1 hl6⟩ rfl rfl rfl rfl rfl rfl) rfl (rp rfl rfl (r_v (v_ld tabOk (hole_cells h 3 rfl hp3 hq3) (j := 2) rfl rfl rfl) rfl (rp rfl rfl ?_)))
    replace h := h.pickT 4 [2, 0, 1, 3] rfl
    obtain ⟨o2, hr2, hF⟩ := bindS hF
    obtain ⟨r2, x2⟩ := o2
    refine r_callN r2 call152 (laws_markPinS_okm h hr2) rfl rfl rfl rfl ?_
    rintro w5 ⟨S8, h⟩
    refine rp rfl rfl (r_nil (r_seq (r_region (rp rfl rfl (rp rfl rfl ?_)))))
    obtain ⟨b4, hp4, -, -, hl8⟩ := h.holeAt 3 rfl
    obtain ⟨q4, hq4⟩ : ∃ q, q = 0 + (i2).toNat * GoT.k TCell := ⟨_, rfl⟩
    refine r_v (v_ix tabOk hp4 hq4 ⟨he1.1, lt_ln he1.2.1 hl8⟩ rfl rfl rfl rfl rfl rfl) rfl (rp rfl rfl (r_v (v_ld tabOk (hole_cells h 3 rfl hp4 hq4) (j := 3) rfl rfl rfl) rfl (rp rfl rfl ?_)))
    replace h := h.pickT 4 [2, 0, 1, 3] rfl
    obtain ⟨o3, hr3, hF⟩ := bindS hF
    obtain ⟨r3, x3⟩ := o3
    refine r_callN r3 call153 (laws_markArcS_okm h hr3) rfl rfl rfl rfl ?_
    rintro w6 ⟨S9, h⟩
    refine rp rfl rfl (r_nil (r_seq (r_region (rp rfl rfl (rp rfl rfl ?_)))))
    obtain ⟨b5, hp5, -, -, hl10⟩ := h.holeAt 3 rfl
    obtain ⟨q5, hq5⟩ : ∃ q, q = 0 + (i2).toNat * GoT.k TCell := ⟨_, rfl⟩
    refine r_v (v_ix tabOk hp5 hq5 ⟨he1.1, lt_ln he1.2.1 hl10⟩ rfl rfl rfl rfl rfl rfl) rfl (rp rfl rfl (r_v (v_ld tabOk (hole_cells h 3 rfl hp5 hq5) (j := 4) rfl rfl rfl) rfl (rp rfl rfl ?_)))
    replace h := h.pickT 4 [2, 0, 1, 3] rfl
    obtain ⟨o4, hr4, hF⟩ := bindS hF
    obtain ⟨r4, x4⟩ := o4
    refine r_callN r4 call25 (laws_markInt64S_okm h hr4) rfl rfl rfl rfl ?_
    rintro w7 ⟨S10, h⟩
    refine rp rfl rfl (r_nil (r_seq (r_region (rp rfl rfl (rp rfl rfl (rp rfl rfl ?_))))))
    obtain ⟨b6, hp6, -, -, hl12⟩ := h.holeAt 3 rfl
    obtain ⟨q6, hq6⟩ : ∃ q, q = 0 + (i2).toNat * GoT.k TCell := ⟨_, rfl⟩
    refine r_v (v_ix tabOk hp6 hq6 ⟨he1.1, lt_ln he1.2.1 hl12⟩ rfl rfl rfl rfl rfl rfl) rfl (rp rfl rfl (r_sthole tabOk 3 5 h rfl hp6 hq6 rfl rfl rfl rfl rfl rfl ?_))
    intro w8 h
    refine r_nil (r_seq (r_region (rp rfl rfl (rp rfl rfl (rp rfl rfl (r_nil (r_seq (r_region (rp rfl rfl (rp rfl rfl (rp rfl rfl ?_)))))))))))
    obtain ⟨b7, hp7, -, -, hl14⟩ := h.holeAt 3 rfl
    obtain ⟨q7, hq7⟩ : ∃ q, q = 0 + (i2).toNat * GoT.k TCell := ⟨_, rfl⟩
    refine r_v (v_ix tabOk hp7 hq7 ⟨he1.1, lt_ln he1.2.1 hl14⟩ rfl rfl rfl rfl rfl rfl) rfl (rp rfl rfl (r_sthole tabOk 3 6 h rfl hp7 hq7 rfl rfl rfl rfl rfl rfl ?_))
    intro w9 h
    replace h : SH _ _ (Ch.own S10 (x4 : List Int) [.slice p4 y1.Truth.length k4] :: Ch.own S9 (x3 : List TArc) [.slice p3 y1.Arcs.length k3] :: Ch.own S8 (x2 : List TPin) [.slice p2 y1.Pins.length k2] :: Ch.hole S4 (x1 : List TCell) p1 a.length k1 (i2).toNat [.string r1, .int .i64 (W64 (i1 + 1)), .slice p2 y1.Pins.length k2, .slice p3 y1.Arcs.length k3, .slice p4 y1.Truth.length k4, .int .i64 r4, .int .i64 (W64 (r4 + 1))] :: F) := h
    refine r_nil (r_region (rp rfl rfl (rp rfl rfl (rp rfl rfl (r_nil (r_blk (r_region (rp rfl rfl (rp rfl rfl (rp rfl rfl (r_nil ?_)))))))))))
    obtain ⟨S11, h⟩ := h.gatherT 4 [3] (po_TCell (⟨r1, W64 (i1 + 1), x2, x3, x4, r4, W64 (r4 + 1)⟩ : TCell) h (po_flat (S := fun _ => False) rfl) (po_flat (S := fun _ => False) rfl) (po_own 2 h rfl) (po_own 1 h rfl) (po_own 0 h rfl) (po_flat (S := fun _ => False) rfl) (po_flat (S := fun _ => False) rfl) (by rfl) (by rfl) (by rfl) (by rfl) (by rfl) (by rfl)) rfl
    replace h := h.put
    obtain ⟨S12, h⟩ := sh_any (S := _) h
    exact r_back m1 [(0, _), (1, _), (5, _)] (Nat.lt_succ_self m1) ⟨rfl, rfl, rfl, trivial⟩ ⟨_, _, _, _, hF, rfl, h⟩
  refine r_exit rfl ?_
  obtain rfl := someI hF; replace hF := hK1
  refine r_seq (r_region (rp rfl rfl (rp rfl rfl (r_nil ?_))))
  obtain rfl := someI hF
  exact r_retN tabOk ⟨_, h⟩ ⟨rfl, trivial⟩

def laws_markLibrary (n : Nat) (a : TLibrary) (k : Int) : Option (Int × (List TCell)) :=
  (laws_markCellS n a.Cells k).bind fun o => match o with
    | (r1, x1) =>
      some (r1, x1)

theorem laws_markLibrary_okm {n : Nat} {w0 w : World} {F : List Ch} {a : TLibrary} {k : Int} {S1 : Nat → Prop} {p1 : Option Addr} {ln1 k1 : Nat} (h : SH w0 w (Ch.own S1 (a.Cells : List TCell) [.slice p1 ln1 k1] :: F)) {r : (Int × (List TCell))} (hF : laws_markLibrary n a k = some r) : RetN Tryz.prog 59 [.agg #[.slice p1 ln1 k1], .int .i64 k] w (fun w' => ∃ Z0 : Nat → Prop, SH w0 w' (Ch.own Z0 (r.2 : List TCell) [.slice p1 ln1 k1] :: F)) r.1 := by
  refine retN_of_run Tryz.func59 rfl (m := 10) rfl rfl ?_
  rw [laws_markLibrary] at hF
  obtain rfl := (h.sl 0 rfl).2
  refine r_seq (r_region (r_box h rfl rfl ?_))
  intro w1 bb1 h
  refine rp rfl rfl (r_nil (r_seq (r_region (rp rfl rfl (r_v (v_ld tabOk (h.box 0 rfl) (j := 0) rfl rfl rfl) rfl (rp rfl rfl ?_))))))
  replace h := h.pickT 2 [1, 0] rfl
  obtain ⟨o1, hr1, hF⟩ := bindS hF
  obtain ⟨r1, x1⟩ := o1
  refine r_callN r1 call109 (laws_markCellS_okm h hr1) rfl rfl rfl rfl ?_
  rintro w2 ⟨S2, h⟩
  refine rp rfl rfl (r_nil (r_seq (r_region (rp rfl rfl (rp rfl rfl (r_nil ?_))))))
  obtain rfl := someI hF
  replace h := h.pickT 2 [0] rfl
  exact r_retN tabOk ⟨_, h⟩ ⟨rfl, trivial⟩

def laws_markInstanceS_L1 (a : (List TInstance)) : Nat → (List TInstance) → Int → Int → Option ((List TInstance) × Int × Int)
  | 0, _, _, _ => none
  | n + 1, x1, i1, i2 =>
    bif decide (i2 < (a.length : Int)) then
      (laws_markText n i1).bind fun r1 =>
      (idx x1 i2).bind fun y1 =>
      (laws_markInt64S n y1.Nets (W64 ((W64 (i1 + 1)) + 1))).bind fun o => match o with
        | (r2, x2) =>
          laws_markInstanceS_L1 a n (setS x1 i2 (⟨r1, W64 (i1 + 1), x2⟩ : TInstance)) r2 (W64 (i2 + 1))
    else
      some (x1, i1, i2)

def laws_markInstanceS (n : Nat) (a : (List TInstance)) (k : Int) : Option (Int × (List TInstance)) :=
  (laws_markInstanceS_L1 a n a k 0).bind fun o => match o with
  | (x1, i1, _) =>
    some (i1, x1)

theorem laws_markInstanceS_okm {n : Nat} {w0 w : World} {F : List Ch} {a : (List TInstance)} {k : Int} {S1 : Nat → Prop} {p1 : Option Addr} {ln1 k1 : Nat} (h : SH w0 w (Ch.own S1 (a : List TInstance) [.slice p1 ln1 k1] :: F)) {r : (Int × (List TInstance))} (hF : laws_markInstanceS n a k = some r) : RetN Tryz.prog 110 [.slice p1 ln1 k1, .int .i64 k] w (fun w' => ∃ Z0 : Nat → Prop, SH w0 w' (Ch.own Z0 (r.2 : List TInstance) [.slice p1 ln1 k1] :: F)) r.1 := by
  refine retN_of_run Tryz.func110 rfl (m := 35) rfl rfl ?_
  rw [laws_markInstanceS] at hF
  obtain rfl := (h.sl 0 rfl).2
  refine r_seq (r_region (rp rfl rfl (r_nil (r_seq (r_seq (r_region (rp rfl rfl (r_nil ?_))))))))
  obtain ⟨o1, hF, hK1⟩ := bindS hF
  refine r_block (r_sub [(0, _), (1, _), (5, _)] ⟨rfl, rfl, rfl, trivial⟩ ?_)
  refine r_loop (fun m e w' => ∃ (S2 : Nat → Prop) (x1 : (List TInstance)) (i1 : Int) (i2 : Int), laws_markInstanceS_L1 a m x1 i1 i2 = some o1 ∧ e = [(0, .slice p1 a.length k1), (1, .int .i64 i1), (5, .int .i64 i2)] ∧ SH w0 w' (Ch.own S2 (x1 : List TInstance) [.slice p1 a.length k1] :: F)) n ⟨_, _, _, _, hF, rfl, h⟩ ?_
  rintro m1 e1 w1 ⟨S2, x1, i1, i2, hF, rfl, h⟩
  rcases m1 with _ | m1
  · rw [laws_markInstanceS_L1] at hF
    cases hF
  rw [laws_markInstanceS_L1] at hF
  refine r_seq (r_seq (r_region (rp rfl rfl (rp rfl rfl (rp rfl rfl (rp rfl rfl (r_nil ?_)))))))
  refine r_if rfl hF (fun hF => ?_) (fun hF => ?_)
  · refine r_skip (r_seq (r_block (r_seq (r_region (rp rfl rfl (rp rfl rfl (rp rfl rfl ?_)))))))
    obtain ⟨r1, hr1, hF⟩ := bindS hF
    refine r_callS r1 h call151 (laws_markText_ok hr1) rfl rfl rfl rfl ?_
    intro w2 h
    obtain ⟨y1, hy1, hF⟩ := bindS hF
    have he1 := idx_some hy1
    obtain ⟨S3, S4, cs1, h⟩ := h.take hy1
    obtain ⟨p2, k2, rfl, -⟩ := open_TInstance (h.own 0 rfl)
    obtain ⟨S5, h⟩ := split_TInstance h
    obtain ⟨b1, hp1, -, -, hl2⟩ := h.holeAt 1 rfl
    obtain ⟨q1, hq1⟩ : ∃ q, q = 0 + (i2).toNat * GoT.k TInstance := ⟨_, rfl⟩
    refine r_v (v_ix tabOk hp1 hq1 ⟨he1.1, lt_ln he1.2.1 hl2⟩ rfl rfl rfl rfl rfl rfl) rfl (rp rfl rfl (r_sthole tabOk 1 0 h rfl hp1 hq1 rfl rfl rfl rfl rfl rfl ?_))
    intro w3 h
    refine r_nil (r_seq (r_region (rp rfl rfl (rp rfl rfl (rp rfl rfl (r_nil (r_seq (r_region (rp rfl rfl (rp rfl rfl (rp rfl rfl ?_)))))))))))
    obtain ⟨b2, hp2, -, -, hl4⟩ := h.holeAt 1 rfl
    obtain ⟨q2, hq2⟩ : ∃ q, q = 0 + (i2).toNat * GoT.k TInstance := ⟨_, rfl⟩
    refine r_v (v_ix tabOk hp2 hq2 ⟨he1.1, lt_ln he1.2.1 hl4⟩ rfl rfl rfl rfl rfl rfl) rfl (rp rfl rfl (r_sthole tabOk 1 1 h rfl hp2 hq2 rfl rfl rfl rfl rfl rfl ?_))
    intro w4 h
    replace h : SH _ _ (Ch.own S5 (y1.Nets : List Int) [.slice p2 y1.Nets.length k2] :: Ch.hole S4 (x1 : List TInstance) p1 a.length k1 (i2).toNat [.string r1, .int .i64 (W64 (i1 + 1)), .slice p2 y1.Nets.length k2] :: F) := h
    refine r_nil (r_seq (r_region (rp rfl rfl (rp rfl rfl (rp rfl rfl (r_nil (r_region (rp rfl rfl (rp rfl rfl ?_)))))))))
    obtain ⟨b3, hp3, -, -, hl6⟩ := h.holeAt 1 rfl
    obtain ⟨q3, hq3⟩ : ∃ q, q = 0 + (i2).toNat * GoT.k TInstance := ⟨_, rfl⟩
    refine r_v (v_ix tabOk hp3 hq3 ⟨he1.1, lt_ln he1.2.1 hl6⟩ rfl rfl rfl rfl rfl rfl) rfl (rp rfl rfl (r_v (v_ld tabOk (hole_cells h 1 rfl hp3 hq3) (j := 2) rfl rfl rfl) rfl (rp rfl rfl ?_)))
    obtain ⟨o2, hr2, hF⟩ := bindS hF
    obtain ⟨r2, x2⟩ := o2
    refine r_callN r2 call25 (laws_markInt64S_okm h hr2) rfl rfl rfl rfl ?_
    rintro w5 ⟨S6, h⟩
    refine rp rfl rfl (r_nil (r_blk (r_region (rp rfl rfl (rp rfl rfl (rp rfl rfl (r_nil ?_)))))))
    obtain ⟨S7, h⟩ := h.gatherT 2 [1] (po_TInstance (⟨r1, W64 (i1 + 1), x2⟩ : TInstance) h (po_flat (S := fun _ => False) rfl) (po_flat (S := fun _ => False) rfl) (po_own 0 h rfl) (by rfl) (by rfl)) rfl
    replace h := h.put
    obtain ⟨S8, h⟩ := sh_any (S := _) h
    exact r_back m1 [(0, _), (1, _), (5, _)] (Nat.lt_succ_self m1) ⟨rfl, rfl, rfl, trivial⟩ ⟨_, _, _, _, hF, rfl, h⟩
  refine r_exit rfl ?_
  obtain rfl := someI hF; replace hF := hK1
  refine r_seq (r_region (rp rfl rfl (rp rfl rfl (r_nil ?_))))
  obtain rfl := someI hF
  exact r_retN tabOk ⟨_, h⟩ ⟨rfl, trivial⟩

def laws_markStringS_L1 (a : (List ByteArray)) : Nat → (List ByteArray) → Int → Int → Option ((List ByteArray) × Int × Int)
  | 0, _, _, _ => none
  | n + 1, x1, i1, i2 =>
    bif decide (i2 < (a.length : Int)) then
      (laws_markText n i1).bind fun r1 =>
      (idx x1 i2).bind fun _ =>
      laws_markStringS_L1 a n (setS x1 i2 r1) (W64 (i1 + 1)) (W64 (i2 + 1))
    else
      some (x1, i1, i2)

def laws_markStringS (n : Nat) (a : (List ByteArray)) (k : Int) : Option (Int × (List ByteArray)) :=
  (laws_markStringS_L1 a n a k 0).bind fun o => match o with
  | (x1, i1, _) =>
    some (i1, x1)

theorem laws_markStringS_okm {n : Nat} {w0 w : World} {F : List Ch} {a : (List ByteArray)} {k : Int} {S1 : Nat → Prop} {p1 : Option Addr} {ln1 k1 : Nat} (h : SH w0 w (Ch.own S1 (a : List ByteArray) [.slice p1 ln1 k1] :: F)) {r : (Int × (List ByteArray))} (hF : laws_markStringS n a k = some r) : RetN Tryz.prog 111 [.slice p1 ln1 k1, .int .i64 k] w (fun w' => ∃ Z0 : Nat → Prop, SH w0 w' (Ch.own Z0 (r.2 : List ByteArray) [.slice p1 ln1 k1] :: F)) r.1 := by
  refine retN_of_run Tryz.func111 rfl (m := 20) rfl rfl ?_
  rw [laws_markStringS] at hF
  obtain rfl := (h.sl 0 rfl).2
  refine r_seq (r_region (rp rfl rfl (r_nil (r_seq (r_seq (r_region (rp rfl rfl (r_nil ?_))))))))
  obtain ⟨o1, hF, hK1⟩ := bindS hF
  refine r_block (r_sub [(0, _), (1, _), (5, _)] ⟨rfl, rfl, rfl, trivial⟩ ?_)
  refine r_loop (fun m e w' => ∃ (x1 : (List ByteArray)) (i1 : Int) (i2 : Int), laws_markStringS_L1 a m x1 i1 i2 = some o1 ∧ e = [(0, .slice p1 a.length k1), (1, .int .i64 i1), (5, .int .i64 i2)] ∧ SH w0 w' (Ch.own S1 (x1 : List ByteArray) [.slice p1 a.length k1] :: F)) n ⟨_, _, _, hF, rfl, h⟩ ?_
  rintro m1 e1 w1 ⟨x1, i1, i2, hF, rfl, h⟩
  rcases m1 with _ | m1
  · rw [laws_markStringS_L1] at hF
    cases hF
  rw [laws_markStringS_L1] at hF
  refine r_seq (r_seq (r_region (rp rfl rfl (rp rfl rfl (rp rfl rfl (rp rfl rfl (r_nil ?_)))))))
  refine r_if rfl hF (fun hF => ?_) (fun hF => ?_)
  · refine r_skip (r_seq (r_block (r_seq (r_region (rp rfl rfl (rp rfl rfl (rp rfl rfl ?_)))))))
    obtain ⟨r1, hr1, hF⟩ := bindS hF
    refine r_callS r1 h call151 (laws_markText_ok hr1) rfl rfl rfl rfl ?_
    intro w2 h
    obtain ⟨y1, hy1, hF⟩ := bindS hF
    have he1 := idx_some hy1
    obtain ⟨b1, o_1, q1, cs1, hp1, hq1, -, hr2, hc2⟩ := (h.sl 0 rfl).1.at hy1
    obtain rfl := hr2
    refine r_v (v_ix tabOk hp1 hq1 ⟨he1.1, lt_ln he1.2.1 (h.sl 0 rfl).2⟩ rfl rfl rfl rfl rfl rfl) rfl (r_stown tabOk 0 0 r1 h rfl hy1 hp1 hq1 rfl hc2 rfl rfl rfl rfl rfl rfl rfl ?_)
    intro w3 h
    refine r_nil (r_region (rp rfl rfl (rp rfl rfl (rp rfl rfl (r_nil (r_blk (r_region (rp rfl rfl (rp rfl rfl (rp rfl rfl (r_nil ?_)))))))))))
    exact r_back m1 [(0, _), (1, _), (5, _)] (Nat.lt_succ_self m1) ⟨rfl, rfl, rfl, trivial⟩ ⟨_, _, _, hF, rfl, h⟩
  refine r_exit rfl ?_
  obtain rfl := someI hF; replace hF := hK1
  refine r_seq (r_region (rp rfl rfl (rp rfl rfl (r_nil ?_))))
  obtain rfl := someI hF
  exact r_retN tabOk ⟨_, h⟩ ⟨rfl, trivial⟩

def laws_markPortS_L1 (a : (List TPort)) : Nat → (List TPort) → Int → Int → Option ((List TPort) × Int × Int)
  | 0, _, _, _ => none
  | n + 1, x1, i1, i2 =>
    bif decide (i2 < (a.length : Int)) then
      (laws_markText n i1).bind fun r1 =>
      (idx x1 i2).bind fun y1 =>
      (idx (setS x1 i2 ({ y1 with Name := r1 })) i2).bind fun y2 =>
      (idx (setS (setS x1 i2 ({ y1 with Name := r1 })) i2 ({ y2 with Dir := W64 (i1 + 1) })) i2).bind fun y3 =>
      laws_markPortS_L1 a n (setS (setS (setS x1 i2 ({ y1 with Name := r1 })) i2 ({ y2 with Dir := W64 (i1 + 1) })) i2 ({ y3 with Net := W64 ((W64 (i1 + 1)) + 1) })) (W64 ((W64 ((W64 (i1 + 1)) + 1)) + 1)) (W64 (i2 + 1))
    else
      some (x1, i1, i2)

def laws_markPortS (n : Nat) (a : (List TPort)) (k : Int) : Option (Int × (List TPort)) :=
  (laws_markPortS_L1 a n a k 0).bind fun o => match o with
  | (x1, i1, _) =>
    some (i1, x1)

theorem laws_markPortS_okm {n : Nat} {w0 w : World} {F : List Ch} {a : (List TPort)} {k : Int} {S1 : Nat → Prop} {p1 : Option Addr} {ln1 k1 : Nat} (h : SH w0 w (Ch.own S1 (a : List TPort) [.slice p1 ln1 k1] :: F)) {r : (Int × (List TPort))} (hF : laws_markPortS n a k = some r) : RetN Tryz.prog 112 [.slice p1 ln1 k1, .int .i64 k] w (fun w' => ∃ Z0 : Nat → Prop, SH w0 w' (Ch.own Z0 (r.2 : List TPort) [.slice p1 ln1 k1] :: F)) r.1 := by
  refine retN_of_run Tryz.func112 rfl (m := 35) rfl rfl ?_
  rw [laws_markPortS] at hF
  obtain rfl := (h.sl 0 rfl).2
  refine r_seq (r_region (rp rfl rfl (r_nil (r_seq (r_seq (r_region (rp rfl rfl (r_nil ?_))))))))
  obtain ⟨o1, hF, hK1⟩ := bindS hF
  refine r_block (r_sub [(0, _), (1, _), (5, _)] ⟨rfl, rfl, rfl, trivial⟩ ?_)
  refine r_loop (fun m e w' => ∃ (x1 : (List TPort)) (i1 : Int) (i2 : Int), laws_markPortS_L1 a m x1 i1 i2 = some o1 ∧ e = [(0, .slice p1 a.length k1), (1, .int .i64 i1), (5, .int .i64 i2)] ∧ SH w0 w' (Ch.own S1 (x1 : List TPort) [.slice p1 a.length k1] :: F)) n ⟨_, _, _, hF, rfl, h⟩ ?_
  rintro m1 e1 w1 ⟨x1, i1, i2, hF, rfl, h⟩
  rcases m1 with _ | m1
  · rw [laws_markPortS_L1] at hF
    cases hF
  rw [laws_markPortS_L1] at hF
  refine r_seq (r_seq (r_region (rp rfl rfl (rp rfl rfl (rp rfl rfl (rp rfl rfl (r_nil ?_)))))))
  refine r_if rfl hF (fun hF => ?_) (fun hF => ?_)
  · refine r_skip (r_seq (r_block (r_seq (r_region (rp rfl rfl (rp rfl rfl (rp rfl rfl ?_)))))))
    obtain ⟨r1, hr1, hF⟩ := bindS hF
    refine r_callS r1 h call151 (laws_markText_ok hr1) rfl rfl rfl rfl ?_
    intro w2 h
    obtain ⟨y1, hy1, hF⟩ := bindS hF
    have he1 := idx_some hy1
    obtain ⟨b1, o_1, q1, cs1, hp1, hq1, -, hr2, hc2⟩ := (h.sl 0 rfl).1.at hy1
    obtain rfl := open_TPort hr2
    refine r_v (v_ix tabOk hp1 hq1 ⟨he1.1, lt_ln he1.2.1 (h.sl 0 rfl).2⟩ rfl rfl rfl rfl rfl rfl) rfl (rp rfl rfl (r_stown tabOk 0 0 ({ y1 with Name := r1 }) h rfl hy1 hp1 hq1 (mkR_TPort y1) hc2 rfl rfl rfl (mkR_TPort ({ y1 with Name := r1 })) rfl rfl rfl ?_))
    intro w3 h
    refine r_nil (r_seq (r_region (rp rfl rfl (rp rfl rfl (rp rfl rfl (r_nil (r_seq (r_region (rp rfl rfl (rp rfl rfl (rp rfl rfl ?_)))))))))))
    obtain ⟨y2, hy2, hF⟩ := bindS hF
    have he2 := idx_some hy2
    obtain ⟨b2, o_2, q2, cs2, hp2, hq2, -, hr3, hc3⟩ := (h.sl 0 rfl).1.at hy2
    obtain rfl := open_TPort hr3
    refine r_v (v_ix tabOk hp2 hq2 ⟨he2.1, lt_ln he2.2.1 (h.sl 0 rfl).2⟩ rfl rfl rfl rfl rfl rfl) rfl (rp rfl rfl (r_stown tabOk 0 1 ({ y2 with Dir := W64 (i1 + 1) }) h rfl hy2 hp2 hq2 (mkR_TPort y2) hc3 rfl rfl rfl (mkR_TPort ({ y2 with Dir := W64 (i1 + 1) })) rfl rfl rfl ?_))
    intro w4 h
    refine r_nil (r_seq (r_region (rp rfl rfl (rp rfl rfl (rp rfl rfl (r_nil (r_seq (r_region (rp rfl rfl (rp rfl rfl (rp rfl rfl ?_)))))))))))
    obtain ⟨y3, hy3, hF⟩ := bindS hF
    have he3 := idx_some hy3
    obtain ⟨b3, o_3, q3, cs3, hp3, hq3, -, hr4, hc4⟩ := (h.sl 0 rfl).1.at hy3
    obtain rfl := open_TPort hr4
    refine r_v (v_ix tabOk hp3 hq3 ⟨he3.1, lt_ln he3.2.1 (h.sl 0 rfl).2⟩ rfl rfl rfl rfl rfl rfl) rfl (rp rfl rfl (r_stown tabOk 0 2 ({ y3 with Net := W64 ((W64 (i1 + 1)) + 1) }) h rfl hy3 hp3 hq3 (mkR_TPort y3) hc4 rfl rfl rfl (mkR_TPort ({ y3 with Net := W64 ((W64 (i1 + 1)) + 1) })) rfl rfl rfl ?_))
    intro w5 h
    refine r_nil (r_region (rp rfl rfl (rp rfl rfl (rp rfl rfl (r_nil (r_blk (r_region (rp rfl rfl (rp rfl rfl (rp rfl rfl (r_nil ?_)))))))))))
    exact r_back m1 [(0, _), (1, _), (5, _)] (Nat.lt_succ_self m1) ⟨rfl, rfl, rfl, trivial⟩ ⟨_, _, _, hF, rfl, h⟩
  refine r_exit rfl ?_
  obtain rfl := someI hF; replace hF := hK1
  refine r_seq (r_region (rp rfl rfl (rp rfl rfl (r_nil ?_))))
  obtain rfl := someI hF
  exact r_retN tabOk ⟨_, h⟩ ⟨rfl, trivial⟩

def laws_markDesign (n : Nat) (a : TDesign) (k : Int) : Option (Int × (List TInstance) × (List ByteArray) × (List TPort)) :=
  (laws_markInstanceS n a.Instances k).bind fun o => match o with
    | (r1, x1) =>
      (laws_markStringS n a.Nets r1).bind fun o => match o with
        | (r2, x2) =>
          (laws_markPortS n a.Ports r2).bind fun o => match o with
            | (r3, x3) =>
              some (r3, x1, x2, x3)

theorem laws_markDesign_okm {n : Nat} {w0 w : World} {F : List Ch} {a : TDesign} {k : Int} {S1 : Nat → Prop} {p1 : Option Addr} {ln1 k1 : Nat} {S2 : Nat → Prop} {p2 : Option Addr} {ln2 k2 : Nat} {S3 : Nat → Prop} {p3 : Option Addr} {ln3 k3 : Nat} (h : SH w0 w (Ch.own S3 (a.Ports : List TPort) [.slice p3 ln3 k3] :: Ch.own S2 (a.Nets : List ByteArray) [.slice p2 ln2 k2] :: Ch.own S1 (a.Instances : List TInstance) [.slice p1 ln1 k1] :: F)) {r : (Int × (List TInstance) × (List ByteArray) × (List TPort))} (hF : laws_markDesign n a k = some r) : RetN Tryz.prog 60 [.agg #[.slice p1 ln1 k1, .slice p2 ln2 k2, .slice p3 ln3 k3], .int .i64 k] w (fun w' => ∃ Z0 Z1 Z2 : Nat → Prop, SH w0 w' (Ch.own Z2 (r.2.2.2 : List TPort) [.slice p3 ln3 k3] :: Ch.own Z1 (r.2.2.1 : List ByteArray) [.slice p2 ln2 k2] :: Ch.own Z0 (r.2.1 : List TInstance) [.slice p1 ln1 k1] :: F)) r.1 := by
  refine retN_of_run Tryz.func60 rfl (m := 18) rfl rfl ?_
  rw [laws_markDesign] at hF
  obtain rfl := (h.sl 0 rfl).2
  obtain rfl := (h.sl 1 rfl).2
  obtain rfl := (h.sl 2 rfl).2
  refine r_seq (r_region (r_box h rfl rfl ?_))
  intro w1 bb1 h
  refine rp rfl rfl (r_nil (r_seq (r_region (rp rfl rfl (r_v (v_ld tabOk (h.box 0 rfl) (j := 0) rfl rfl rfl) rfl (rp rfl rfl ?_))))))
  replace h := h.pickT 4 [3, 0, 1, 2] rfl
  obtain ⟨o1, hr1, hF⟩ := bindS hF
  obtain ⟨r1, x1⟩ := o1
  refine r_callN r1 call110 (laws_markInstanceS_okm h hr1) rfl rfl rfl rfl ?_
  rintro w2 ⟨S4, h⟩
  refine rp rfl rfl (r_nil (r_seq (r_region (rp rfl rfl (r_v (v_ld tabOk (h.box 1 rfl) (j := 1) rfl rfl rfl) rfl (rp rfl rfl ?_))))))
  replace h := h.pickT 4 [3, 0, 1, 2] rfl
  obtain ⟨o2, hr2, hF⟩ := bindS hF
  obtain ⟨r2, x2⟩ := o2
  refine r_callN r2 call111 (laws_markStringS_okm h hr2) rfl rfl rfl rfl ?_
  rintro w3 ⟨S5, h⟩
  refine rp rfl rfl (r_nil (r_seq (r_region (rp rfl rfl (r_v (v_ld tabOk (h.box 2 rfl) (j := 2) rfl rfl rfl) rfl (rp rfl rfl ?_))))))
  replace h := h.pickT 4 [3, 0, 1, 2] rfl
  obtain ⟨o3, hr3, hF⟩ := bindS hF
  obtain ⟨r3, x3⟩ := o3
  refine r_callN r3 call112 (laws_markPortS_okm h hr3) rfl rfl rfl rfl ?_
  rintro w4 ⟨S6, h⟩
  refine rp rfl rfl (r_nil (r_seq (r_region (rp rfl rfl (rp rfl rfl (r_nil ?_))))))
  obtain rfl := someI hF
  replace h := h.pickT 4 [0, 1, 2] rfl
  exact r_retN tabOk ⟨_, _, _, h⟩ ⟨rfl, trivial⟩

def laws_markWireS_L1 (a : (List TWire)) : Nat → (List TWire) → Int → Int → Option ((List TWire) × Int × Int)
  | 0, _, _, _ => none
  | n + 1, x1, i1, i2 =>
    bif decide (i2 < (a.length : Int)) then
      (idx x1 i2).bind fun y1 =>
      (laws_markInt64S n y1.Parent i1).bind fun o => match o with
        | (r1, x2) =>
          (laws_markInt64S n y1.Res r1).bind fun o => match o with
            | (r2, x3) =>
              (laws_markInt64S n y1.Cap r2).bind fun o => match o with
                | (r3, x4) =>
                  (laws_markInt64S n y1.Sink r3).bind fun o => match o with
                    | (r4, x5) =>
                      laws_markWireS_L1 a n (setS x1 i2 (⟨x2, x3, x4, x5⟩ : TWire)) r4 (W64 (i2 + 1))
    else
      some (x1, i1, i2)

def laws_markWireS (n : Nat) (a : (List TWire)) (k : Int) : Option (Int × (List TWire)) :=
  (laws_markWireS_L1 a n a k 0).bind fun o => match o with
  | (x1, i1, _) =>
    some (i1, x1)

theorem laws_markWireS_okm {n : Nat} {w0 w : World} {F : List Ch} {a : (List TWire)} {k : Int} {S1 : Nat → Prop} {p1 : Option Addr} {ln1 k1 : Nat} (h : SH w0 w (Ch.own S1 (a : List TWire) [.slice p1 ln1 k1] :: F)) {r : (Int × (List TWire))} (hF : laws_markWireS n a k = some r) : RetN Tryz.prog 61 [.slice p1 ln1 k1, .int .i64 k] w (fun w' => ∃ Z0 : Nat → Prop, SH w0 w' (Ch.own Z0 (r.2 : List TWire) [.slice p1 ln1 k1] :: F)) r.1 := by
  refine retN_of_run Tryz.func61 rfl (m := 41) rfl rfl ?_
  rw [laws_markWireS] at hF
  obtain rfl := (h.sl 0 rfl).2
  refine r_seq (r_region (rp rfl rfl (r_nil (r_seq (r_seq (r_region (rp rfl rfl (r_nil ?_))))))))
  obtain ⟨o1, hF, hK1⟩ := bindS hF
  refine r_block (r_sub [(0, _), (1, _), (5, _)] ⟨rfl, rfl, rfl, trivial⟩ ?_)
  refine r_loop (fun m e w' => ∃ (S2 : Nat → Prop) (x1 : (List TWire)) (i1 : Int) (i2 : Int), laws_markWireS_L1 a m x1 i1 i2 = some o1 ∧ e = [(0, .slice p1 a.length k1), (1, .int .i64 i1), (5, .int .i64 i2)] ∧ SH w0 w' (Ch.own S2 (x1 : List TWire) [.slice p1 a.length k1] :: F)) n ⟨_, _, _, _, hF, rfl, h⟩ ?_
  rintro m1 e1 w1 ⟨S2, x1, i1, i2, hF, rfl, h⟩
  rcases m1 with _ | m1
  · rw [laws_markWireS_L1] at hF
    cases hF
  rw [laws_markWireS_L1] at hF
  refine r_seq (r_seq (r_region (rp rfl rfl (rp rfl rfl (rp rfl rfl (rp rfl rfl (r_nil ?_)))))))
  refine r_if rfl hF (fun hF => ?_) (fun hF => ?_)
  · refine r_skip (r_seq (r_block (r_seq (r_region (rp rfl rfl (rp rfl rfl ?_))))))
    obtain ⟨y1, hy1, hF⟩ := bindS hF
    have he1 := idx_some hy1
    obtain ⟨S3, S4, cs1, h⟩ := h.take hy1
    obtain ⟨p2, k2, p3, k3, p4, k4, p5, k5, rfl, -, -, -, -⟩ := open_TWire (h.own 0 rfl)
    obtain ⟨S5, S6, S7, S8, h⟩ := split_TWire h
    obtain ⟨b1, hp1, -, -, hl2⟩ := h.holeAt 4 rfl
    obtain ⟨q1, hq1⟩ : ∃ q, q = 0 + (i2).toNat * GoT.k TWire := ⟨_, rfl⟩
    refine r_v (v_ix tabOk hp1 hq1 ⟨he1.1, lt_ln he1.2.1 hl2⟩ rfl rfl rfl rfl rfl rfl) rfl (rp rfl rfl (r_v (v_ld tabOk (hole_cells h 4 rfl hp1 hq1) (j := 0) rfl rfl rfl) rfl (rp rfl rfl ?_)))
    replace h := h.pickT 5 [3, 0, 1, 2, 4] rfl
    obtain ⟨o2, hr1, hF⟩ := bindS hF
    obtain ⟨r1, x2⟩ := o2
    refine r_callN r1 call25 (laws_markInt64S_okm h hr1) rfl rfl rfl rfl ?_
    rintro w2 ⟨S9, h⟩
    refine rp rfl rfl (r_nil (r_seq (r_region (rp rfl rfl (rp rfl rfl ?_)))))
    obtain ⟨b2, hp2, -, -, hl4⟩ := h.holeAt 4 rfl
    obtain ⟨q2, hq2⟩ : ∃ q, q = 0 + (i2).toNat * GoT.k TWire := ⟨_, rfl⟩
    refine r_v (v_ix tabOk hp2 hq2 ⟨he1.1, lt_ln he1.2.1 hl4⟩ rfl rfl rfl rfl rfl rfl) rfl (rp rfl rfl (r_v (v_ld tabOk (hole_cells h 4 rfl hp2 hq2) (j := 1) rfl rfl rfl) rfl (rp rfl rfl ?_)))
    replace h := h.pickT 5 [3, 0, 1, 2, 4] rfl
    obtain ⟨o3, hr2, hF⟩ := bindS hF
    obtain ⟨r2, x3⟩ := o3
    refine r_callN r2 call25 (laws_markInt64S_okm h hr2) rfl rfl rfl rfl ?_
    rintro w3 ⟨S10, h⟩
    refine rp rfl rfl (r_nil (r_seq (r_region (rp rfl rfl (rp rfl rfl ?_)))))
    obtain ⟨b3, hp3, -, -, hl6⟩ := h.holeAt 4 rfl
    obtain ⟨q3, hq3⟩ : ∃ q, q = 0 + (i2).toNat * GoT.k TWire := ⟨_, rfl⟩
    refine r_v (v_ix tabOk hp3 hq3 ⟨he1.1, lt_ln he1.2.1 hl6⟩ rfl rfl rfl rfl rfl rfl) rfl (rp rfl rfl (r_v (v_ld tabOk (hole_cells h 4 rfl hp3 hq3) (j := 2) rfl rfl rfl) rfl (rp rfl rfl ?_)))
    replace h := h.pickT 5 [3, 0, 1, 2, 4] rfl
    obtain ⟨o4, hr3, hF⟩ := bindS hF
    obtain ⟨r3, x4⟩ := o4
    refine r_callN r3 call25 (laws_markInt64S_okm h hr3) rfl rfl rfl rfl ?_
    rintro w4 ⟨S11, h⟩
    refine rp rfl rfl (r_nil (r_region (rp rfl rfl (rp rfl rfl ?_))))
    obtain ⟨b4, hp4, -, -, hl8⟩ := h.holeAt 4 rfl
    obtain ⟨q4, hq4⟩ : ∃ q, q = 0 + (i2).toNat * GoT.k TWire := ⟨_, rfl⟩
    refine r_v (v_ix tabOk hp4 hq4 ⟨he1.1, lt_ln he1.2.1 hl8⟩ rfl rfl rfl rfl rfl rfl) rfl (rp rfl rfl (r_v (v_ld tabOk (hole_cells h 4 rfl hp4 hq4) (j := 3) rfl rfl rfl) rfl (rp rfl rfl ?_)))
    replace h := h.pickT 5 [3, 0, 1, 2, 4] rfl
    obtain ⟨o5, hr4, hF⟩ := bindS hF
    obtain ⟨r4, x5⟩ := o5
    refine r_callN r4 call25 (laws_markInt64S_okm h hr4) rfl rfl rfl rfl ?_
    rintro w5 ⟨S12, h⟩
    refine rp rfl rfl (r_nil (r_blk (r_region (rp rfl rfl (rp rfl rfl (rp rfl rfl (r_nil ?_)))))))
    obtain ⟨S13, h⟩ := h.gatherT 5 [4] (po_TWire (⟨x2, x3, x4, x5⟩ : TWire) h (po_own 3 h rfl) (po_own 2 h rfl) (po_own 1 h rfl) (po_own 0 h rfl) (by rfl) (by rfl) (by rfl)) rfl
    replace h := h.put
    obtain ⟨S14, h⟩ := sh_any (S := _) h
    exact r_back m1 [(0, _), (1, _), (5, _)] (Nat.lt_succ_self m1) ⟨rfl, rfl, rfl, trivial⟩ ⟨_, _, _, _, hF, rfl, h⟩
  refine r_exit rfl ?_
  obtain rfl := someI hF; replace hF := hK1
  refine r_seq (r_region (rp rfl rfl (rp rfl rfl (r_nil ?_))))
  obtain rfl := someI hF
  exact r_retN tabOk ⟨_, h⟩ ⟨rfl, trivial⟩

def laws_markBlock (n : Nat) (a : TBlock) (k : Int) : Option (Int × (List TCell) × (List TInstance) × (List ByteArray) × (List TPort) × (List TWire)) :=
  (laws_markLibrary n (⟨a.Library.Cells⟩ : TLibrary) k).bind fun o => match o with
    | (r1, x1) =>
      (laws_markDesign n (⟨a.Design.Instances, a.Design.Nets, a.Design.Ports⟩ : TDesign) r1).bind fun o => match o with
        | (r2, x2, x3, x4) =>
          (laws_markWireS n a.Wires r2).bind fun o => match o with
            | (r3, x5) =>
              some (r3, x1, x2, x3, x4, x5)

theorem laws_markBlock_okm {n : Nat} {w0 w : World} {F : List Ch} {a : TBlock} {k : Int} {S1 : Nat → Prop} {p1 : Option Addr} {ln1 k1 : Nat} {S2 : Nat → Prop} {p2 : Option Addr} {ln2 k2 : Nat} {S3 : Nat → Prop} {p3 : Option Addr} {ln3 k3 : Nat} {S4 : Nat → Prop} {p4 : Option Addr} {ln4 k4 : Nat} {S5 : Nat → Prop} {p5 : Option Addr} {ln5 k5 : Nat} (h : SH w0 w (Ch.own S5 (a.Wires : List TWire) [.slice p5 ln5 k5] :: Ch.own S4 (a.Design.Ports : List TPort) [.slice p4 ln4 k4] :: Ch.own S3 (a.Design.Nets : List ByteArray) [.slice p3 ln3 k3] :: Ch.own S2 (a.Design.Instances : List TInstance) [.slice p2 ln2 k2] :: Ch.own S1 (a.Library.Cells : List TCell) [.slice p1 ln1 k1] :: F)) {r : (Int × (List TCell) × (List TInstance) × (List ByteArray) × (List TPort) × (List TWire))} (hF : laws_markBlock n a k = some r) : RetN Tryz.prog 24 [.agg #[.slice p1 ln1 k1, .slice p2 ln2 k2, .slice p3 ln3 k3, .slice p4 ln4 k4, .slice p5 ln5 k5], .int .i64 k] w (fun w' => ∃ Z0 Z1 Z2 Z3 Z4 : Nat → Prop, SH w0 w' (Ch.own Z4 (r.2.2.2.2.2 : List TWire) [.slice p5 ln5 k5] :: Ch.own Z3 (r.2.2.2.2.1 : List TPort) [.slice p4 ln4 k4] :: Ch.own Z2 (r.2.2.2.1 : List ByteArray) [.slice p3 ln3 k3] :: Ch.own Z1 (r.2.2.1 : List TInstance) [.slice p2 ln2 k2] :: Ch.own Z0 (r.2.1 : List TCell) [.slice p1 ln1 k1] :: F)) r.1 := by
  refine retN_of_run Tryz.func24 rfl (m := 18) rfl rfl ?_
  rw [laws_markBlock] at hF
  obtain rfl := (h.sl 0 rfl).2
  obtain rfl := (h.sl 1 rfl).2
  obtain rfl := (h.sl 2 rfl).2
  obtain rfl := (h.sl 3 rfl).2
  obtain rfl := (h.sl 4 rfl).2
  refine r_seq (r_region (r_box h rfl rfl ?_))
  intro w1 bb1 h
  refine rp rfl rfl (r_nil (r_seq (r_region (rp rfl rfl (r_v (v_ld tabOk (h.box 0 rfl) (j := 0) rfl rfl rfl) rfl (rp rfl rfl ?_))))))
  replace h := h.pickT 6 [5, 0, 1, 2, 3, 4] rfl
  obtain ⟨o1, hr1, hF⟩ := bindS hF
  obtain ⟨r1, x1⟩ := o1
  refine r_callN r1 call59 (laws_markLibrary_okm h hr1) rfl rfl rfl rfl ?_
  rintro w2 ⟨S6, h⟩
  refine rp rfl rfl (r_nil (r_seq (r_region (rp rfl rfl (r_v (v_ld tabOk (h.box 1 rfl) (j := 1) rfl rfl rfl) rfl (rp rfl rfl ?_))))))
  replace h := h.pickT 6 [3, 4, 5, 0, 1, 2] rfl
  obtain ⟨o2, hr2, hF⟩ := bindS hF
  obtain ⟨r2, x2, x3, x4⟩ := o2
  refine r_callN r2 call60 (laws_markDesign_okm h hr2) rfl rfl rfl rfl ?_
  rintro w3 ⟨S7, S8, S9, h⟩
  refine rp rfl rfl (r_nil (r_seq (r_region (rp rfl rfl (r_v (v_ld tabOk (h.box 4 rfl) (j := 4) rfl rfl rfl) rfl (rp rfl rfl ?_))))))
  replace h := h.pickT 6 [5, 0, 1, 2, 3, 4] rfl
  obtain ⟨o3, hr3, hF⟩ := bindS hF
  obtain ⟨r3, x5⟩ := o3
  refine r_callN r3 call61 (laws_markWireS_okm h hr3) rfl rfl rfl rfl ?_
  rintro w4 ⟨S10, h⟩
  refine rp rfl rfl (r_nil (r_seq (r_region (rp rfl rfl (rp rfl rfl (r_nil ?_))))))
  obtain rfl := someI hF
  replace h := h.pickT 6 [0, 1, 2, 3, 4] rfl
  exact r_retN tabOk ⟨_, _, _, _, _, h⟩ ⟨rfl, trivial⟩

def laws_heldInt64S_L1 (a : (List Int)) : Nat → Int → Int → Option (Flow Int (Int × Int))
  | 0, _, _ => none
  | n + 1, i1, i2 =>
    bif decide (i2 < (a.length : Int)) then
      (idx a i2).bind fun y1 =>
      bif (y1 != i1) then
        some (.ret (-1))
      else
        laws_heldInt64S_L1 a n (W64 (i1 + 1)) (W64 (i2 + 1))
    else
      some (.nxt (i1, i2))

def laws_heldInt64S (n : Nat) (a : (List Int)) (k : Int) : Option Int :=
  (laws_heldInt64S_L1 a n k 0).bind fun o => match o with
  | .ret r => some r
  | .nxt (i1, _) =>
    some i1

theorem laws_heldInt64S_ok {n : Nat} {w : World} {a : (List Int)} {k : Int} {cs1 : List Value} (ha1 : GoT.R w (old w) a cs1) {r : Int} (hF : laws_heldInt64S n a k = some r) : RetV Tryz.prog 26 [GoT.v (List Int) cs1, .int .i64 k] w r := by
  obtain ⟨p1, k1, rfl, s1⟩ := ha1
  refine retV_of_run Tryz.func26 rfl (m := 21) rfl rfl (fun h => ?_)
  rw [laws_heldInt64S] at hF
  refine r_seq (r_region (rp rfl rfl (r_nil (r_seq (r_seq (r_region (rp rfl rfl (r_nil ?_))))))))
  obtain ⟨o1, hF, hK1⟩ := bindS hF
  refine r_block (r_sub [(0, _), (1, _), (5, _)] ⟨rfl, rfl, rfl, trivial⟩ ?_)
  refine r_loop (fun m e w' => ∃ (i1 : Int) (i2 : Int), laws_heldInt64S_L1 a m i1 i2 = some o1 ∧ e = [(0, .slice p1 a.length k1), (1, .int .i64 i1), (5, .int .i64 i2)] ∧ SH w w' []) n ⟨_, _, hF, rfl, h⟩ ?_
  rintro m1 e1 w1 ⟨i1, i2, hF, rfl, h⟩
  rcases m1 with _ | m1
  · rw [laws_heldInt64S_L1] at hF
    cases hF
  rw [laws_heldInt64S_L1] at hF
  refine r_seq (r_seq (r_region (rp rfl rfl (rp rfl rfl (rp rfl rfl (rp rfl rfl (r_nil ?_)))))))
  refine r_if rfl hF (fun hF => ?_) (fun hF => ?_)
  · refine r_skip (r_seq (r_block (r_seq (r_seq (r_region (rp rfl rfl (rp rfl rfl ?_)))))))
    obtain ⟨y1, hy1, hF⟩ := bindS hF
    have he1 := idx_some hy1
    obtain ⟨b1, o_1, q1, cs2, hp1, hq1, -, hr1, hc2⟩ := s1.at hy1
    obtain rfl := hr1
    refine r_v (v_ix tabOk hp1 hq1 ⟨he1.1, he1.2.1⟩ rfl rfl rfl rfl rfl rfl) rfl (r_v (v_ld tabOk (hc2.below h.below) (j := 0) rfl rfl rfl) rfl (rp rfl rfl (rp rfl rfl (r_nil ?_))))
    refine r_if rfl hF (fun hF => ?_) (fun hF => ?_)
    · refine r_seq (r_region (rp rfl rfl (r_nil ?_)))
      obtain rfl := someI hF; replace hF := hK1
      exact r_rI tabOk h hF ⟨rfl, trivial⟩
    refine r_skip (r_region (rp rfl rfl (rp rfl rfl (rp rfl rfl (r_nil (r_blk (r_region (rp rfl rfl (rp rfl rfl (rp rfl rfl (r_nil ?_)))))))))))
    exact r_back m1 [(0, _), (1, _), (5, _)] (Nat.lt_succ_self m1) ⟨rfl, rfl, rfl, trivial⟩ ⟨_, _, hF, rfl, h⟩
  refine r_exit rfl ?_
  obtain rfl := someI hF; replace hF := hK1
  exact r_seq (r_region (rp rfl rfl (rp rfl rfl (r_nil (r_rI tabOk h hF ⟨rfl, trivial⟩)))))

end Go.Fw
