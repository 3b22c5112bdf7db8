/- By a program of mine (gen.py): for each function a plain function and the proof that the code computes it. -/
import Derived.Test.YtlkocmcfefnolaaFw10
import Derived.Test.YtlkocmcfefnolaaChecked
namespace Go.Fw
open Go Go.Proofs
set_option maxRecDepth 100000
structure TException where
  Kind : Int
  Value : Int
  From : (List Int)
  Through : (List Int)
  To : (List Int)
instance gt_TException : GoT TException := isoT (pairT instInt (pairT instInt (pairT (@instList Int instInt) (pairT (@instList Int instInt) (@instList Int instInt))))) (fun x => (x.Kind, x.Value, x.From, x.Through, x.To)) ⟨0, 0, [], [], []⟩ rfl true (fun h => by cases h)
theorem open_TException {w : World} {S : Nat → Prop} {x : TException} {cs : List Value} (h : GoT.R w S x cs) : ∃ p0 k0 p1 k1 p2 k2, cs = [.int .i64 x.Kind, .int .i64 x.Value, .slice p0 (x.From).length k0, .slice p1 (x.Through).length k1, .slice p2 (x.To).length k2] ∧ SlR w S x.From p0 k0 ∧ SlR w S x.Through p1 k1 ∧ SlR w S x.To p2 k2 := by
  obtain ⟨_, _, rfl, rfl, ⟨_, _, rfl, rfl, ⟨_, _, rfl, ⟨p0, k0, rfl, s0⟩, ⟨_, _, rfl, ⟨p1, k1, rfl, s1⟩, ⟨p2, k2, rfl, s2⟩⟩⟩⟩⟩ := h
  exact ⟨p0, k0, p1, k1, p2, k2, rfl, s0, s1, s2⟩
theorem mkR_TException {w : World} {S : Nat → Prop} (x : TException) {p0 : Option Addr} {k0 : Nat} {p1 : Option Addr} {k1 : Nat} {p2 : Option Addr} {k2 : Nat} (s0 : SlR w S x.From p0 k0) (s1 : SlR w S x.Through p1 k1) (s2 : SlR w S x.To p2 k2) : GoT.R w S x [.int .i64 x.Kind, .int .i64 x.Value, .slice p0 (x.From).length k0, .slice p1 (x.Through).length k1, .slice p2 (x.To).length k2] := ⟨[.int .i64 x.Kind], [.int .i64 x.Value, .slice p0 (x.From).length k0, .slice p1 (x.Through).length k1, .slice p2 (x.To).length k2], rfl, rfl, ⟨[.int .i64 x.Value], [.slice p0 (x.From).length k0, .slice p1 (x.Through).length k1, .slice p2 (x.To).length k2], rfl, rfl, ⟨[.slice p0 (x.From).length k0], [.slice p1 (x.Through).length k1, .slice p2 (x.To).length k2], rfl, ⟨p0, k0, rfl, s0⟩, ⟨[.slice p1 (x.Through).length k1], [.slice p2 (x.To).length k2], rfl, ⟨p1, k1, rfl, s1⟩, ⟨p2, k2, rfl, s2⟩⟩⟩⟩⟩
theorem prt_TException {w : World} {S : Nat → Prop} {x : TException} {p0 : Option Addr} {l0 k0 : Nat} {p1 : Option Addr} {l1 k1 : Nat} {p2 : Option Addr} {l2 k2 : Nat} (h : GoT.R w S x [.int .i64 x.Kind, .int .i64 x.Value, .slice p0 l0 k0, .slice p1 l1 k1, .slice p2 l2 k2]) : (SlR w S x.From p0 k0 ∧ l0 = (x.From).length) ∧ (SlR w S x.Through p1 k1 ∧ l1 = (x.Through).length) ∧ (SlR w S x.To p2 k2 ∧ l2 = (x.To).length) := by
  obtain ⟨q0, j0, q1, j1, q2, j2, he, s0, s1, s2⟩ := open_TException h
  cases he
  exact ⟨⟨s0, rfl⟩, ⟨s1, rfl⟩, ⟨s2, rfl⟩⟩
theorem split_TException {w0 w : World} {L : List Ch} {S : Nat → Prop} {x : TException} {p0 : Option Addr} {l0 k0 : Nat} {p1 : Option Addr} {l1 k1 : Nat} {p2 : Option Addr} {l2 k2 : Nat} (h : SH w0 w (Ch.own S x [.int .i64 x.Kind, .int .i64 x.Value, .slice p0 l0 k0, .slice p1 l1 k1, .slice p2 l2 k2] :: L)) : ∃ S0 S1 S2, SH w0 w (Ch.own S2 x.To [.slice p2 l2 k2] :: Ch.own S1 x.Through [.slice p1 l1 k1] :: Ch.own S0 x.From [.slice p0 l0 k0] :: L) := by
  obtain ⟨hv, ho⟩ := h.headV
  replace ho : GoT.O w S x _ := ho
  obtain ⟨A0, B0, d0, e0, he, o0, ho, a0, b0⟩ := ho
  obtain rfl := o0
  cases he
  replace hv := hv.less b0
  obtain ⟨A1, B1, d1, e1, he, o1, ho, a1, b1⟩ := ho
  obtain rfl := o1
  cases he
  replace hv := hv.less b1
  obtain ⟨A2, B2, d2, e2, he, o2, ho, a2, b2⟩ := ho
  obtain ⟨q, m, rfl, s0⟩ := o2
  cases he
  replace hv := hv.push (c := Ch.own A2 x.From [_]) (S2 := B2) ⟨_, _, rfl, s0⟩ (fun _ hd => hd.elim) a2 b2
  obtain ⟨A3, B3, d3, e3, he, o3, ho, a3, b3⟩ := ho
  obtain ⟨q, m, rfl, s1⟩ := o3
  cases he
  replace hv := hv.push (c := Ch.own A3 x.Through [_]) (S2 := B3) ⟨_, _, rfl, s1⟩ (fun _ hd => hd.elim) a3 b3
  obtain ⟨q, m, he, s2⟩ := ho
  cases he
  replace hv := hv.push (c := Ch.own B3 x.To [_]) (S2 := (fun _ => False)) ⟨_, _, rfl, s2⟩ (fun _ hd => hd.elim) (fun b hb => ⟨hb, fun h => h⟩) (fun _ h => h.elim)
  exact ⟨A2, A3, B3, hv.sh⟩
theorem po_TException {w0 w : World} {L : List Ch} (x : TException) {I0 I1 I2 I3 I4 : List Nat} {c0 c1 c2 c3 c4 : List Value} (h : SH w0 w L) (h0 : PO w L I0 x.Kind c0) (h1 : PO w L I1 x.Value c1) (h2 : PO w L I2 x.From c2) (h3 : PO w L I3 x.Through c3) (h4 : PO w L I4 x.To c4) (b0 : apartB I0 (I1 ++ (I2 ++ (I3 ++ I4))) = true) (b1 : apartB I1 (I2 ++ (I3 ++ I4)) = true) (b2 : apartB I2 (I3 ++ I4) = true) (b3 : apartB I3 I4 = true) : PO w L (I0 ++ (I1 ++ (I2 ++ (I3 ++ I4)))) x (c0 ++ (c1 ++ (c2 ++ (c3 ++ c4)))) :=
  (po_pair h h0 (po_pair h h1 (po_pair h h2 (po_pair h h3 h4 b3) b2) b1) b0)

def tab : Tab := [
  (2, ⟨.int .i64, 1, 8, some (.int .i64 0), []⟩),
  (22, ⟨.slice 2, 1, 24, some (.slice none 0 0), []⟩),
  (24, ⟨.struct, 5, 88, some (.agg #[.int .i64 0, .int .i64 0, .slice none 0 0, .slice none 0 0, .slice none 0 0]), [(0, 1, some false), (1, 1, some false), (2, 1, some false), (3, 1, some false), (4, 1, some false)]⟩),
  (27, ⟨.struct, 5, 88, some (.agg #[.int .i64 0, .int .i64 0, .slice none 0 0, .slice none 0 0, .slice none 0 0]), [(0, 1, some false), (1, 1, some false), (2, 1, some false), (3, 1, some false), (4, 1, some false)]⟩),
  (51, ⟨.slice 22, 1, 24, some (.slice none 0 0), []⟩)]
theorem tabOk : TabOk Try.prog tab := TabOk.mk (by kernel_rfl)
theorem call8 : CallOk Try.prog 8 := ⟨_, Try.func8, rfl, by kernel_rfl⟩
theorem call9 : CallOk Try.prog 9 := ⟨_, Try.func9, rfl, by kernel_rfl⟩
theorem call10 : CallOk Try.prog 10 := ⟨_, Try.func10, rfl, by kernel_rfl⟩
theorem call11 : CallOk Try.prog 11 := ⟨_, Try.func11, rfl, by kernel_rfl⟩
theorem call12 : CallOk Try.prog 12 := ⟨_, Try.func12, rfl, by kernel_rfl⟩
theorem call17 : CallOk Try.prog 17 := ⟨_, Try.func17, rfl, by kernel_rfl⟩
theorem call28 : CallOk Try.prog 28 := ⟨_, Try.func28, rfl, by kernel_rfl⟩
theorem call29 : CallOk Try.prog 29 := ⟨_, Try.func29, rfl, by kernel_rfl⟩

def laws_szInt64S (n : Nat) (a : (List Int)) (left : Int) : Option Int :=
  bif decide ((W64 (left - (a.length : Int))) < 0) then
    some (-1)
  else
    some (W64 (left - (a.length : Int)))

theorem laws_szInt64S_ok {n : Nat} {w : World} {a : (List Int)} {left : Int} {cs1 : List Value} (ha1 : GoT.R w (old w) a cs1) {r : Int} (hF : laws_szInt64S n a left = some r) : RetV Try.prog 28 [GoT.v (List Int) cs1, .int .i64 left] w r := by
  obtain ⟨p1, k1, rfl, s1⟩ := ha1
  refine retV_of_run Try.func28 rfl (m := 12) rfl rfl (fun h => ?_)
  rw [laws_szInt64S] at hF
  refine r_seq ?_
  refine r_region ?_
  refine r_p tabOk rfl rfl ?_
  refine r_nil ?_
  refine r_seq ?_
  refine r_region ?_
  refine r_p tabOk rfl rfl ?_
  refine r_p tabOk rfl rfl ?_
  refine r_p tabOk rfl rfl ?_
  refine r_p tabOk rfl rfl ?_
  refine r_p tabOk rfl rfl ?_
  refine r_nil ?_
  refine r_seq ?_
  refine r_seq ?_
  refine r_region ?_
  refine r_p tabOk rfl rfl ?_
  refine r_p tabOk rfl rfl ?_
  refine r_nil ?_
  refine r_cond rfl (fun hc1 => ?_) (fun hc1 => ?_)
  · replace hF := bifT hc1 hF
    refine r_seq ?_
    refine r_region ?_
    refine r_p tabOk rfl rfl ?_
    refine r_nil ?_
    obtain rfl := someI hF
    exact r_retV tabOk (ρ := Int) [_] h ⟨rfl, trivial⟩ (vs_int _ _)
  · replace hF := bifF hc1 hF
    refine r_skip ?_
    refine r_seq ?_
    refine r_region ?_
    refine r_p tabOk rfl rfl ?_
    refine r_p tabOk rfl rfl ?_
    refine r_nil ?_
    obtain rfl := someI hF
    exact r_retV tabOk (ρ := Int) [_] h ⟨rfl, trivial⟩ (vs_int _ _)

def laws_szException (n : Nat) (a : TException) (left : Int) : Option Int :=
  (laws_szInt64S n a.From left).bind fun r1 =>
  bif decide (r1 < 0) then
    some (-1)
  else
    (laws_szInt64S n a.Through r1).bind fun r2 =>
    bif decide (r2 < 0) then
      some (-1)
    else
      (laws_szInt64S n a.To r2).bind fun r3 =>
      bif decide (r3 < 0) then
        some (-1)
      else
        some r3

theorem laws_szException_ok {n : Nat} {w : World} {a : TException} {left : Int} {cs1 : List Value} (ha1 : GoT.R w (old w) a cs1) {r : Int} (hF : laws_szException n a left = some r) : RetV Try.prog 8 [GoT.v TException cs1, .int .i64 left] w r := by
  obtain ⟨p1, k1, p2, k2, p3, k3, rfl, s1, s2, s3⟩ := open_TException ha1
  refine retV_of_run Try.func8 rfl (m := 24) rfl rfl (fun h => ?_)
  rw [laws_szException] at hF
  refine r_seq ?_
  refine r_region ?_
  refine r_box h rfl rfl ?_
  intro w1 bb1 h
  refine r_p tabOk rfl rfl ?_
  refine r_nil ?_
  refine r_seq ?_
  refine r_region ?_
  refine r_p tabOk rfl rfl ?_
  refine r_v (v_ld tabOk (h.box 0 rfl) (j := 2) rfl rfl rfl) rfl ?_
  refine r_p tabOk rfl rfl ?_
  obtain ⟨r1, hr1, hF⟩ := bindS hF
  refine r_callI r1 h call28 (laws_szInt64S_ok ⟨_, _, rfl, (h.oldS s1)⟩ hr1) rfl rfl rfl rfl ?_
  intro w2 h
  refine r_p tabOk rfl rfl ?_
  refine r_nil ?_
  refine r_seq ?_
  refine r_seq ?_
  refine r_region ?_
  refine r_p tabOk rfl rfl ?_
  refine r_p tabOk rfl rfl ?_
  refine r_nil ?_
  refine r_cond rfl (fun hc1 => ?_) (fun hc1 => ?_)
  · replace hF := bifT hc1 hF
    refine r_seq ?_
    refine r_region ?_
    refine r_p tabOk rfl rfl ?_
    refine r_nil ?_
    obtain rfl := someI hF
    exact r_retV tabOk (ρ := Int) [_] h ⟨rfl, trivial⟩ (vs_int _ _)
  · replace hF := bifF hc1 hF
    refine r_skip ?_
    refine r_seq ?_
    refine r_region ?_
    refine r_p tabOk rfl rfl ?_
    refine r_v (v_ld tabOk (h.box 0 rfl) (j := 3) rfl rfl rfl) rfl ?_
    refine r_p tabOk rfl rfl ?_
    obtain ⟨r2, hr2, hF⟩ := bindS hF
    refine r_callI r2 h call28 (laws_szInt64S_ok ⟨_, _, rfl, (h.oldS s2)⟩ hr2) rfl rfl rfl rfl ?_
    intro w3 h
    refine r_p tabOk rfl rfl ?_
    refine r_nil ?_
    refine r_seq ?_
    refine r_seq ?_
    refine r_region ?_
    refine r_p tabOk rfl rfl ?_
    refine r_p tabOk rfl rfl ?_
    refine r_nil ?_
    refine r_cond rfl (fun hc2 => ?_) (fun hc2 => ?_)
    · replace hF := bifT hc2 hF
      refine r_seq ?_
      refine r_region ?_
      refine r_p tabOk rfl rfl ?_
      refine r_nil ?_
      obtain rfl := someI hF
      exact r_retV tabOk (ρ := Int) [_] h ⟨rfl, trivial⟩ (vs_int _ _)
    · replace hF := bifF hc2 hF
      refine r_skip ?_
      refine r_seq ?_
      refine r_region ?_
      refine r_p tabOk rfl rfl ?_
      refine r_v (v_ld tabOk (h.box 0 rfl) (j := 4) rfl rfl rfl) rfl ?_
      refine r_p tabOk rfl rfl ?_
      obtain ⟨r3, hr3, hF⟩ := bindS hF
      refine r_callI r3 h call28 (laws_szInt64S_ok ⟨_, _, rfl, (h.oldS s3)⟩ hr3) rfl rfl rfl rfl ?_
      intro w4 h
      refine r_p tabOk rfl rfl ?_
      refine r_nil ?_
      refine r_seq ?_
      refine r_seq ?_
      refine r_region ?_
      refine r_p tabOk rfl rfl ?_
      refine r_p tabOk rfl rfl ?_
      refine r_nil ?_
      refine r_cond rfl (fun hc3 => ?_) (fun hc3 => ?_)
      · replace hF := bifT hc3 hF
        refine r_seq ?_
        refine r_region ?_
        refine r_p tabOk rfl rfl ?_
        refine r_nil ?_
        obtain rfl := someI hF
        exact r_retV tabOk (ρ := Int) [_] h ⟨rfl, trivial⟩ (vs_int _ _)
      · replace hF := bifF hc3 hF
        refine r_skip ?_
        refine r_seq ?_
        refine r_region ?_
        refine r_p tabOk rfl rfl ?_
        refine r_p tabOk rfl rfl ?_
        refine r_nil ?_
        obtain rfl := someI hF
        exact r_retV tabOk (ρ := Int) [_] h ⟨rfl, trivial⟩ (vs_int _ _)

def spec_RankOf (n : Nat) (a_e : TException) : Option Int :=
  (
    bif decide ((a_e.From.length : Int) > 0) then
      some (W64 (0 + 4))
    else
      some 0).bind fun i1 =>
  bif decide ((a_e.To.length : Int) > 0) then
    bif decide ((a_e.Through.length : Int) > 0) then
      some (W64 ((W64 (i1 + 2)) + 1))
    else
      some (W64 (i1 + 2))
  else
    bif decide ((a_e.Through.length : Int) > 0) then
      some (W64 (i1 + 1))
    else
      some i1

theorem spec_RankOf_ok {n : Nat} {w : World} {a_e : TException} {cs1 : List Value} (ha1 : GoT.R w (old w) a_e cs1) {r : Int} (hF : spec_RankOf n a_e = some r) : RetV Try.prog 9 [GoT.v TException cs1] w r := by
  obtain ⟨p1, k1, p2, k2, p3, k3, rfl, s1, s2, s3⟩ := open_TException ha1
  refine retV_of_run Try.func9 rfl (m := 23) rfl rfl (fun h => ?_)
  rw [spec_RankOf] at hF
  refine r_seq ?_
  refine r_region ?_
  refine r_box h rfl rfl ?_
  intro w1 bb1 h
  refine r_p tabOk rfl rfl ?_
  refine r_nil ?_
  refine r_seq ?_
  refine r_region ?_
  refine r_p tabOk rfl rfl ?_
  refine r_nil ?_
  refine r_seq ?_
  refine r_seq ?_
  refine r_region ?_
  refine r_p tabOk rfl rfl ?_
  refine r_v (v_ld tabOk (h.box 0 rfl) (j := 2) rfl rfl rfl) rfl ?_
  refine r_p tabOk rfl rfl ?_
  refine r_p tabOk rfl rfl ?_
  refine r_nil ?_
  obtain ⟨KF1, hKF1, o1, hF, hK1⟩ := bindE hF
  refine r_cut (fun e w' => ∃ (i1 : Int), KF1 i1 = some r ∧ e = [(1, .pointer (some ⟨bb1, 0, none⟩)), (3, .int .i64 i1)] ∧ SH w w' [Ch.box bb1 [.int .i64 a_e.Kind, .int .i64 a_e.Value, .slice p1 a_e.From.length k1, .slice p2 a_e.Through.length k2, .slice p3 a_e.To.length k3] 27]) ?_ ?_
  · refine r_cond rfl (fun hc4 => ?_) (fun hc4 => ?_)
    · replace hF := bifT hc4 hF
      refine r_region ?_
      refine r_p tabOk rfl rfl ?_
      refine r_p tabOk rfl rfl ?_
      refine r_p tabOk rfl rfl ?_
      refine r_nil ?_
      obtain rfl := someI hF
      exact r_cutgoal [(1, _), (3, _)] ⟨rfl, rfl, trivial⟩ ⟨_, hK1, rfl, h⟩
    · replace hF := bifF hc4 hF
      refine r_skip ?_
      obtain rfl := someI hF
      exact r_cutgoal [(1, _), (3, _)] ⟨rfl, rfl, trivial⟩ ⟨_, hK1, rfl, h⟩
  · rintro e1 w2 ⟨i1, hF, rfl, h⟩
    subst hKF1
    refine r_seq ?_
    refine r_seq ?_
    refine r_region ?_
    refine r_p tabOk rfl rfl ?_
    refine r_v (v_ld tabOk (h.box 0 rfl) (j := 4) rfl rfl rfl) rfl ?_
    refine r_p tabOk rfl rfl ?_
    refine r_p tabOk rfl rfl ?_
    refine r_nil ?_
    refine r_cond rfl (fun hc1 => ?_) (fun hc1 => ?_)
    · replace hF := bifT hc1 hF
      refine r_region ?_
      refine r_p tabOk rfl rfl ?_
      refine r_p tabOk rfl rfl ?_
      refine r_p tabOk rfl rfl ?_
      refine r_nil ?_
      refine r_seq ?_
      refine r_seq ?_
      refine r_region ?_
      refine r_p tabOk rfl rfl ?_
      refine r_v (v_ld tabOk (h.box 0 rfl) (j := 3) rfl rfl rfl) rfl ?_
      refine r_p tabOk rfl rfl ?_
      refine r_p tabOk rfl rfl ?_
      refine r_nil ?_
      refine r_cond rfl (fun hc2 => ?_) (fun hc2 => ?_)
      · replace hF := bifT hc2 hF
        refine r_region ?_
        refine r_p tabOk rfl rfl ?_
        refine r_p tabOk rfl rfl ?_
        refine r_p tabOk rfl rfl ?_
        refine r_nil ?_
        refine r_seq ?_
        refine r_region ?_
        refine r_p tabOk rfl rfl ?_
        refine r_p tabOk rfl rfl ?_
        refine r_nil ?_
        obtain rfl := someI hF
        exact r_retV tabOk (ρ := Int) [_] h ⟨rfl, trivial⟩ (vs_int _ _)
      · replace hF := bifF hc2 hF
        refine r_skip ?_
        refine r_seq ?_
        refine r_region ?_
        refine r_p tabOk rfl rfl ?_
        refine r_p tabOk rfl rfl ?_
        refine r_nil ?_
        obtain rfl := someI hF
        exact r_retV tabOk (ρ := Int) [_] h ⟨rfl, trivial⟩ (vs_int _ _)
    · replace hF := bifF hc1 hF
      refine r_skip ?_
      refine r_seq ?_
      refine r_seq ?_
      refine r_region ?_
      refine r_p tabOk rfl rfl ?_
      refine r_v (v_ld tabOk (h.box 0 rfl) (j := 3) rfl rfl rfl) rfl ?_
      refine r_p tabOk rfl rfl ?_
      refine r_p tabOk rfl rfl ?_
      refine r_nil ?_
      refine r_cond rfl (fun hc3 => ?_) (fun hc3 => ?_)
      · replace hF := bifT hc3 hF
        refine r_region ?_
        refine r_p tabOk rfl rfl ?_
        refine r_p tabOk rfl rfl ?_
        refine r_p tabOk rfl rfl ?_
        refine r_nil ?_
        refine r_seq ?_
        refine r_region ?_
        refine r_p tabOk rfl rfl ?_
        refine r_p tabOk rfl rfl ?_
        refine r_nil ?_
        obtain rfl := someI hF
        exact r_retV tabOk (ρ := Int) [_] h ⟨rfl, trivial⟩ (vs_int _ _)
      · replace hF := bifF hc3 hF
        refine r_skip ?_
        refine r_seq ?_
        refine r_region ?_
        refine r_p tabOk rfl rfl ?_
        refine r_p tabOk rfl rfl ?_
        refine r_nil ?_
        obtain rfl := someI hF
        exact r_retV tabOk (ρ := Int) [_] h ⟨rfl, trivial⟩ (vs_int _ _)

def laws_toInt64S_L1 (a : (List Int)) : Nat → (List Int) → Int → Option ((List Int) × Int)
  | 0, _, _ => none
  | n + 1, x2, i1 =>
    bif decide (i1 < (a.length : Int)) then
      (idx a i1).bind fun y1 =>
      (idx x2 i1).bind fun y2 =>
      laws_toInt64S_L1 a n (setS x2 i1 y1) (W64 (i1 + 1))
    else
      some (x2, i1)

def laws_toInt64S (n : Nat) (a : (List Int)) : Option (List Int) :=
  (mkS (a.length : Int) (0 : Int)).bind fun x1 =>
  (laws_toInt64S_L1 a n x1 0).bind fun o => match o with
  | (x2, i1) =>
    some x2

theorem laws_toInt64S_ok {n : Nat} {w : World} {a : (List Int)} {cs1 : List Value} (ha1 : GoT.R w (old w) a cs1) {r : (List Int)} (hF : laws_toInt64S n a = some r) : RetV Try.prog 29 [GoT.v (List Int) cs1] w r := by
  obtain ⟨p1, k1, rfl, s1⟩ := ha1
  refine retV_of_run Try.func29 rfl (m := 22) rfl rfl (fun h => ?_)
  rw [laws_toInt64S] at hF
  refine r_seq ?_
  refine r_region ?_
  refine r_p tabOk rfl rfl ?_
  refine r_nil ?_
  refine r_seq ?_
  refine r_region ?_
  refine r_p tabOk rfl rfl ?_
  refine r_p tabOk rfl rfl ?_
  obtain ⟨x1, hx1, hF⟩ := bindS hF
  obtain ⟨g1, g2, hx1⟩ := mkS_some hx1
  refine r_make tabOk Int h rfl rfl rfl rfl rfl rfl rfl rfl rfl g1 g2 rfl ?_
  intro w1 S1 p2 h
  replace hx1 : List.replicate _ GoT.zero = x1 := hx1
  rw [hx1] at h
  refine r_p tabOk rfl rfl ?_
  refine r_nil ?_
  refine r_seq ?_
  refine r_seq ?_
  refine r_region ?_
  refine r_p tabOk rfl rfl ?_
  refine r_nil ?_
  obtain ⟨o1, hF, hK1⟩ := bindS hF
  refine r_block ?_
  refine r_sub [(0, _), (3, _), (4, _)] ⟨rfl, rfl, rfl, trivial⟩ ?_
  refine r_loop (fun m e w' => ∃ (x2 : (List Int)) (i1 : Int), laws_toInt64S_L1 a m x2 i1 = some o1 ∧ e = [(0, .slice p1 a.length k1), (3, .slice p2 ((a.length : Int).toNat) ((a.length : Int).toNat)), (4, .int .i64 i1)] ∧ SH w w' [Ch.own S1 (x2 : List Int) [.slice p2 ((a.length : Int).toNat) ((a.length : Int).toNat)]]) n ⟨_, _, hF, rfl, h⟩ ?_
  rintro m1 e1 w2 ⟨x2, i1, hF, rfl, h⟩
  rcases m1 with _ | m1
  · rw [laws_toInt64S_L1] at hF
    cases hF
  rw [laws_toInt64S_L1] at hF
  refine r_seq ?_
  refine r_seq ?_
  refine r_region ?_
  refine r_p tabOk rfl rfl ?_
  refine r_p tabOk rfl rfl ?_
  refine r_p tabOk rfl rfl ?_
  refine r_p tabOk rfl rfl ?_
  refine r_nil ?_
  refine r_cond rfl (fun hc1 => ?_) (fun hc1 => ?_)
  · replace hF := bifT hc1 hF
    refine r_skip ?_
    refine r_seq ?_
    refine r_block ?_
    refine r_region ?_
    refine r_p tabOk rfl rfl ?_
    refine r_p tabOk rfl rfl ?_
    refine r_p tabOk rfl rfl ?_
    refine r_p tabOk rfl rfl ?_
    obtain ⟨y1, hy1, hF⟩ := bindS hF
    have he1 := idx_some hy1
    obtain ⟨b1, o_1, q1, cs2, hp1, hq1, -, hr1, hc2⟩ := s1.at hy1
    obtain rfl := hr1
    refine r_v (v_ix tabOk hp1 hq1 ⟨he1.1, he1.2.1⟩ rfl rfl rfl rfl rfl rfl) rfl ?_
    refine r_v (v_ld tabOk (hc2.below h.below) (j := 0) rfl rfl rfl) rfl ?_
    obtain ⟨y2, hy2, hF⟩ := bindS hF
    have he2 := idx_some hy2
    obtain ⟨b2, o_2, q2, cs3, hp2, hq2, -, hr2, hc3⟩ := (h.sl 0 rfl).1.at hy2
    obtain rfl := hr2
    refine r_v (v_ix tabOk hp2 hq2 ⟨he2.1, lt_ln he2.2.1 (h.sl 0 rfl).2⟩ rfl rfl rfl rfl rfl rfl) rfl ?_
    refine r_stown tabOk 0 0 y1 h rfl hy2 hp2 hq2 rfl hc3 rfl rfl rfl rfl rfl rfl rfl ?_
    intro w3 h
    refine r_nil ?_
    refine r_blk ?_
    refine r_region ?_
    refine r_p tabOk rfl rfl ?_
    refine r_p tabOk rfl rfl ?_
    refine r_p tabOk rfl rfl ?_
    refine r_nil ?_
    exact r_back m1 [(0, _), (3, _), (4, _)] (Nat.lt_succ_self m1) ⟨rfl, rfl, rfl, trivial⟩ ⟨_, _, hF, rfl, h⟩
  · replace hF := bifF hc1 hF
    refine r_exit rfl ?_
    obtain rfl := someI hF; replace hF := hK1
    refine r_seq ?_
    refine r_region ?_
    refine r_p tabOk rfl rfl ?_
    refine r_p tabOk rfl rfl ?_
    refine r_nil ?_
    obtain rfl := someI hF
    exact r_retV tabOk (ρ := (List Int)) [GoT.v (List Int) [.slice p2 ((a.length : Int).toNat) ((a.length : Int).toNat)]] h ⟨rfl, trivial⟩ (PV.done h (pv_one (po_own 0 h rfl)))

def laws_toException (n : Nat) (a : TException) : Option TException :=
  (laws_toInt64S n a.From).bind fun r1 =>
  (laws_toInt64S n a.Through).bind fun r2 =>
  (laws_toInt64S n a.To).bind fun r3 =>
  some (⟨a.Kind, a.Value, r1, r2, r3⟩ : TException)

theorem laws_toException_ok {n : Nat} {w : World} {a : TException} {cs1 : List Value} (ha1 : GoT.R w (old w) a cs1) {r : TException} (hF : laws_toException n a = some r) : RetV Try.prog 10 [GoT.v TException cs1] w r := by
  obtain ⟨p1, k1, p2, k2, p3, k3, rfl, s1, s2, s3⟩ := open_TException ha1
  refine retV_of_run Try.func10 rfl (m := 23) rfl rfl (fun h => ?_)
  rw [laws_toException] at hF
  refine r_seq ?_
  refine r_region ?_
  refine r_box h rfl rfl ?_
  intro w1 bb1 h
  refine r_alloc tabOk h rfl rfl rfl ?_
  intro w2 bb2 h
  refine r_nil ?_
  refine r_seq ?_
  refine r_region ?_
  refine r_alloc tabOk h rfl rfl rfl ?_
  intro w3 bb3 h
  refine r_nil ?_
  refine r_seq ?_
  refine r_region ?_
  refine r_p tabOk rfl rfl ?_
  refine r_v (v_ld tabOk (h.box 2 rfl) (j := 0) rfl rfl rfl) rfl ?_
  refine r_p tabOk rfl rfl ?_
  refine r_stbox tabOk 0 h rfl rfl rfl rfl rfl rfl rfl ?_
  intro w4 h
  refine r_nil ?_
  refine r_seq ?_
  refine r_region ?_
  refine r_p tabOk rfl rfl ?_
  refine r_v (v_ld tabOk (h.box 2 rfl) (j := 1) rfl rfl rfl) rfl ?_
  refine r_p tabOk rfl rfl ?_
  refine r_stbox tabOk 0 h rfl rfl rfl rfl rfl rfl rfl ?_
  intro w5 h
  refine r_nil ?_
  refine r_seq ?_
  refine r_region ?_
  refine r_p tabOk rfl rfl ?_
  refine r_v (v_ld tabOk (h.box 2 rfl) (j := 2) rfl rfl rfl) rfl ?_
  obtain ⟨r1, hr1, hF⟩ := bindS hF
  refine r_callL r1 h call29 (laws_toInt64S_ok ⟨_, _, rfl, (h.oldS s1)⟩ hr1) rfl rfl rfl rfl ?_
  intro w6 S1 p4 k4 h
  refine r_p tabOk rfl rfl ?_
  refine r_stbox tabOk 1 h rfl rfl rfl rfl rfl rfl rfl ?_
  intro w7 h
  refine r_nil ?_
  refine r_seq ?_
  refine r_region ?_
  refine r_p tabOk rfl rfl ?_
  refine r_v (v_ld tabOk (h.box 3 rfl) (j := 3) rfl rfl rfl) rfl ?_
  obtain ⟨r2, hr2, hF⟩ := bindS hF
  refine r_callL r2 h call29 (laws_toInt64S_ok ⟨_, _, rfl, (h.oldS s2)⟩ hr2) rfl rfl rfl rfl ?_
  intro w8 S2 p5 k5 h
  refine r_p tabOk rfl rfl ?_
  refine r_stbox tabOk 2 h rfl rfl rfl rfl rfl rfl rfl ?_
  intro w9 h
  refine r_nil ?_
  refine r_seq ?_
  refine r_region ?_
  refine r_p tabOk rfl rfl ?_
  refine r_v (v_ld tabOk (h.box 4 rfl) (j := 4) rfl rfl rfl) rfl ?_
  obtain ⟨r3, hr3, hF⟩ := bindS hF
  refine r_callL r3 h call29 (laws_toInt64S_ok ⟨_, _, rfl, (h.oldS s3)⟩ hr3) rfl rfl rfl rfl ?_
  intro w10 S3 p6 k6 h
  refine r_p tabOk rfl rfl ?_
  refine r_stbox tabOk 3 h rfl rfl rfl rfl rfl rfl rfl ?_
  intro w11 h
  refine r_nil ?_
  refine r_seq ?_
  refine r_region ?_
  refine r_v (v_ld tabOk (h.box 3 rfl) (j := 0) rfl rfl rfl) rfl ?_
  refine r_stbox tabOk 4 h rfl rfl rfl rfl rfl rfl rfl ?_
  intro w12 h
  refine r_nil ?_
  obtain rfl := someI hF
  exact r_retV tabOk (ρ := TException) [GoT.v TException [.int .i64 a.Kind, .int .i64 a.Value, .slice p4 r1.length k4, .slice p5 r2.length k5, .slice p6 r3.length k6]] h ⟨⟨_, _, _, rfl, rfl, h.box 4 rfl, rfl⟩, trivial⟩ (PV.done h (pv_one (po_TException (⟨a.Kind, a.Value, r1, r2, r3⟩ : TException) h (po_flat (S := fun _ => False) rfl) (po_flat (S := fun _ => False) rfl) (po_own 2 h rfl) (po_own 1 h rfl) (po_own 0 h rfl) (by rfl) (by rfl) (by rfl) (by rfl))))

def impl_RankOf_L1 (a_e : TException) : Nat → Int → Int → Option (Int × Int)
  | 0, _, _ => none
  | n + 1, i1, i2 =>
    bif decide (i2 < ((3 : Nat) : Int)) then
      (idx ([a_e.Through, a_e.To, a_e.From] : List (List Int)) i2).bind fun y1 =>
      bif decide ((y1.length : Int) > 0) then
        (shlS 1 i2).bind fun y2 =>
        impl_RankOf_L1 a_e n (W64 (i1 + y2)) (W64 (i2 + 1))
      else
        impl_RankOf_L1 a_e n i1 (W64 (i2 + 1))
    else
      some (i1, i2)

def impl_RankOf (n : Nat) (a_e : TException) : Option Int :=
  (impl_RankOf_L1 a_e n 0 0).bind fun o => match o with
  | (i1, i2) =>
    some i1

theorem impl_RankOf_ok {n : Nat} {w : World} {a_e : TException} {cs1 : List Value} (ha1 : GoT.R w (old w) a_e cs1) {r : Int} (hF : impl_RankOf n a_e = some r) : RetV Try.prog 11 [GoT.v TException cs1] w r := by
  obtain ⟨p1, k1, p2, k2, p3, k3, rfl, s1, s2, s3⟩ := open_TException ha1
  refine retV_of_run Try.func11 rfl (m := 28) rfl rfl (fun h => ?_)
  rw [impl_RankOf] at hF
  refine r_seq ?_
  refine r_region ?_
  refine r_box h rfl rfl ?_
  intro w1 bb1 h
  refine r_p tabOk rfl rfl ?_
  refine r_nil ?_
  refine r_seq ?_
  refine r_region ?_
  refine r_p tabOk rfl rfl ?_
  refine r_nil ?_
  refine r_seq ?_
  refine r_seq ?_
  refine r_region ?_
  refine r_p tabOk rfl rfl ?_
  refine r_v (v_ld tabOk (h.box 0 rfl) (j := 3) rfl rfl rfl) rfl ?_
  refine r_p tabOk rfl rfl ?_
  refine r_v (v_ld tabOk (h.box 0 rfl) (j := 4) rfl rfl rfl) rfl ?_
  refine r_p tabOk rfl rfl ?_
  refine r_v (v_ld tabOk (h.box 0 rfl) (j := 2) rfl rfl rfl) rfl ?_
  refine r_bsliceD tabOk [.tmp 7, .tmp 9, .tmp 11] _ ([a_e.Through, a_e.To, a_e.From] : List (List Int)) h rfl rfl rfl rfl rfl rfl rfl rfl rfl ⟨⟨_, _, rfl, s2⟩, ⟨_, _, rfl, s3⟩, ⟨_, _, rfl, s1⟩, trivial⟩ rfl ?_
  intro w2 p4 S1 h
  refine r_p tabOk rfl rfl ?_
  refine r_p tabOk rfl rfl ?_
  refine r_nil ?_
  obtain ⟨o1, hF, hK1⟩ := bindS hF
  refine r_block ?_
  replace h := h.pick [0] rfl
  refine r_sub [(3, _), (12, _), (13, _), (14, _)] ⟨rfl, rfl, rfl, rfl, trivial⟩ ?_
  refine r_loop (fun m e w' => ∃ (i1 : Int) (i2 : Int), impl_RankOf_L1 a_e m i1 i2 = some o1 ∧ e = [(3, .int .i64 i1), (12, .slice p4 3 3), (13, .int .i64 ((3 : Nat) : Int)), (14, .int .i64 i2)] ∧ SH w w' [Ch.rowD w S1 (([a_e.Through, a_e.To, a_e.From] : List (List Int)) : List (List Int)) p4 3]) n ⟨_, _, hF, rfl, h⟩ ?_
  rintro m1 e1 w3 ⟨i1, i2, hF, rfl, h⟩
  rcases m1 with _ | m1
  · rw [impl_RankOf_L1] at hF
    cases hF
  rw [impl_RankOf_L1] at hF
  refine r_seq ?_
  refine r_region ?_
  refine r_p tabOk rfl rfl ?_
  refine r_nil ?_
  refine r_seq ?_
  refine r_cond rfl (fun hc1 => ?_) (fun hc1 => ?_)
  · replace hF := bifT hc1 hF
    refine r_skip ?_
    refine r_seq ?_
    refine r_block ?_
    refine r_seq ?_
    refine r_region ?_
    refine r_p tabOk rfl rfl ?_
    obtain ⟨y1, hy1, hF⟩ := bindS hF
    have he1 := idx_some hy1
    obtain ⟨b1, o_1, q1, cs2, hp1, hq1, -, hr1, hc2⟩ := h.atD 0 rfl hy1
    obtain ⟨p5, k4, rfl, s4⟩ := hr1
    refine r_v (v_ix tabOk hp1 hq1 ⟨he1.1, he1.2.1⟩ rfl rfl rfl rfl rfl rfl) rfl ?_
    refine r_v (v_ld tabOk hc2 (j := 0) rfl rfl rfl) rfl ?_
    refine r_p tabOk rfl rfl ?_
    refine r_p tabOk rfl rfl ?_
    refine r_nil ?_
    refine r_seq ?_
    refine r_region ?_
    refine r_p tabOk rfl rfl ?_
    refine r_p tabOk rfl rfl ?_
    refine r_p tabOk rfl rfl ?_
    refine r_nil ?_
    refine r_cond rfl (fun hc3 => ?_) (fun hc3 => ?_)
    · replace hF := bifT hc3 hF
      refine r_region ?_
      refine r_p tabOk rfl rfl ?_
      refine r_p tabOk rfl rfl ?_
      obtain ⟨y2, hx1, hF⟩ := bindS hF
      obtain ⟨g1, hx1⟩ := shlS_some hx1
      refine r_v (v_shl g1 rfl rfl) rfl ?_
      rw [hx1]
      refine r_p tabOk rfl rfl ?_
      refine r_p tabOk rfl rfl ?_
      refine r_nil ?_
      refine r_blk ?_
      refine r_region ?_
      refine r_p tabOk rfl rfl ?_
      refine r_p tabOk rfl rfl ?_
      refine r_nil ?_
      exact r_back m1 [(3, _), (12, _), (13, _), (14, _)] (Nat.lt_succ_self m1) ⟨rfl, rfl, rfl, rfl, trivial⟩ ⟨_, _, hF, rfl, h⟩
    · replace hF := bifF hc3 hF
      refine r_skip ?_
      refine r_blk ?_
      refine r_region ?_
      refine r_p tabOk rfl rfl ?_
      refine r_p tabOk rfl rfl ?_
      refine r_nil ?_
      exact r_back m1 [(3, _), (12, _), (13, _), (14, _)] (Nat.lt_succ_self m1) ⟨rfl, rfl, rfl, rfl, trivial⟩ ⟨_, _, hF, rfl, h⟩
  · replace hF := bifF hc1 hF
    refine r_exit rfl ?_
    obtain rfl := someI hF; replace hF := hK1
    refine r_seq ?_
    refine r_region ?_
    refine r_p tabOk rfl rfl ?_
    refine r_p tabOk rfl rfl ?_
    refine r_nil ?_
    obtain rfl := someI hF
    exact r_retV tabOk (ρ := Int) [_] h ⟨rfl, trivial⟩ (vs_int _ _)

def laws_eqInt64S_L1 (a : (List Int)) (b : (List Int)) : Nat → Int → Option (Flow Bool Int)
  | 0, _ => none
  | n + 1, i1 =>
    bif decide (i1 < (a.length : Int)) then
      (idx a i1).bind fun y1 =>
      (idx b i1).bind fun y2 =>
      bif (y1 != y2) then
        some (.ret false)
      else
        laws_eqInt64S_L1 a b n (W64 (i1 + 1))
    else
      some (.nxt i1)

def laws_eqInt64S (n : Nat) (a : (List Int)) (b : (List Int)) : Option Bool :=
  bif ((a.length : Int) != (b.length : Int)) then
    some false
  else
    (laws_eqInt64S_L1 a b n 0).bind fun o => match o with
    | .ret r => some r
    | .nxt i1 =>
      some true

theorem laws_eqInt64S_ok {n : Nat} {w : World} {a : (List Int)} {b : (List Int)} {cs1 : List Value} (ha1 : GoT.R w (old w) a cs1) {cs2 : List Value} (ha2 : GoT.R w (old w) b cs2) {r : Bool} (hF : laws_eqInt64S n a b = some r) : RetV Try.prog 17 [GoT.v (List Int) cs1, GoT.v (List Int) cs2] w r := by
  obtain ⟨p1, k1, rfl, s1⟩ := ha1
  obtain ⟨p2, k2, rfl, s2⟩ := ha2
  refine retV_of_run Try.func17 rfl (m := 26) rfl rfl (fun h => ?_)
  rw [laws_eqInt64S] at hF
  refine r_seq ?_
  refine r_region ?_
  refine r_p tabOk rfl rfl ?_
  refine r_nil ?_
  refine r_seq ?_
  refine r_seq ?_
  refine r_region ?_
  refine r_p tabOk rfl rfl ?_
  refine r_p tabOk rfl rfl ?_
  refine r_p tabOk rfl rfl ?_
  refine r_p tabOk rfl rfl ?_
  refine r_p tabOk rfl rfl ?_
  refine r_nil ?_
  refine r_cond rfl (fun hc1 => ?_) (fun hc1 => ?_)
  · replace hF := bifT hc1 hF
    refine r_seq ?_
    refine r_region ?_
    refine r_p tabOk rfl rfl ?_
    refine r_nil ?_
    obtain rfl := someI hF
    exact r_retV tabOk (ρ := Bool) [_] h ⟨rfl, trivial⟩ (vs_bool _ _)
  · replace hF := bifF hc1 hF
    refine r_skip ?_
    refine r_seq ?_
    refine r_seq ?_
    refine r_region ?_
    refine r_p tabOk rfl rfl ?_
    refine r_nil ?_
    obtain ⟨o1, hF, hK1⟩ := bindS hF
    refine r_block ?_
    refine r_sub [(0, _), (1, _), (5, _)] ⟨rfl, rfl, rfl, trivial⟩ ?_
    refine r_loop (fun m e w' => ∃ (i1 : Int), laws_eqInt64S_L1 a b m i1 = some o1 ∧ e = [(0, .slice p1 a.length k1), (1, .slice p2 b.length k2), (5, .int .i64 i1)] ∧ SH w w' []) n ⟨_, hF, rfl, h⟩ ?_
    rintro m1 e1 w1 ⟨i1, hF, rfl, h⟩
    rcases m1 with _ | m1
    · rw [laws_eqInt64S_L1] at hF
      cases hF
    rw [laws_eqInt64S_L1] at hF
    refine r_seq ?_
    refine r_seq ?_
    refine r_region ?_
    refine r_p tabOk rfl rfl ?_
    refine r_p tabOk rfl rfl ?_
    refine r_p tabOk rfl rfl ?_
    refine r_p tabOk rfl rfl ?_
    refine r_nil ?_
    refine r_cond rfl (fun hc2 => ?_) (fun hc2 => ?_)
    · replace hF := bifT hc2 hF
      refine r_skip ?_
      refine r_seq ?_
      refine r_block ?_
      refine r_seq ?_
      refine r_draw rfl (by kernel_rfl) ?_
      refine d_p tabOk rfl rfl ?_
      refine d_p tabOk rfl rfl ?_
      obtain ⟨y1, hy1, hF⟩ := bindS hF
      have he1 := idx_some hy1
      obtain ⟨b1, o_1, q1, cs3, hp1, hq1, -, hr1, hc3⟩ := s1.at hy1
      obtain rfl := hr1
      refine d_v (fun _ hb => v_ix tabOk hp1 hq1 ⟨he1.1, he1.2.1⟩ rfl rfl rfl rfl rfl rfl) rfl ?_
      refine d_v (fun _ hb => v_ld tabOk ((hc3.below h.below).below hb) (j := 0) rfl rfl rfl) rfl ?_
      refine d_p tabOk rfl rfl ?_
      refine d_p tabOk rfl rfl ?_
      obtain ⟨y2, hy2, hF⟩ := bindS hF
      have he2 := idx_some hy2
      obtain ⟨b2, o_2, q2, cs4, hp2, hq2, -, hr2, hc4⟩ := s2.at hy2
      obtain rfl := hr2
      refine d_v (fun _ hb => v_ix tabOk hp2 hq2 ⟨he2.1, he2.2.1⟩ rfl rfl rfl rfl rfl rfl) rfl ?_
      refine d_v (fun _ hb => v_ld tabOk ((hc4.below h.below).below hb) (j := 0) rfl rfl rfl) rfl ?_
      refine d_p tabOk rfl rfl ?_
      refine d_nil (fun w2 hb => ?_)
      replace h := h.ext hb
      clear hb
      refine r_cond rfl (fun hc5 => ?_) (fun hc5 => ?_)
      · replace hF := bifT hc5 hF
        refine r_seq ?_
        refine r_region ?_
        refine r_p tabOk rfl rfl ?_
        refine r_nil ?_
        obtain rfl := someI hF; replace hF := hK1
        obtain rfl := someI hF
        exact r_retV tabOk (ρ := Bool) [_] h ⟨rfl, trivial⟩ (vs_bool _ _)
      · replace hF := bifF hc5 hF
        refine r_skip ?_
        refine r_blk ?_
        refine r_region ?_
        refine r_p tabOk rfl rfl ?_
        refine r_p tabOk rfl rfl ?_
        refine r_p tabOk rfl rfl ?_
        refine r_nil ?_
        exact r_back m1 [(0, _), (1, _), (5, _)] (Nat.lt_succ_self m1) ⟨rfl, rfl, rfl, trivial⟩ ⟨_, hF, rfl, h⟩
    · replace hF := bifF hc2 hF
      refine r_exit rfl ?_
      obtain rfl := someI hF; replace hF := hK1
      refine r_seq ?_
      refine r_region ?_
      refine r_p tabOk rfl rfl ?_
      refine r_nil ?_
      obtain rfl := someI hF
      exact r_retV tabOk (ρ := Bool) [_] h ⟨rfl, trivial⟩ (vs_bool _ _)

def laws_eqException (n : Nat) (a : TException) (b : TException) : Option Bool :=
  bif (a.Kind != b.Kind) then
    some false
  else
    bif (a.Value != b.Value) then
      some false
    else
      (laws_eqInt64S n a.From b.From).bind fun r1 =>
      bif (!r1) then
        some false
      else
        (laws_eqInt64S n a.Through b.Through).bind fun r2 =>
        bif (!r2) then
          some false
        else
          (laws_eqInt64S n a.To b.To).bind fun r3 =>
          bif (!r3) then
            some false
          else
            some true

theorem laws_eqException_ok {n : Nat} {w : World} {a : TException} {b : TException} {cs1 : List Value} (ha1 : GoT.R w (old w) a cs1) {cs2 : List Value} (ha2 : GoT.R w (old w) b cs2) {r : Bool} (hF : laws_eqException n a b = some r) : RetV Try.prog 12 [GoT.v TException cs1, GoT.v TException cs2] w r := by
  obtain ⟨p1, k1, p2, k2, p3, k3, rfl, s1, s2, s3⟩ := open_TException ha1
  obtain ⟨p4, k4, p5, k5, p6, k6, rfl, s4, s5, s6⟩ := open_TException ha2
  refine retV_of_run Try.func12 rfl (m := 33) rfl rfl (fun h => ?_)
  rw [laws_eqException] at hF
  refine r_seq ?_
  refine r_region ?_
  refine r_box h rfl rfl ?_
  intro w1 bb1 h
  refine r_box h rfl rfl ?_
  intro w2 bb2 h
  refine r_p tabOk rfl rfl ?_
  refine r_nil ?_
  refine r_seq ?_
  refine r_seq ?_
  refine r_region ?_
  refine r_p tabOk rfl rfl ?_
  refine r_v (v_ld tabOk (h.box 1 rfl) (j := 0) rfl rfl rfl) rfl ?_
  refine r_p tabOk rfl rfl ?_
  refine r_v (v_ld tabOk (h.box 0 rfl) (j := 0) rfl rfl rfl) rfl ?_
  refine r_p tabOk rfl rfl ?_
  refine r_nil ?_
  refine r_cond rfl (fun hc1 => ?_) (fun hc1 => ?_)
  · replace hF := bifT hc1 hF
    refine r_seq ?_
    refine r_region ?_
    refine r_p tabOk rfl rfl ?_
    refine r_nil ?_
    obtain rfl := someI hF
    exact r_retV tabOk (ρ := Bool) [_] h ⟨rfl, trivial⟩ (vs_bool _ _)
  · replace hF := bifF hc1 hF
    refine r_skip ?_
    refine r_seq ?_
    refine r_seq ?_
    refine r_region ?_
    refine r_p tabOk rfl rfl ?_
    refine r_v (v_ld tabOk (h.box 1 rfl) (j := 1) rfl rfl rfl) rfl ?_
    refine r_p tabOk rfl rfl ?_
    refine r_v (v_ld tabOk (h.box 0 rfl) (j := 1) rfl rfl rfl) rfl ?_
    refine r_p tabOk rfl rfl ?_
    refine r_nil ?_
    refine r_cond rfl (fun hc2 => ?_) (fun hc2 => ?_)
    · replace hF := bifT hc2 hF
      refine r_seq ?_
      refine r_region ?_
      refine r_p tabOk rfl rfl ?_
      refine r_nil ?_
      obtain rfl := someI hF
      exact r_retV tabOk (ρ := Bool) [_] h ⟨rfl, trivial⟩ (vs_bool _ _)
    · replace hF := bifF hc2 hF
      refine r_skip ?_
      refine r_seq ?_
      refine r_seq ?_
      refine r_region ?_
      refine r_p tabOk rfl rfl ?_
      refine r_v (v_ld tabOk (h.box 1 rfl) (j := 2) rfl rfl rfl) rfl ?_
      refine r_p tabOk rfl rfl ?_
      refine r_v (v_ld tabOk (h.box 0 rfl) (j := 2) rfl rfl rfl) rfl ?_
      obtain ⟨r1, hr1, hF⟩ := bindS hF
      refine r_callB r1 h call17 (laws_eqInt64S_ok ⟨_, _, rfl, (h.oldS s1)⟩ ⟨_, _, rfl, (h.oldS s4)⟩ hr1) rfl rfl rfl rfl ?_
      intro w3 h
      refine r_p tabOk rfl rfl ?_
      refine r_nil ?_
      refine r_cond rfl (fun hc3 => ?_) (fun hc3 => ?_)
      · replace hF := bifT hc3 hF
        refine r_seq ?_
        refine r_region ?_
        refine r_p tabOk rfl rfl ?_
        refine r_nil ?_
        obtain rfl := someI hF
        exact r_retV tabOk (ρ := Bool) [_] h ⟨rfl, trivial⟩ (vs_bool _ _)
      · replace hF := bifF hc3 hF
        refine r_skip ?_
        refine r_seq ?_
        refine r_seq ?_
        refine r_region ?_
        refine r_p tabOk rfl rfl ?_
        refine r_v (v_ld tabOk (h.box 1 rfl) (j := 3) rfl rfl rfl) rfl ?_
        refine r_p tabOk rfl rfl ?_
        refine r_v (v_ld tabOk (h.box 0 rfl) (j := 3) rfl rfl rfl) rfl ?_
        obtain ⟨r2, hr2, hF⟩ := bindS hF
        refine r_callB r2 h call17 (laws_eqInt64S_ok ⟨_, _, rfl, (h.oldS s2)⟩ ⟨_, _, rfl, (h.oldS s5)⟩ hr2) rfl rfl rfl rfl ?_
        intro w4 h
        refine r_p tabOk rfl rfl ?_
        refine r_nil ?_
        refine r_cond rfl (fun hc4 => ?_) (fun hc4 => ?_)
        · replace hF := bifT hc4 hF
          refine r_seq ?_
          refine r_region ?_
          refine r_p tabOk rfl rfl ?_
          refine r_nil ?_
          obtain rfl := someI hF
          exact r_retV tabOk (ρ := Bool) [_] h ⟨rfl, trivial⟩ (vs_bool _ _)
        · replace hF := bifF hc4 hF
          refine r_skip ?_
          refine r_seq ?_
          refine r_seq ?_
          refine r_region ?_
          refine r_p tabOk rfl rfl ?_
          refine r_v (v_ld tabOk (h.box 1 rfl) (j := 4) rfl rfl rfl) rfl ?_
          refine r_p tabOk rfl rfl ?_
          refine r_v (v_ld tabOk (h.box 0 rfl) (j := 4) rfl rfl rfl) rfl ?_
          obtain ⟨r3, hr3, hF⟩ := bindS hF
          refine r_callB r3 h call17 (laws_eqInt64S_ok ⟨_, _, rfl, (h.oldS s3)⟩ ⟨_, _, rfl, (h.oldS s6)⟩ hr3) rfl rfl rfl rfl ?_
          intro w5 h
          refine r_p tabOk rfl rfl ?_
          refine r_nil ?_
          refine r_cond rfl (fun hc5 => ?_) (fun hc5 => ?_)
          · replace hF := bifT hc5 hF
            refine r_seq ?_
            refine r_region ?_
            refine r_p tabOk rfl rfl ?_
            refine r_nil ?_
            obtain rfl := someI hF
            exact r_retV tabOk (ρ := Bool) [_] h ⟨rfl, trivial⟩ (vs_bool _ _)
          · replace hF := bifF hc5 hF
            refine r_skip ?_
            refine r_seq ?_
            refine r_region ?_
            refine r_p tabOk rfl rfl ?_
            refine r_nil ?_
            obtain rfl := someI hF
            exact r_retV tabOk (ρ := Bool) [_] h ⟨rfl, trivial⟩ (vs_bool _ _)

def laws_FnExactRankOf (n : Nat) (aE : TException) : Option Bool :=
  (laws_szException n aE 1048576).bind fun r1 =>
  bif decide (r1 < 0) then
    some true
  else
    (laws_toException n aE).bind fun r2 =>
    (spec_RankOf n r2).bind fun r3 =>
    (laws_toException n aE).bind fun r4 =>
    (impl_RankOf n r4).bind fun r5 =>
    bif (r5 != r3) then
      some false
    else
      (laws_toException n aE).bind fun r6 =>
      (laws_eqException n r4 r6).bind fun r7 =>
      bif (!r7) then
        some false
      else
        some true

theorem laws_FnExactRankOf_ok {n : Nat} {w : World} {aE : TException} {cs1 : List Value} (ha1 : GoT.R w (old w) aE cs1) {r : Bool} (hF : laws_FnExactRankOf n aE = some r) : RetV Try.prog 3 [GoT.v TException cs1] w r := by
  obtain ⟨p1, k1, p2, k2, p3, k3, rfl, s1, s2, s3⟩ := open_TException ha1
  refine retV_of_run Try.func3 rfl (m := 27) rfl rfl (fun h => ?_)
  rw [laws_FnExactRankOf] at hF
  refine r_seq ?_
  refine r_region ?_
  refine r_box h rfl rfl ?_
  intro w1 bb1 h
  refine r_p tabOk rfl rfl ?_
  refine r_nil ?_
  refine r_seq ?_
  refine r_region ?_
  refine r_p tabOk rfl rfl ?_
  refine r_nil ?_
  refine r_seq ?_
  refine r_region ?_
  refine r_v (v_ld tabOk (h.box 0 rfl) (j := 0) rfl rfl rfl) rfl ?_
  refine r_p tabOk rfl rfl ?_
  obtain ⟨r1, hr1, hF⟩ := bindS hF
  refine r_callI r1 h call8 (laws_szException_ok (h.old ha1) hr1) rfl rfl rfl rfl ?_
  intro w2 h
  refine r_p tabOk rfl rfl ?_
  refine r_nil ?_
  refine r_seq ?_
  refine r_seq ?_
  refine r_region ?_
  refine r_p tabOk rfl rfl ?_
  refine r_p tabOk rfl rfl ?_
  refine r_nil ?_
  refine r_cond rfl (fun hc1 => ?_) (fun hc1 => ?_)
  · replace hF := bifT hc1 hF
    refine r_seq ?_
    refine r_region ?_
    refine r_p tabOk rfl rfl ?_
    refine r_nil ?_
    obtain rfl := someI hF
    exact r_retV tabOk (ρ := Bool) [_] h ⟨rfl, trivial⟩ (vs_bool _ _)
  · replace hF := bifF hc1 hF
    refine r_skip ?_
    refine r_seq ?_
    refine r_region ?_
    refine r_v (v_ld tabOk (h.box 0 rfl) (j := 0) rfl rfl rfl) rfl ?_
    obtain ⟨r2, hr2, hF⟩ := bindS hF
    refine r_callO r2 h call10 (laws_toException_ok (h.old ha1) hr2) rfl rfl rfl rfl ?_
    intro w3 S1 cs2 h
    obtain ⟨p4, k4, p5, k5, p6, k6, rfl, -, -, -⟩ := open_TException (h.own 0 rfl)
    obtain ⟨r3, hr3, hF⟩ := bindS hF
    refine r_callI r3 h call9 (spec_RankOf_ok (h.own 0 rfl) hr3) rfl rfl rfl rfl ?_
    intro w4 h
    refine r_p tabOk rfl rfl ?_
    refine r_nil ?_
    refine r_seq ?_
    refine r_region ?_
    refine r_v (v_ld tabOk (h.box 1 rfl) (j := 0) rfl rfl rfl) rfl ?_
    obtain ⟨r4, hr4, hF⟩ := bindS hF
    refine r_callO r4 h call10 (laws_toException_ok (h.old ha1) hr4) rfl rfl rfl rfl ?_
    intro w5 S2 cs3 h
    obtain ⟨p7, k7, p8, k8, p9, k9, rfl, -, -, -⟩ := open_TException (h.own 0 rfl)
    refine r_alloc tabOk h rfl rfl rfl ?_
    intro w6 bb2 h
    refine r_stbox tabOk 0 h rfl rfl rfl rfl rfl rfl rfl ?_
    intro w7 h
    refine r_nil ?_
    refine r_seq ?_
    refine r_region ?_
    refine r_v (v_ld tabOk (h.box 0 rfl) (j := 0) rfl rfl rfl) rfl ?_
    obtain ⟨r5, hr5, hF⟩ := bindS hF
    refine r_callI r5 h call11 (impl_RankOf_ok (h.own 1 rfl) hr5) rfl rfl rfl rfl ?_
    intro w8 h
    refine r_p tabOk rfl rfl ?_
    refine r_nil ?_
    refine r_seq ?_
    refine r_seq ?_
    refine r_region ?_
    refine r_p tabOk rfl rfl ?_
    refine r_p tabOk rfl rfl ?_
    refine r_p tabOk rfl rfl ?_
    refine r_nil ?_
    refine r_cond rfl (fun hc2 => ?_) (fun hc2 => ?_)
    · replace hF := bifT hc2 hF
      refine r_seq ?_
      refine r_region ?_
      refine r_p tabOk rfl rfl ?_
      refine r_nil ?_
      obtain rfl := someI hF
      exact r_retV tabOk (ρ := Bool) [_] h ⟨rfl, trivial⟩ (vs_bool _ _)
    · replace hF := bifF hc2 hF
      refine r_skip ?_
      refine r_seq ?_
      refine r_seq ?_
      obtain ⟨r6, hr6, hF⟩ := bindS hF
      obtain ⟨r7, hr7, hF⟩ := bindS hF
      refine r_any [] (fun w' => SH w w' [Ch.box bb2 [.int .i64 r4.Kind, .int .i64 r4.Value, .slice p7 r4.From.length k7, .slice p8 r4.Through.length k8, .slice p9 r4.To.length k9] 27, Ch.box bb1 [.int .i64 aE.Kind, .int .i64 aE.Value, .slice p1 aE.From.length k1, .slice p2 aE.Through.length k2, .slice p3 aE.To.length k3] 24]) rfl 5 rfl #[false, false, false, false, false] (by kernel_rfl) (fun w11 hb => ?_)
      replace h := h.ext hb
      clear hb
      refine a_take 0 rfl #[true, false, false, false, false] (by kernel_rfl) (by kernel_rfl) (fun w' hw => v_ld tabOk (hw.box 0 rfl) (j := 0) rfl rfl rfl) (h.pick [0, 3] rfl) rfl ?_
      refine a_take 1 rfl #[true, true, false, false, false] (by kernel_rfl) (by kernel_rfl) (fun w' hw => v_ld tabOk (hw.box 1 rfl) (j := 0) rfl rfl rfl) (h.pick [0, 3] rfl) rfl ?_
      refine a_only 2 rfl #[true, true, true, false, false] (by kernel_rfl) (by kernel_rfl) ?_
      refine r_callO r6 h call10 (laws_toException_ok (h.old ha1) hr6) rfl rfl rfl rfl ?_
      intro w12 S4 cs5 h
      obtain ⟨p13, k13, p14, k14, p15, k15, rfl, -, -, -⟩ := open_TException (h.own 0 rfl)
      refine a_goal (fun _ => (h.pick [1, 4] rfl)) ?_
      refine a_only 3 rfl #[true, true, true, true, false] (by kernel_rfl) (by kernel_rfl) ?_
      refine r_callB r7 h call12 (laws_eqException_ok (h.own 2 rfl) (h.own 0 rfl) hr7) rfl rfl rfl rfl ?_
      intro w13 h
      refine a_goal (fun _ => (h.pick [1, 4] rfl)) ?_
      refine a_take 4 rfl #[true, true, true, true, true] (by kernel_rfl) (by kernel_rfl) (fun w' hw => v_p tabOk rfl w') (h.pick [1, 4] rfl) rfl ?_
      refine a_done (by kernel_rfl) ?_
      refine r_cond rfl (fun hc3 => ?_) (fun hc3 => ?_)
      · replace hF := bifT hc3 hF
        refine r_seq ?_
        refine r_region ?_
        refine r_p tabOk rfl rfl ?_
        refine r_nil ?_
        obtain rfl := someI hF
        exact r_retV tabOk (ρ := Bool) [_] h ⟨rfl, trivial⟩ (vs_bool _ _)
      · replace hF := bifF hc3 hF
        refine r_skip ?_
        refine r_seq ?_
        refine r_region ?_
        refine r_p tabOk rfl rfl ?_
        refine r_nil ?_
        obtain rfl := someI hF
        exact r_retV tabOk (ρ := Bool) [_] h ⟨rfl, trivial⟩ (vs_bool _ _)

end Go.Fw
