/- By a program of mine (gen.py): for each function a plain function and the proof that the code computes it. -/
import Derived.Test.YtlkocmcfefnolaaFw14
import Derived.Test.YtlkocmcfefnolaaChecked
namespace Go.Fw
open Go Go.Proofs
set_option maxRecDepth 100000
structure TLatch where
  Open : Int
  Close : Int
instance gt_TLatch : GoT TLatch := isoT (pairT instInt instInt) (fun x => (x.Open, x.Close)) ⟨0, 0⟩ rfl true (fun h => by cases h)
instance fl_TLatch : Flat TLatch := flat_iso (pairT instInt instInt) (fun x : TLatch => (x.Open, x.Close)) ⟨0, 0⟩ rfl true (fun h => by cases h) (flat_pair _ _ (inferInstanceAs (Flat Int)) (inferInstanceAs (Flat Int)))
theorem open_TLatch {w : World} {S : Nat → Prop} {x : TLatch} {cs : List Value} (h : GoT.R w S x cs) : cs = [.int .i64 x.Open, .int .i64 x.Close] := by
  obtain ⟨_, _, rfl, rfl, rfl⟩ := h
  exact rfl
theorem mkR_TLatch {w : World} {S : Nat → Prop} (x : TLatch) : GoT.R w S x [.int .i64 x.Open, .int .i64 x.Close] := ⟨[.int .i64 x.Open], [.int .i64 x.Close], rfl, rfl, rfl⟩
theorem po_TLatch {w0 w : World} {L : List Ch} (x : TLatch) {I0 I1 : List Nat} {c0 c1 : List Value} (h : SH w0 w L) (h0 : PO w L I0 x.Open c0) (h1 : PO w L I1 x.Close c1) (b0 : apartB I0 I1 = true) : PO w L (I0 ++ I1) x (c0 ++ c1) :=
  (po_pair h h0 h1 b0)

structure TLatchLink where
  From : Int
  To : Int
  Delay : Int
  Shift : Int
instance gt_TLatchLink : GoT TLatchLink := isoT (pairT instInt (pairT instInt (pairT instInt instInt))) (fun x => (x.From, x.To, x.Delay, x.Shift)) ⟨0, 0, 0, 0⟩ rfl true (fun h => by cases h)
instance fl_TLatchLink : Flat TLatchLink := flat_iso (pairT instInt (pairT instInt (pairT instInt instInt))) (fun x : TLatchLink => (x.From, x.To, x.Delay, x.Shift)) ⟨0, 0, 0, 0⟩ rfl true (fun h => by cases h) (flat_pair _ _ (inferInstanceAs (Flat Int)) (flat_pair _ _ (inferInstanceAs (Flat Int)) (flat_pair _ _ (inferInstanceAs (Flat Int)) (inferInstanceAs (Flat Int)))))
theorem open_TLatchLink {w : World} {S : Nat → Prop} {x : TLatchLink} {cs : List Value} (h : GoT.R w S x cs) : cs = [.int .i64 x.From, .int .i64 x.To, .int .i64 x.Delay, .int .i64 x.Shift] := by
  obtain ⟨_, _, rfl, rfl, ⟨_, _, rfl, rfl, ⟨_, _, rfl, rfl, rfl⟩⟩⟩ := h
  exact rfl
theorem mkR_TLatchLink {w : World} {S : Nat → Prop} (x : TLatchLink) : GoT.R w S x [.int .i64 x.From, .int .i64 x.To, .int .i64 x.Delay, .int .i64 x.Shift] := ⟨[.int .i64 x.From], [.int .i64 x.To, .int .i64 x.Delay, .int .i64 x.Shift], rfl, rfl, ⟨[.int .i64 x.To], [.int .i64 x.Delay, .int .i64 x.Shift], rfl, rfl, ⟨[.int .i64 x.Delay], [.int .i64 x.Shift], rfl, rfl, rfl⟩⟩⟩
theorem po_TLatchLink {w0 w : World} {L : List Ch} (x : TLatchLink) {I0 I1 I2 I3 : List Nat} {c0 c1 c2 c3 : List Value} (h : SH w0 w L) (h0 : PO w L I0 x.From c0) (h1 : PO w L I1 x.To c1) (h2 : PO w L I2 x.Delay c2) (h3 : PO w L I3 x.Shift c3) (b0 : apartB I0 (I1 ++ (I2 ++ I3)) = true) (b1 : apartB I1 (I2 ++ I3) = true) (b2 : apartB I2 I3 = true) : PO w L (I0 ++ (I1 ++ (I2 ++ I3))) x (c0 ++ (c1 ++ (c2 ++ c3))) :=
  (po_pair h h0 (po_pair h h1 (po_pair h h2 h3 b2) b1) b0)

structure TLatchSystem where
  Latches : (List TLatch)
  Links : (List TLatchLink)
instance gt_TLatchSystem : GoT TLatchSystem := isoT (pairT (@instList TLatch gt_TLatch) (@instList TLatchLink gt_TLatchLink)) (fun x => (x.Latches, x.Links)) ⟨[], []⟩ rfl true (fun h => by cases h)
theorem open_TLatchSystem {w : World} {S : Nat → Prop} {x : TLatchSystem} {cs : List Value} (h : GoT.R w S x cs) : ∃ p0 k0 p1 k1, cs = [.slice p0 (x.Latches).length k0, .slice p1 (x.Links).length k1] ∧ SlR w S x.Latches p0 k0 ∧ SlR w S x.Links p1 k1 := by
  obtain ⟨_, _, rfl, ⟨p0, k0, rfl, s0⟩, ⟨p1, k1, rfl, s1⟩⟩ := h
  exact ⟨p0, k0, p1, k1, rfl, s0, s1⟩
theorem mkR_TLatchSystem {w : World} {S : Nat → Prop} (x : TLatchSystem) {p0 : Option Addr} {k0 : Nat} {p1 : Option Addr} {k1 : Nat} (s0 : SlR w S x.Latches p0 k0) (s1 : SlR w S x.Links p1 k1) : GoT.R w S x [.slice p0 (x.Latches).length k0, .slice p1 (x.Links).length k1] := ⟨[.slice p0 (x.Latches).length k0], [.slice p1 (x.Links).length k1], rfl, ⟨p0, k0, rfl, s0⟩, ⟨p1, k1, rfl, s1⟩⟩
theorem prt_TLatchSystem {w : World} {S : Nat → Prop} {x : TLatchSystem} {p0 : Option Addr} {l0 k0 : Nat} {p1 : Option Addr} {l1 k1 : Nat} (h : GoT.R w S x [.slice p0 l0 k0, .slice p1 l1 k1]) : (SlR w S x.Latches p0 k0 ∧ l0 = (x.Latches).length) ∧ (SlR w S x.Links p1 k1 ∧ l1 = (x.Links).length) := by
  obtain ⟨q0, j0, q1, j1, he, s0, s1⟩ := open_TLatchSystem h
  cases he
  exact ⟨⟨s0, rfl⟩, ⟨s1, rfl⟩⟩
theorem split_TLatchSystem {w0 w : World} {L : List Ch} {S : Nat → Prop} {x : TLatchSystem} {p0 : Option Addr} {l0 k0 : Nat} {p1 : Option Addr} {l1 k1 : Nat} (h : SH w0 w (Ch.own S x [.slice p0 l0 k0, .slice p1 l1 k1] :: L)) : ∃ S0 S1, SH w0 w (Ch.own S1 x.Links [.slice p1 l1 k1] :: Ch.own S0 x.Latches [.slice p0 l0 k0] :: L) := by
  obtain ⟨hv, ho⟩ := h.headV
  replace ho : GoT.O w S x _ := ho
  obtain ⟨A0, B0, d0, e0, he, o0, ho, a0, b0⟩ := ho
  obtain ⟨q, m, rfl, s0⟩ := o0
  cases he
  replace hv := hv.push (c := Ch.own A0 x.Latches [_]) (S2 := B0) ⟨_, _, rfl, s0⟩ (fun _ hd => hd.elim) a0 b0
  obtain ⟨q, m, he, s1⟩ := ho
  cases he
  replace hv := hv.push (c := Ch.own B0 x.Links [_]) (S2 := (fun _ => False)) ⟨_, _, rfl, s1⟩ (fun _ hd => hd.elim) (fun b hb => ⟨hb, fun h => h⟩) (fun _ h => h.elim)
  exact ⟨A0, B0, hv.sh⟩
theorem po_TLatchSystem {w0 w : World} {L : List Ch} (x : TLatchSystem) {I0 I1 : List Nat} {c0 c1 : List Value} (h : SH w0 w L) (h0 : PO w L I0 x.Latches c0) (h1 : PO w L I1 x.Links c1) (b0 : apartB I0 I1 = true) : PO w L (I0 ++ I1) x (c0 ++ c1) :=
  (po_pair h h0 h1 b0)

def tab : Tab := [
  (2, ⟨.int .i64, 1, 8, some (.int .i64 0), []⟩),
  (4, ⟨.bool, 1, 1, some (.bool false), []⟩),
  (22, ⟨.slice 2, 1, 24, some (.slice none 0 0), []⟩),
  (31, ⟨.slice 78, 1, 24, some (.slice none 0 0), []⟩),
  (32, ⟨.slice 80, 1, 24, some (.slice none 0 0), []⟩),
  (34, ⟨.struct, 2, 48, some (.agg #[.slice none 0 0, .slice none 0 0]), [(0, 1, some false), (1, 1, some false)]⟩),
  (38, ⟨.slice 64, 1, 24, some (.slice none 0 0), []⟩),
  (39, ⟨.slice 76, 1, 24, some (.slice none 0 0), []⟩),
  (41, ⟨.struct, 2, 48, some (.agg #[.slice none 0 0, .slice none 0 0]), [(0, 1, some false), (1, 1, some false)]⟩),
  (64, ⟨.struct, 2, 16, some (.agg #[.int .i64 0, .int .i64 0]), [(0, 1, some false), (1, 1, some false)]⟩),
  (74, ⟨.slice 4, 1, 24, some (.slice none 0 0), []⟩),
  (76, ⟨.struct, 4, 32, some (.agg #[.int .i64 0, .int .i64 0, .int .i64 0, .int .i64 0]), [(0, 1, some false), (1, 1, some false), (2, 1, some false), (3, 1, some false)]⟩),
  (78, ⟨.struct, 2, 16, some (.agg #[.int .i64 0, .int .i64 0]), [(0, 1, some false), (1, 1, some false)]⟩),
  (80, ⟨.struct, 4, 32, some (.agg #[.int .i64 0, .int .i64 0, .int .i64 0, .int .i64 0]), [(0, 1, some false), (1, 1, some false), (2, 1, some false), (3, 1, some false)]⟩)]
theorem tabOk : TabOk Try.prog tab := TabOk.mk (by kernel_rfl)
theorem call13 : CallOk Try.prog 13 := ⟨_, Try.func13, rfl, by kernel_rfl⟩
theorem call15 : CallOk Try.prog 15 := ⟨_, Try.func15, rfl, by kernel_rfl⟩
theorem call18 : CallOk Try.prog 18 := ⟨_, Try.func18, rfl, by kernel_rfl⟩
theorem call25 : CallOk Try.prog 25 := ⟨_, Try.func25, rfl, by kernel_rfl⟩
theorem call26 : CallOk Try.prog 26 := ⟨_, Try.func26, rfl, by kernel_rfl⟩
theorem call27 : CallOk Try.prog 27 := ⟨_, Try.func27, rfl, by kernel_rfl⟩
theorem call30 : CallOk Try.prog 30 := ⟨_, Try.func30, rfl, by kernel_rfl⟩
theorem call31 : CallOk Try.prog 31 := ⟨_, Try.func31, rfl, by kernel_rfl⟩
theorem call33 : CallOk Try.prog 33 := ⟨_, Try.func33, rfl, by kernel_rfl⟩
theorem call34 : CallOk Try.prog 34 := ⟨_, Try.func34, rfl, by kernel_rfl⟩
theorem call35 : CallOk Try.prog 35 := ⟨_, Try.func35, rfl, by kernel_rfl⟩
theorem call36 : CallOk Try.prog 36 := ⟨_, Try.func36, rfl, by kernel_rfl⟩
theorem call37 : CallOk Try.prog 37 := ⟨_, Try.func37, rfl, by kernel_rfl⟩
theorem call38 : CallOk Try.prog 38 := ⟨_, Try.func38, rfl, by kernel_rfl⟩
theorem call41 : CallOk Try.prog 41 := ⟨_, Try.func41, rfl, by kernel_rfl⟩
theorem call42 : CallOk Try.prog 42 := ⟨_, Try.func42, rfl, by kernel_rfl⟩
theorem call43 : CallOk Try.prog 43 := ⟨_, Try.func43, rfl, by kernel_rfl⟩
theorem call44 : CallOk Try.prog 44 := ⟨_, Try.func44, rfl, by kernel_rfl⟩
theorem call45 : CallOk Try.prog 45 := ⟨_, Try.func45, rfl, by kernel_rfl⟩
theorem call46 : CallOk Try.prog 46 := ⟨_, Try.func46, rfl, by kernel_rfl⟩
theorem call47 : CallOk Try.prog 47 := ⟨_, Try.func47, rfl, by kernel_rfl⟩
theorem call48 : CallOk Try.prog 48 := ⟨_, Try.func48, rfl, by kernel_rfl⟩
theorem call49 : CallOk Try.prog 49 := ⟨_, Try.func49, rfl, by kernel_rfl⟩
theorem call50 : CallOk Try.prog 50 := ⟨_, Try.func50, rfl, by kernel_rfl⟩
theorem call51 : CallOk Try.prog 51 := ⟨_, Try.func51, rfl, by kernel_rfl⟩
theorem call52 : CallOk Try.prog 52 := ⟨_, Try.func52, rfl, by kernel_rfl⟩
theorem call53 : CallOk Try.prog 53 := ⟨_, Try.func53, rfl, by kernel_rfl⟩
theorem call54 : CallOk Try.prog 54 := ⟨_, Try.func54, rfl, by kernel_rfl⟩
theorem call55 : CallOk Try.prog 55 := ⟨_, Try.func55, rfl, by kernel_rfl⟩
theorem call56 : CallOk Try.prog 56 := ⟨_, Try.func56, rfl, by kernel_rfl⟩
theorem call57 : CallOk Try.prog 57 := ⟨_, Try.func57, rfl, by kernel_rfl⟩
theorem call58 : CallOk Try.prog 58 := ⟨_, Try.func58, rfl, by kernel_rfl⟩
theorem call59 : CallOk Try.prog 59 := ⟨_, Try.func59, rfl, by kernel_rfl⟩
theorem call60 : CallOk Try.prog 60 := ⟨_, Try.func60, rfl, by kernel_rfl⟩
theorem call61 : CallOk Try.prog 61 := ⟨_, Try.func61, rfl, by kernel_rfl⟩
theorem call62 : CallOk Try.prog 62 := ⟨_, Try.func62, rfl, by kernel_rfl⟩
theorem call63 : CallOk Try.prog 63 := ⟨_, Try.func63, rfl, by kernel_rfl⟩
theorem call64 : CallOk Try.prog 64 := ⟨_, Try.func64, rfl, by kernel_rfl⟩
theorem call65 : CallOk Try.prog 65 := ⟨_, Try.func65, rfl, by kernel_rfl⟩
theorem call66 : CallOk Try.prog 66 := ⟨_, Try.func66, rfl, by kernel_rfl⟩
theorem call67 : CallOk Try.prog 67 := ⟨_, Try.func67, rfl, by kernel_rfl⟩

def laws_szLatchS (_ : Nat) (a : (List TLatch)) (left : Int) : Option Int :=
  bif decide ((W64 (left - (a.length : Int))) < 0) then
    some (-1)
  else
    some (W64 (left - (a.length : Int)))

theorem laws_szLatchS_ok {n : Nat} {w : World} {a : (List TLatch)} {left : Int} {cs1 : List Value} (ha1 : GoT.R w (old w) a cs1) {r : Int} (hF : laws_szLatchS n a left = some r) : RetV Try.prog 30 [GoT.v (List TLatch) cs1, .int .i64 left] w r := by
  obtain ⟨p1, k1, rfl, s1⟩ := ha1
  refine retV_of_run Try.func30 rfl (m := 12) rfl rfl (fun h => ?_)
  rw [laws_szLatchS] at hF
  refine r_seq ?_
  refine r_region ?_
  refine r_p tabOk rfl rfl ?_
  refine r_nil ?_
  refine r_seq ?_
  refine r_region ?_
  refine r_p tabOk rfl rfl ?_
  refine r_p tabOk rfl rfl ?_
  refine r_p tabOk rfl rfl ?_
  refine r_p tabOk rfl rfl ?_
  refine r_p tabOk rfl rfl ?_
  refine r_nil ?_
  refine r_seq ?_
  refine r_seq ?_
  refine r_region ?_
  refine r_p tabOk rfl rfl ?_
  refine r_p tabOk rfl rfl ?_
  refine r_nil ?_
  refine r_cond rfl (fun hc1 => ?_) (fun hc1 => ?_)
  · replace hF := bifT hc1 hF
    refine r_seq ?_
    refine r_region ?_
    refine r_p tabOk rfl rfl ?_
    refine r_nil ?_
    obtain rfl := someI hF
    exact r_retV tabOk (ρ := Int) [_] h ⟨rfl, trivial⟩ (vs_int _ _)
  · replace hF := bifF hc1 hF
    refine r_skip ?_
    refine r_seq ?_
    refine r_region ?_
    refine r_p tabOk rfl rfl ?_
    refine r_p tabOk rfl rfl ?_
    refine r_nil ?_
    obtain rfl := someI hF
    exact r_retV tabOk (ρ := Int) [_] h ⟨rfl, trivial⟩ (vs_int _ _)

def laws_szLatchLinkS (_ : Nat) (a : (List TLatchLink)) (left : Int) : Option Int :=
  bif decide ((W64 (left - (a.length : Int))) < 0) then
    some (-1)
  else
    some (W64 (left - (a.length : Int)))

theorem laws_szLatchLinkS_ok {n : Nat} {w : World} {a : (List TLatchLink)} {left : Int} {cs1 : List Value} (ha1 : GoT.R w (old w) a cs1) {r : Int} (hF : laws_szLatchLinkS n a left = some r) : RetV Try.prog 31 [GoT.v (List TLatchLink) cs1, .int .i64 left] w r := by
  obtain ⟨p1, k1, rfl, s1⟩ := ha1
  refine retV_of_run Try.func31 rfl (m := 12) rfl rfl (fun h => ?_)
  rw [laws_szLatchLinkS] at hF
  refine r_seq ?_
  refine r_region ?_
  refine r_p tabOk rfl rfl ?_
  refine r_nil ?_
  refine r_seq ?_
  refine r_region ?_
  refine r_p tabOk rfl rfl ?_
  refine r_p tabOk rfl rfl ?_
  refine r_p tabOk rfl rfl ?_
  refine r_p tabOk rfl rfl ?_
  refine r_p tabOk rfl rfl ?_
  refine r_nil ?_
  refine r_seq ?_
  refine r_seq ?_
  refine r_region ?_
  refine r_p tabOk rfl rfl ?_
  refine r_p tabOk rfl rfl ?_
  refine r_nil ?_
  refine r_cond rfl (fun hc1 => ?_) (fun hc1 => ?_)
  · replace hF := bifT hc1 hF
    refine r_seq ?_
    refine r_region ?_
    refine r_p tabOk rfl rfl ?_
    refine r_nil ?_
    obtain rfl := someI hF
    exact r_retV tabOk (ρ := Int) [_] h ⟨rfl, trivial⟩ (vs_int _ _)
  · replace hF := bifF hc1 hF
    refine r_skip ?_
    refine r_seq ?_
    refine r_region ?_
    refine r_p tabOk rfl rfl ?_
    refine r_p tabOk rfl rfl ?_
    refine r_nil ?_
    obtain rfl := someI hF
    exact r_retV tabOk (ρ := Int) [_] h ⟨rfl, trivial⟩ (vs_int _ _)

def laws_szLatchSystem (n : Nat) (a : TLatchSystem) (left : Int) : Option Int :=
  (laws_szLatchS n a.Latches left).bind fun r1 =>
  bif decide (r1 < 0) then
    some (-1)
  else
    (laws_szLatchLinkS n a.Links r1).bind fun r2 =>
    bif decide (r2 < 0) then
      some (-1)
    else
      some r2

theorem laws_szLatchSystem_ok {n : Nat} {w : World} {a : TLatchSystem} {left : Int} {cs1 : List Value} (ha1 : GoT.R w (old w) a cs1) {r : Int} (hF : laws_szLatchSystem n a left = some r) : RetV Try.prog 13 [GoT.v TLatchSystem cs1, .int .i64 left] w r := by
  obtain ⟨p1, k1, p2, k2, rfl, s1, s2⟩ := open_TLatchSystem ha1
  refine retV_of_run Try.func13 rfl (m := 18) rfl rfl (fun h => ?_)
  rw [laws_szLatchSystem] at hF
  refine r_seq ?_
  refine r_region ?_
  refine r_box h rfl rfl ?_
  intro w1 bb1 h
  refine r_p tabOk rfl rfl ?_
  refine r_nil ?_
  refine r_seq ?_
  refine r_region ?_
  refine r_p tabOk rfl rfl ?_
  refine r_v (v_ld tabOk (h.box 0 rfl) (j := 0) rfl rfl rfl) rfl ?_
  refine r_p tabOk rfl rfl ?_
  obtain ⟨r1, hr1, hF⟩ := bindS hF
  refine r_callI r1 h call30 (laws_szLatchS_ok ⟨_, _, rfl, (h.oldS s1)⟩ hr1) rfl rfl rfl rfl ?_
  intro w2 h
  refine r_p tabOk rfl rfl ?_
  refine r_nil ?_
  refine r_seq ?_
  refine r_seq ?_
  refine r_region ?_
  refine r_p tabOk rfl rfl ?_
  refine r_p tabOk rfl rfl ?_
  refine r_nil ?_
  refine r_cond rfl (fun hc1 => ?_) (fun hc1 => ?_)
  · replace hF := bifT hc1 hF
    refine r_seq ?_
    refine r_region ?_
    refine r_p tabOk rfl rfl ?_
    refine r_nil ?_
    obtain rfl := someI hF
    exact r_retV tabOk (ρ := Int) [_] h ⟨rfl, trivial⟩ (vs_int _ _)
  · replace hF := bifF hc1 hF
    refine r_skip ?_
    refine r_seq ?_
    refine r_region ?_
    refine r_p tabOk rfl rfl ?_
    refine r_v (v_ld tabOk (h.box 0 rfl) (j := 1) rfl rfl rfl) rfl ?_
    refine r_p tabOk rfl rfl ?_
    obtain ⟨r2, hr2, hF⟩ := bindS hF
    refine r_callI r2 h call31 (laws_szLatchLinkS_ok ⟨_, _, rfl, (h.oldS s2)⟩ hr2) rfl rfl rfl rfl ?_
    intro w3 h
    refine r_p tabOk rfl rfl ?_
    refine r_nil ?_
    refine r_seq ?_
    refine r_seq ?_
    refine r_region ?_
    refine r_p tabOk rfl rfl ?_
    refine r_p tabOk rfl rfl ?_
    refine r_nil ?_
    refine r_cond rfl (fun hc2 => ?_) (fun hc2 => ?_)
    · replace hF := bifT hc2 hF
      refine r_seq ?_
      refine r_region ?_
      refine r_p tabOk rfl rfl ?_
      refine r_nil ?_
      obtain rfl := someI hF
      exact r_retV tabOk (ρ := Int) [_] h ⟨rfl, trivial⟩ (vs_int _ _)
    · replace hF := bifF hc2 hF
      refine r_skip ?_
      refine r_seq ?_
      refine r_region ?_
      refine r_p tabOk rfl rfl ?_
      refine r_p tabOk rfl rfl ?_
      refine r_nil ?_
      obtain rfl := someI hF
      exact r_retV tabOk (ρ := Int) [_] h ⟨rfl, trivial⟩ (vs_int _ _)

def laws_toLatch (_ : Nat) (a : TLatch) : Option TLatch :=
  some (⟨a.Open, a.Close⟩ : TLatch)

theorem laws_toLatch_ok {n : Nat} {w : World} {a : TLatch} {cs1 : List Value} (ha1 : GoT.R w (old w) a cs1) {r : TLatch} (hF : laws_toLatch n a = some r) : RetV Try.prog 52 [GoT.v TLatch cs1] w r := by
  obtain rfl := open_TLatch ha1
  refine retV_of_run Try.func52 rfl (m := 11) rfl rfl (fun h => ?_)
  rw [laws_toLatch] at hF
  refine r_seq ?_
  refine r_region ?_
  refine r_box h rfl rfl ?_
  intro w1 bb1 h
  refine r_alloc tabOk h rfl rfl rfl ?_
  intro w2 bb2 h
  refine r_nil ?_
  refine r_seq ?_
  refine r_region ?_
  refine r_alloc tabOk h rfl rfl rfl ?_
  intro w3 bb3 h
  refine r_nil ?_
  refine r_seq ?_
  refine r_region ?_
  refine r_p tabOk rfl rfl ?_
  refine r_v (v_ld tabOk (h.box 2 rfl) (j := 0) rfl rfl rfl) rfl ?_
  refine r_p tabOk rfl rfl ?_
  refine r_stbox tabOk 0 h rfl rfl rfl rfl rfl rfl rfl ?_
  intro w4 h
  refine r_nil ?_
  refine r_seq ?_
  refine r_region ?_
  refine r_p tabOk rfl rfl ?_
  refine r_v (v_ld tabOk (h.box 2 rfl) (j := 1) rfl rfl rfl) rfl ?_
  refine r_p tabOk rfl rfl ?_
  refine r_stbox tabOk 0 h rfl rfl rfl rfl rfl rfl rfl ?_
  intro w5 h
  refine r_nil ?_
  refine r_seq ?_
  refine r_region ?_
  refine r_v (v_ld tabOk (h.box 0 rfl) (j := 0) rfl rfl rfl) rfl ?_
  refine r_stbox tabOk 1 h rfl rfl rfl rfl rfl rfl rfl ?_
  intro w6 h
  refine r_nil ?_
  obtain rfl := someI hF
  exact r_retV tabOk (ρ := TLatch) [GoT.v TLatch [.int .i64 a.Open, .int .i64 a.Close]] h ⟨⟨_, _, _, rfl, rfl, h.box 1 rfl, rfl⟩, trivial⟩ (PV.done h (pv_one (po_flat (S := fun _ => False) (mkR_TLatch (⟨a.Open, a.Close⟩ : TLatch)))))

def laws_toLatchS_L1 (a : (List TLatch)) : Nat → (List TLatch) → Int → Option ((List TLatch) × Int)
  | 0, _, _ => none
  | n + 1, x2, i1 =>
    bif decide (i1 < (a.length : Int)) then
      (idx a i1).bind fun y1 =>
      (laws_toLatch n y1).bind fun r1 =>
      (idx x2 i1).bind fun _ =>
      laws_toLatchS_L1 a n (setS x2 i1 r1) (W64 (i1 + 1))
    else
      some (x2, i1)

def laws_toLatchS (n : Nat) (a : (List TLatch)) : Option (List TLatch) :=
  (mkS (a.length : Int) ((⟨0, 0⟩ : TLatch) : TLatch)).bind fun x1 =>
  (laws_toLatchS_L1 a n x1 0).bind fun o => match o with
  | (x2, _) =>
    some x2

theorem laws_toLatchS_ok {n : Nat} {w : World} {a : (List TLatch)} {cs1 : List Value} (ha1 : GoT.R w (old w) a cs1) {r : (List TLatch)} (hF : laws_toLatchS n a = some r) : RetV Try.prog 34 [GoT.v (List TLatch) cs1] w r := by
  obtain ⟨p1, k1, rfl, s1⟩ := ha1
  refine retV_of_run Try.func34 rfl (m := 23) rfl rfl (fun h => ?_)
  rw [laws_toLatchS] at hF
  refine r_seq ?_
  refine r_region ?_
  refine r_p tabOk rfl rfl ?_
  refine r_nil ?_
  refine r_seq ?_
  refine r_region ?_
  refine r_p tabOk rfl rfl ?_
  refine r_p tabOk rfl rfl ?_
  obtain ⟨x1, hx1, hF⟩ := bindS hF
  obtain ⟨g1, g2, hx1⟩ := mkS_some hx1
  refine r_make tabOk TLatch h rfl rfl rfl rfl rfl rfl rfl rfl rfl g1 g2 rfl ?_
  intro w1 S1 p2 h
  replace hx1 : List.replicate _ GoT.zero = x1 := hx1
  rw [hx1] at h
  refine r_p tabOk rfl rfl ?_
  refine r_nil ?_
  refine r_seq ?_
  refine r_seq ?_
  refine r_region ?_
  refine r_p tabOk rfl rfl ?_
  refine r_nil ?_
  obtain ⟨o1, hF, hK1⟩ := bindS hF
  refine r_block ?_
  refine r_sub [(0, _), (3, _), (4, _)] ⟨rfl, rfl, rfl, trivial⟩ ?_
  refine r_loop (fun m e w' => ∃ (x2 : (List TLatch)) (i1 : Int), laws_toLatchS_L1 a m x2 i1 = some o1 ∧ e = [(0, .slice p1 a.length k1), (3, .slice p2 ((a.length : Int).toNat) ((a.length : Int).toNat)), (4, .int .i64 i1)] ∧ SH w w' [Ch.own S1 (x2 : List TLatch) [.slice p2 ((a.length : Int).toNat) ((a.length : Int).toNat)]]) n ⟨_, _, hF, rfl, h⟩ ?_
  rintro m1 e1 w2 ⟨x2, i1, hF, rfl, h⟩
  rcases m1 with _ | m1
  · rw [laws_toLatchS_L1] at hF
    cases hF
  rw [laws_toLatchS_L1] at hF
  refine r_seq ?_
  refine r_seq ?_
  refine r_region ?_
  refine r_p tabOk rfl rfl ?_
  refine r_p tabOk rfl rfl ?_
  refine r_p tabOk rfl rfl ?_
  refine r_p tabOk rfl rfl ?_
  refine r_nil ?_
  refine r_cond rfl (fun hc1 => ?_) (fun hc1 => ?_)
  · replace hF := bifT hc1 hF
    refine r_skip ?_
    refine r_seq ?_
    refine r_block ?_
    refine r_region ?_
    refine r_p tabOk rfl rfl ?_
    refine r_p tabOk rfl rfl ?_
    refine r_p tabOk rfl rfl ?_
    refine r_p tabOk rfl rfl ?_
    obtain ⟨y1, hy1, hF⟩ := bindS hF
    have he1 := idx_some hy1
    obtain ⟨b1, o_1, q1, cs2, hp1, hq1, -, hr1, hc2⟩ := s1.at hy1
    obtain rfl := open_TLatch hr1
    refine r_v (v_ix tabOk hp1 hq1 ⟨he1.1, he1.2.1⟩ rfl rfl rfl rfl rfl rfl) rfl ?_
    refine r_v (v_ld tabOk (hc2.below h.below) (j := 0) rfl rfl rfl) rfl ?_
    obtain ⟨r1, hr2, hF⟩ := bindS hF
    refine r_callO r1 h call52 (laws_toLatch_ok (mkR_TLatch y1) hr2) rfl rfl rfl rfl ?_
    intro w3 S2 cs3 h
    obtain rfl := open_TLatch (h.own 0 rfl)
    obtain ⟨y2, hy2, hF⟩ := bindS hF
    have he2 := idx_some hy2
    obtain ⟨b2, o_2, q2, cs4, hp2, hq2, -, hr3, hc3⟩ := (h.sl 1 rfl).1.at hy2
    obtain rfl := open_TLatch hr3
    refine r_v (v_ix tabOk hp2 hq2 ⟨he2.1, lt_ln he2.2.1 (h.sl 1 rfl).2⟩ rfl rfl rfl rfl rfl rfl) rfl ?_
    refine r_stown tabOk 1 0 r1 h rfl hy2 hp2 hq2 (mkR_TLatch y2) hc3 rfl rfl rfl (mkR_TLatch r1) rfl rfl rfl ?_
    intro w4 h
    refine r_nil ?_
    refine r_blk ?_
    refine r_region ?_
    refine r_p tabOk rfl rfl ?_
    refine r_p tabOk rfl rfl ?_
    refine r_p tabOk rfl rfl ?_
    refine r_nil ?_
    replace h := h.pick [1] rfl
    exact r_back m1 [(0, _), (3, _), (4, _)] (Nat.lt_succ_self m1) ⟨rfl, rfl, rfl, trivial⟩ ⟨_, _, hF, rfl, h⟩
  · replace hF := bifF hc1 hF
    refine r_exit rfl ?_
    obtain rfl := someI hF; replace hF := hK1
    refine r_seq ?_
    refine r_region ?_
    refine r_p tabOk rfl rfl ?_
    refine r_p tabOk rfl rfl ?_
    refine r_nil ?_
    obtain rfl := someI hF
    exact r_retV tabOk (ρ := (List TLatch)) [GoT.v (List TLatch) [.slice p2 ((a.length : Int).toNat) ((a.length : Int).toNat)]] h ⟨rfl, trivial⟩ (PV.done h (pv_one (po_own 0 h rfl)))

def laws_toLatchLink (_ : Nat) (a : TLatchLink) : Option TLatchLink :=
  some (⟨a.From, a.To, a.Delay, a.Shift⟩ : TLatchLink)

theorem laws_toLatchLink_ok {n : Nat} {w : World} {a : TLatchLink} {cs1 : List Value} (ha1 : GoT.R w (old w) a cs1) {r : TLatchLink} (hF : laws_toLatchLink n a = some r) : RetV Try.prog 53 [GoT.v TLatchLink cs1] w r := by
  obtain rfl := open_TLatchLink ha1
  refine retV_of_run Try.func53 rfl (m := 17) rfl rfl (fun h => ?_)
  rw [laws_toLatchLink] at hF
  refine r_seq ?_
  refine r_region ?_
  refine r_box h rfl rfl ?_
  intro w1 bb1 h
  refine r_alloc tabOk h rfl rfl rfl ?_
  intro w2 bb2 h
  refine r_nil ?_
  refine r_seq ?_
  refine r_region ?_
  refine r_alloc tabOk h rfl rfl rfl ?_
  intro w3 bb3 h
  refine r_nil ?_
  refine r_seq ?_
  refine r_region ?_
  refine r_p tabOk rfl rfl ?_
  refine r_v (v_ld tabOk (h.box 2 rfl) (j := 0) rfl rfl rfl) rfl ?_
  refine r_p tabOk rfl rfl ?_
  refine r_stbox tabOk 0 h rfl rfl rfl rfl rfl rfl rfl ?_
  intro w4 h
  refine r_nil ?_
  refine r_seq ?_
  refine r_region ?_
  refine r_p tabOk rfl rfl ?_
  refine r_v (v_ld tabOk (h.box 2 rfl) (j := 1) rfl rfl rfl) rfl ?_
  refine r_p tabOk rfl rfl ?_
  refine r_stbox tabOk 0 h rfl rfl rfl rfl rfl rfl rfl ?_
  intro w5 h
  refine r_nil ?_
  refine r_seq ?_
  refine r_region ?_
  refine r_p tabOk rfl rfl ?_
  refine r_v (v_ld tabOk (h.box 2 rfl) (j := 2) rfl rfl rfl) rfl ?_
  refine r_p tabOk rfl rfl ?_
  refine r_stbox tabOk 0 h rfl rfl rfl rfl rfl rfl rfl ?_
  intro w6 h
  refine r_nil ?_
  refine r_seq ?_
  refine r_region ?_
  refine r_p tabOk rfl rfl ?_
  refine r_v (v_ld tabOk (h.box 2 rfl) (j := 3) rfl rfl rfl) rfl ?_
  refine r_p tabOk rfl rfl ?_
  refine r_stbox tabOk 0 h rfl rfl rfl rfl rfl rfl rfl ?_
  intro w7 h
  refine r_nil ?_
  refine r_seq ?_
  refine r_region ?_
  refine r_v (v_ld tabOk (h.box 0 rfl) (j := 0) rfl rfl rfl) rfl ?_
  refine r_stbox tabOk 1 h rfl rfl rfl rfl rfl rfl rfl ?_
  intro w8 h
  refine r_nil ?_
  obtain rfl := someI hF
  exact r_retV tabOk (ρ := TLatchLink) [GoT.v TLatchLink [.int .i64 a.From, .int .i64 a.To, .int .i64 a.Delay, .int .i64 a.Shift]] h ⟨⟨_, _, _, rfl, rfl, h.box 1 rfl, rfl⟩, trivial⟩ (PV.done h (pv_one (po_flat (S := fun _ => False) (mkR_TLatchLink (⟨a.From, a.To, a.Delay, a.Shift⟩ : TLatchLink)))))

def laws_toLatchLinkS_L1 (a : (List TLatchLink)) : Nat → (List TLatchLink) → Int → Option ((List TLatchLink) × Int)
  | 0, _, _ => none
  | n + 1, x2, i1 =>
    bif decide (i1 < (a.length : Int)) then
      (idx a i1).bind fun y1 =>
      (laws_toLatchLink n y1).bind fun r1 =>
      (idx x2 i1).bind fun _ =>
      laws_toLatchLinkS_L1 a n (setS x2 i1 r1) (W64 (i1 + 1))
    else
      some (x2, i1)

def laws_toLatchLinkS (n : Nat) (a : (List TLatchLink)) : Option (List TLatchLink) :=
  (mkS (a.length : Int) ((⟨0, 0, 0, 0⟩ : TLatchLink) : TLatchLink)).bind fun x1 =>
  (laws_toLatchLinkS_L1 a n x1 0).bind fun o => match o with
  | (x2, _) =>
    some x2

theorem laws_toLatchLinkS_ok {n : Nat} {w : World} {a : (List TLatchLink)} {cs1 : List Value} (ha1 : GoT.R w (old w) a cs1) {r : (List TLatchLink)} (hF : laws_toLatchLinkS n a = some r) : RetV Try.prog 35 [GoT.v (List TLatchLink) cs1] w r := by
  obtain ⟨p1, k1, rfl, s1⟩ := ha1
  refine retV_of_run Try.func35 rfl (m := 23) rfl rfl (fun h => ?_)
  rw [laws_toLatchLinkS] at hF
  refine r_seq ?_
  refine r_region ?_
  refine r_p tabOk rfl rfl ?_
  refine r_nil ?_
  refine r_seq ?_
  refine r_region ?_
  refine r_p tabOk rfl rfl ?_
  refine r_p tabOk rfl rfl ?_
  obtain ⟨x1, hx1, hF⟩ := bindS hF
  obtain ⟨g1, g2, hx1⟩ := mkS_some hx1
  refine r_make tabOk TLatchLink h rfl rfl rfl rfl rfl rfl rfl rfl rfl g1 g2 rfl ?_
  intro w1 S1 p2 h
  replace hx1 : List.replicate _ GoT.zero = x1 := hx1
  rw [hx1] at h
  refine r_p tabOk rfl rfl ?_
  refine r_nil ?_
  refine r_seq ?_
  refine r_seq ?_
  refine r_region ?_
  refine r_p tabOk rfl rfl ?_
  refine r_nil ?_
  obtain ⟨o1, hF, hK1⟩ := bindS hF
  refine r_block ?_
  refine r_sub [(0, _), (3, _), (4, _)] ⟨rfl, rfl, rfl, trivial⟩ ?_
  refine r_loop (fun m e w' => ∃ (x2 : (List TLatchLink)) (i1 : Int), laws_toLatchLinkS_L1 a m x2 i1 = some o1 ∧ e = [(0, .slice p1 a.length k1), (3, .slice p2 ((a.length : Int).toNat) ((a.length : Int).toNat)), (4, .int .i64 i1)] ∧ SH w w' [Ch.own S1 (x2 : List TLatchLink) [.slice p2 ((a.length : Int).toNat) ((a.length : Int).toNat)]]) n ⟨_, _, hF, rfl, h⟩ ?_
  rintro m1 e1 w2 ⟨x2, i1, hF, rfl, h⟩
  rcases m1 with _ | m1
  · rw [laws_toLatchLinkS_L1] at hF
    cases hF
  rw [laws_toLatchLinkS_L1] at hF
  refine r_seq ?_
  refine r_seq ?_
  refine r_region ?_
  refine r_p tabOk rfl rfl ?_
  refine r_p tabOk rfl rfl ?_
  refine r_p tabOk rfl rfl ?_
  refine r_p tabOk rfl rfl ?_
  refine r_nil ?_
  refine r_cond rfl (fun hc1 => ?_) (fun hc1 => ?_)
  · replace hF := bifT hc1 hF
    refine r_skip ?_
    refine r_seq ?_
    refine r_block ?_
    refine r_region ?_
    refine r_p tabOk rfl rfl ?_
    refine r_p tabOk rfl rfl ?_
    refine r_p tabOk rfl rfl ?_
    refine r_p tabOk rfl rfl ?_
    obtain ⟨y1, hy1, hF⟩ := bindS hF
    have he1 := idx_some hy1
    obtain ⟨b1, o_1, q1, cs2, hp1, hq1, -, hr1, hc2⟩ := s1.at hy1
    obtain rfl := open_TLatchLink hr1
    refine r_v (v_ix tabOk hp1 hq1 ⟨he1.1, he1.2.1⟩ rfl rfl rfl rfl rfl rfl) rfl ?_
    refine r_v (v_ld tabOk (hc2.below h.below) (j := 0) rfl rfl rfl) rfl ?_
    obtain ⟨r1, hr2, hF⟩ := bindS hF
    refine r_callO r1 h call53 (laws_toLatchLink_ok (mkR_TLatchLink y1) hr2) rfl rfl rfl rfl ?_
    intro w3 S2 cs3 h
    obtain rfl := open_TLatchLink (h.own 0 rfl)
    obtain ⟨y2, hy2, hF⟩ := bindS hF
    have he2 := idx_some hy2
    obtain ⟨b2, o_2, q2, cs4, hp2, hq2, -, hr3, hc3⟩ := (h.sl 1 rfl).1.at hy2
    obtain rfl := open_TLatchLink hr3
    refine r_v (v_ix tabOk hp2 hq2 ⟨he2.1, lt_ln he2.2.1 (h.sl 1 rfl).2⟩ rfl rfl rfl rfl rfl rfl) rfl ?_
    refine r_stown tabOk 1 0 r1 h rfl hy2 hp2 hq2 (mkR_TLatchLink y2) hc3 rfl rfl rfl (mkR_TLatchLink r1) rfl rfl rfl ?_
    intro w4 h
    refine r_nil ?_
    refine r_blk ?_
    refine r_region ?_
    refine r_p tabOk rfl rfl ?_
    refine r_p tabOk rfl rfl ?_
    refine r_p tabOk rfl rfl ?_
    refine r_nil ?_
    replace h := h.pick [1] rfl
    exact r_back m1 [(0, _), (3, _), (4, _)] (Nat.lt_succ_self m1) ⟨rfl, rfl, rfl, trivial⟩ ⟨_, _, hF, rfl, h⟩
  · replace hF := bifF hc1 hF
    refine r_exit rfl ?_
    obtain rfl := someI hF; replace hF := hK1
    refine r_seq ?_
    refine r_region ?_
    refine r_p tabOk rfl rfl ?_
    refine r_p tabOk rfl rfl ?_
    refine r_nil ?_
    obtain rfl := someI hF
    exact r_retV tabOk (ρ := (List TLatchLink)) [GoT.v (List TLatchLink) [.slice p2 ((a.length : Int).toNat) ((a.length : Int).toNat)]] h ⟨rfl, trivial⟩ (PV.done h (pv_one (po_own 0 h rfl)))

def laws_toLatchSystem (n : Nat) (a : TLatchSystem) : Option TLatchSystem :=
  (laws_toLatchS n a.Latches).bind fun r1 =>
  (laws_toLatchLinkS n a.Links).bind fun r2 =>
  some (⟨r1, r2⟩ : TLatchSystem)

theorem laws_toLatchSystem_ok {n : Nat} {w : World} {a : TLatchSystem} {cs1 : List Value} (ha1 : GoT.R w (old w) a cs1) {r : TLatchSystem} (hF : laws_toLatchSystem n a = some r) : RetV Try.prog 15 [GoT.v TLatchSystem cs1] w r := by
  obtain ⟨p1, k1, p2, k2, rfl, s1, s2⟩ := open_TLatchSystem ha1
  refine retV_of_run Try.func15 rfl (m := 13) rfl rfl (fun h => ?_)
  rw [laws_toLatchSystem] at hF
  refine r_seq ?_
  refine r_region ?_
  refine r_box h rfl rfl ?_
  intro w1 bb1 h
  refine r_alloc tabOk h rfl rfl rfl ?_
  intro w2 bb2 h
  refine r_nil ?_
  refine r_seq ?_
  refine r_region ?_
  refine r_alloc tabOk h rfl rfl rfl ?_
  intro w3 bb3 h
  refine r_nil ?_
  refine r_seq ?_
  refine r_region ?_
  refine r_p tabOk rfl rfl ?_
  refine r_v (v_ld tabOk (h.box 2 rfl) (j := 0) rfl rfl rfl) rfl ?_
  obtain ⟨r1, hr1, hF⟩ := bindS hF
  refine r_callL r1 h call34 (laws_toLatchS_ok ⟨_, _, rfl, (h.oldS s1)⟩ hr1) rfl rfl rfl rfl ?_
  intro w4 S1 p3 k3 h
  refine r_p tabOk rfl rfl ?_
  refine r_stbox tabOk 1 h rfl rfl rfl rfl rfl rfl rfl ?_
  intro w5 h
  refine r_nil ?_
  refine r_seq ?_
  refine r_region ?_
  refine r_p tabOk rfl rfl ?_
  refine r_v (v_ld tabOk (h.box 3 rfl) (j := 1) rfl rfl rfl) rfl ?_
  obtain ⟨r2, hr2, hF⟩ := bindS hF
  refine r_callL r2 h call35 (laws_toLatchLinkS_ok ⟨_, _, rfl, (h.oldS s2)⟩ hr2) rfl rfl rfl rfl ?_
  intro w6 S2 p4 k4 h
  refine r_p tabOk rfl rfl ?_
  refine r_stbox tabOk 2 h rfl rfl rfl rfl rfl rfl rfl ?_
  intro w7 h
  refine r_nil ?_
  refine r_seq ?_
  refine r_region ?_
  refine r_v (v_ld tabOk (h.box 2 rfl) (j := 0) rfl rfl rfl) rfl ?_
  refine r_stbox tabOk 3 h rfl rfl rfl rfl rfl rfl rfl ?_
  intro w8 h
  refine r_nil ?_
  obtain rfl := someI hF
  exact r_retV tabOk (ρ := TLatchSystem) [GoT.v TLatchSystem [.slice p3 r1.length k3, .slice p4 r2.length k4]] h ⟨⟨_, _, _, rfl, rfl, h.box 3 rfl, rfl⟩, trivial⟩ (PV.done h (pv_one (po_TLatchSystem (⟨r1, r2⟩ : TLatchSystem) h (po_own 1 h rfl) (po_own 0 h rfl) (by rfl))))

def laws_eqLatch (_ : Nat) (a : TLatch) (b : TLatch) : Option Bool :=
  bif (a.Open != b.Open) then
    some false
  else
    bif (a.Close != b.Close) then
      some false
    else
      some true

theorem laws_eqLatch_ok {n : Nat} {w : World} {a : TLatch} {b : TLatch} {cs1 : List Value} (ha1 : GoT.R w (old w) a cs1) {cs2 : List Value} (ha2 : GoT.R w (old w) b cs2) {r : Bool} (hF : laws_eqLatch n a b = some r) : RetV Try.prog 56 [GoT.v TLatch cs1, GoT.v TLatch cs2] w r := by
  obtain rfl := open_TLatch ha1
  obtain rfl := open_TLatch ha2
  refine retV_of_run Try.func56 rfl (m := 15) rfl rfl (fun h => ?_)
  rw [laws_eqLatch] at hF
  refine r_seq ?_
  refine r_region ?_
  refine r_box h rfl rfl ?_
  intro w1 bb1 h
  refine r_box h rfl rfl ?_
  intro w2 bb2 h
  refine r_p tabOk rfl rfl ?_
  refine r_nil ?_
  refine r_seq ?_
  refine r_seq ?_
  refine r_region ?_
  refine r_p tabOk rfl rfl ?_
  refine r_v (v_ld tabOk (h.box 1 rfl) (j := 0) rfl rfl rfl) rfl ?_
  refine r_p tabOk rfl rfl ?_
  refine r_v (v_ld tabOk (h.box 0 rfl) (j := 0) rfl rfl rfl) rfl ?_
  refine r_p tabOk rfl rfl ?_
  refine r_nil ?_
  refine r_cond rfl (fun hc1 => ?_) (fun hc1 => ?_)
  · replace hF := bifT hc1 hF
    refine r_seq ?_
    refine r_region ?_
    refine r_p tabOk rfl rfl ?_
    refine r_nil ?_
    obtain rfl := someI hF
    exact r_retV tabOk (ρ := Bool) [_] h ⟨rfl, trivial⟩ (vs_bool _ _)
  · replace hF := bifF hc1 hF
    refine r_skip ?_
    refine r_seq ?_
    refine r_seq ?_
    refine r_region ?_
    refine r_p tabOk rfl rfl ?_
    refine r_v (v_ld tabOk (h.box 1 rfl) (j := 1) rfl rfl rfl) rfl ?_
    refine r_p tabOk rfl rfl ?_
    refine r_v (v_ld tabOk (h.box 0 rfl) (j := 1) rfl rfl rfl) rfl ?_
    refine r_p tabOk rfl rfl ?_
    refine r_nil ?_
    refine r_cond rfl (fun hc2 => ?_) (fun hc2 => ?_)
    · replace hF := bifT hc2 hF
      refine r_seq ?_
      refine r_region ?_
      refine r_p tabOk rfl rfl ?_
      refine r_nil ?_
      obtain rfl := someI hF
      exact r_retV tabOk (ρ := Bool) [_] h ⟨rfl, trivial⟩ (vs_bool _ _)
    · replace hF := bifF hc2 hF
      refine r_skip ?_
      refine r_seq ?_
      refine r_region ?_
      refine r_p tabOk rfl rfl ?_
      refine r_nil ?_
      obtain rfl := someI hF
      exact r_retV tabOk (ρ := Bool) [_] h ⟨rfl, trivial⟩ (vs_bool _ _)

def laws_eqLatchS_L1 (a : (List TLatch)) (b : (List TLatch)) : Nat → Int → Option (Flow Bool Int)
  | 0, _ => none
  | n + 1, i1 =>
    bif decide (i1 < (a.length : Int)) then
      (idx a i1).bind fun y1 =>
      (idx b i1).bind fun y2 =>
      (laws_eqLatch n y1 y2).bind fun r1 =>
      bif (!r1) then
        some (.ret false)
      else
        laws_eqLatchS_L1 a b n (W64 (i1 + 1))
    else
      some (.nxt i1)

def laws_eqLatchS (n : Nat) (a : (List TLatch)) (b : (List TLatch)) : Option Bool :=
  bif ((a.length : Int) != (b.length : Int)) then
    some false
  else
    (laws_eqLatchS_L1 a b n 0).bind fun o => match o with
    | .ret r => some r
    | .nxt _ =>
      some true

theorem laws_eqLatchS_ok {n : Nat} {w : World} {a : (List TLatch)} {b : (List TLatch)} {cs1 : List Value} (ha1 : GoT.R w (old w) a cs1) {cs2 : List Value} (ha2 : GoT.R w (old w) b cs2) {r : Bool} (hF : laws_eqLatchS n a b = some r) : RetV Try.prog 37 [GoT.v (List TLatch) cs1, GoT.v (List TLatch) cs2] w r := by
  obtain ⟨p1, k1, rfl, s1⟩ := ha1
  obtain ⟨p2, k2, rfl, s2⟩ := ha2
  refine retV_of_run Try.func37 rfl (m := 27) rfl rfl (fun h => ?_)
  rw [laws_eqLatchS] at hF
  refine r_seq ?_
  refine r_region ?_
  refine r_p tabOk rfl rfl ?_
  refine r_nil ?_
  refine r_seq ?_
  refine r_seq ?_
  refine r_region ?_
  refine r_p tabOk rfl rfl ?_
  refine r_p tabOk rfl rfl ?_
  refine r_p tabOk rfl rfl ?_
  refine r_p tabOk rfl rfl ?_
  refine r_p tabOk rfl rfl ?_
  refine r_nil ?_
  refine r_cond rfl (fun hc1 => ?_) (fun hc1 => ?_)
  · replace hF := bifT hc1 hF
    refine r_seq ?_
    refine r_region ?_
    refine r_p tabOk rfl rfl ?_
    refine r_nil ?_
    obtain rfl := someI hF
    exact r_retV tabOk (ρ := Bool) [_] h ⟨rfl, trivial⟩ (vs_bool _ _)
  · replace hF := bifF hc1 hF
    refine r_skip ?_
    refine r_seq ?_
    refine r_seq ?_
    refine r_region ?_
    refine r_p tabOk rfl rfl ?_
    refine r_nil ?_
    obtain ⟨o1, hF, hK1⟩ := bindS hF
    refine r_block ?_
    refine r_sub [(0, _), (1, _), (5, _)] ⟨rfl, rfl, rfl, trivial⟩ ?_
    refine r_loop (fun m e w' => ∃ (i1 : Int), laws_eqLatchS_L1 a b m i1 = some o1 ∧ e = [(0, .slice p1 a.length k1), (1, .slice p2 b.length k2), (5, .int .i64 i1)] ∧ SH w w' []) n ⟨_, hF, rfl, h⟩ ?_
    rintro m1 e1 w1 ⟨i1, hF, rfl, h⟩
    rcases m1 with _ | m1
    · rw [laws_eqLatchS_L1] at hF
      cases hF
    rw [laws_eqLatchS_L1] at hF
    refine r_seq ?_
    refine r_seq ?_
    refine r_region ?_
    refine r_p tabOk rfl rfl ?_
    refine r_p tabOk rfl rfl ?_
    refine r_p tabOk rfl rfl ?_
    refine r_p tabOk rfl rfl ?_
    refine r_nil ?_
    refine r_cond rfl (fun hc2 => ?_) (fun hc2 => ?_)
    · replace hF := bifT hc2 hF
      refine r_skip ?_
      refine r_seq ?_
      refine r_block ?_
      refine r_seq ?_
      refine r_draw rfl (by kernel_rfl) ?_
      refine d_p tabOk rfl rfl ?_
      refine d_p tabOk rfl rfl ?_
      obtain ⟨y1, hy1, hF⟩ := bindS hF
      have he1 := idx_some hy1
      obtain ⟨b1, o_1, q1, cs3, hp1, hq1, -, hr1, hc3⟩ := s1.at hy1
      obtain rfl := open_TLatch hr1
      refine d_v (fun _ hb => v_ix tabOk hp1 hq1 ⟨he1.1, he1.2.1⟩ rfl rfl rfl rfl rfl rfl) rfl ?_
      refine d_v (fun _ hb => v_ld tabOk ((hc3.below h.below).below hb) (j := 0) rfl rfl rfl) rfl ?_
      refine d_p tabOk rfl rfl ?_
      refine d_p tabOk rfl rfl ?_
      obtain ⟨y2, hy2, hF⟩ := bindS hF
      have he2 := idx_some hy2
      obtain ⟨b2, o_2, q2, cs4, hp2, hq2, -, hr2, hc4⟩ := s2.at hy2
      obtain rfl := open_TLatch hr2
      refine d_v (fun _ hb => v_ix tabOk hp2 hq2 ⟨he2.1, he2.2.1⟩ rfl rfl rfl rfl rfl rfl) rfl ?_
      refine d_v (fun _ hb => v_ld tabOk ((hc4.below h.below).below hb) (j := 0) rfl rfl rfl) rfl ?_
      obtain ⟨r1, hr3, hF⟩ := bindS hF
      refine d_call r1 (vsB _) call56 (fun _ hb => laws_eqLatch_ok (mkR_TLatch y1) (mkR_TLatch y2) hr3) rfl rfl rfl rfl ?_
      refine d_p tabOk rfl rfl ?_
      refine d_nil (fun w2 hb => ?_)
      replace h := h.ext hb
      clear hb
      refine r_cond rfl (fun hc5 => ?_) (fun hc5 => ?_)
      · replace hF := bifT hc5 hF
        refine r_seq ?_
        refine r_region ?_
        refine r_p tabOk rfl rfl ?_
        refine r_nil ?_
        obtain rfl := someI hF; replace hF := hK1
        obtain rfl := someI hF
        exact r_retV tabOk (ρ := Bool) [_] h ⟨rfl, trivial⟩ (vs_bool _ _)
      · replace hF := bifF hc5 hF
        refine r_skip ?_
        refine r_blk ?_
        refine r_region ?_
        refine r_p tabOk rfl rfl ?_
        refine r_p tabOk rfl rfl ?_
        refine r_p tabOk rfl rfl ?_
        refine r_nil ?_
        exact r_back m1 [(0, _), (1, _), (5, _)] (Nat.lt_succ_self m1) ⟨rfl, rfl, rfl, trivial⟩ ⟨_, hF, rfl, h⟩
    · replace hF := bifF hc2 hF
      refine r_exit rfl ?_
      obtain rfl := someI hF; replace hF := hK1
      refine r_seq ?_
      refine r_region ?_
      refine r_p tabOk rfl rfl ?_
      refine r_nil ?_
      obtain rfl := someI hF
      exact r_retV tabOk (ρ := Bool) [_] h ⟨rfl, trivial⟩ (vs_bool _ _)

def laws_eqLatchLink (_ : Nat) (a : TLatchLink) (b : TLatchLink) : Option Bool :=
  bif (a.From != b.From) then
    some false
  else
    bif (a.To != b.To) then
      some false
    else
      bif (a.Delay != b.Delay) then
        some false
      else
        bif (a.Shift != b.Shift) then
          some false
        else
          some true

theorem laws_eqLatchLink_ok {n : Nat} {w : World} {a : TLatchLink} {b : TLatchLink} {cs1 : List Value} (ha1 : GoT.R w (old w) a cs1) {cs2 : List Value} (ha2 : GoT.R w (old w) b cs2) {r : Bool} (hF : laws_eqLatchLink n a b = some r) : RetV Try.prog 57 [GoT.v TLatchLink cs1, GoT.v TLatchLink cs2] w r := by
  obtain rfl := open_TLatchLink ha1
  obtain rfl := open_TLatchLink ha2
  refine retV_of_run Try.func57 rfl (m := 25) rfl rfl (fun h => ?_)
  rw [laws_eqLatchLink] at hF
  refine r_seq ?_
  refine r_region ?_
  refine r_box h rfl rfl ?_
  intro w1 bb1 h
  refine r_box h rfl rfl ?_
  intro w2 bb2 h
  refine r_p tabOk rfl rfl ?_
  refine r_nil ?_
  refine r_seq ?_
  refine r_seq ?_
  refine r_region ?_
  refine r_p tabOk rfl rfl ?_
  refine r_v (v_ld tabOk (h.box 1 rfl) (j := 0) rfl rfl rfl) rfl ?_
  refine r_p tabOk rfl rfl ?_
  refine r_v (v_ld tabOk (h.box 0 rfl) (j := 0) rfl rfl rfl) rfl ?_
  refine r_p tabOk rfl rfl ?_
  refine r_nil ?_
  refine r_cond rfl (fun hc1 => ?_) (fun hc1 => ?_)
  · replace hF := bifT hc1 hF
    refine r_seq ?_
    refine r_region ?_
    refine r_p tabOk rfl rfl ?_
    refine r_nil ?_
    obtain rfl := someI hF
    exact r_retV tabOk (ρ := Bool) [_] h ⟨rfl, trivial⟩ (vs_bool _ _)
  · replace hF := bifF hc1 hF
    refine r_skip ?_
    refine r_seq ?_
    refine r_seq ?_
    refine r_region ?_
    refine r_p tabOk rfl rfl ?_
    refine r_v (v_ld tabOk (h.box 1 rfl) (j := 1) rfl rfl rfl) rfl ?_
    refine r_p tabOk rfl rfl ?_
    refine r_v (v_ld tabOk (h.box 0 rfl) (j := 1) rfl rfl rfl) rfl ?_
    refine r_p tabOk rfl rfl ?_
    refine r_nil ?_
    refine r_cond rfl (fun hc2 => ?_) (fun hc2 => ?_)
    · replace hF := bifT hc2 hF
      refine r_seq ?_
      refine r_region ?_
      refine r_p tabOk rfl rfl ?_
      refine r_nil ?_
      obtain rfl := someI hF
      exact r_retV tabOk (ρ := Bool) [_] h ⟨rfl, trivial⟩ (vs_bool _ _)
    · replace hF := bifF hc2 hF
      refine r_skip ?_
      refine r_seq ?_
      refine r_seq ?_
      refine r_region ?_
      refine r_p tabOk rfl rfl ?_
      refine r_v (v_ld tabOk (h.box 1 rfl) (j := 2) rfl rfl rfl) rfl ?_
      refine r_p tabOk rfl rfl ?_
      refine r_v (v_ld tabOk (h.box 0 rfl) (j := 2) rfl rfl rfl) rfl ?_
      refine r_p tabOk rfl rfl ?_
      refine r_nil ?_
      refine r_cond rfl (fun hc3 => ?_) (fun hc3 => ?_)
      · replace hF := bifT hc3 hF
        refine r_seq ?_
        refine r_region ?_
        refine r_p tabOk rfl rfl ?_
        refine r_nil ?_
        obtain rfl := someI hF
        exact r_retV tabOk (ρ := Bool) [_] h ⟨rfl, trivial⟩ (vs_bool _ _)
      · replace hF := bifF hc3 hF
        refine r_skip ?_
        refine r_seq ?_
        refine r_seq ?_
        refine r_region ?_
        refine r_p tabOk rfl rfl ?_
        refine r_v (v_ld tabOk (h.box 1 rfl) (j := 3) rfl rfl rfl) rfl ?_
        refine r_p tabOk rfl rfl ?_
        refine r_v (v_ld tabOk (h.box 0 rfl) (j := 3) rfl rfl rfl) rfl ?_
        refine r_p tabOk rfl rfl ?_
        refine r_nil ?_
        refine r_cond rfl (fun hc4 => ?_) (fun hc4 => ?_)
        · replace hF := bifT hc4 hF
          refine r_seq ?_
          refine r_region ?_
          refine r_p tabOk rfl rfl ?_
          refine r_nil ?_
          obtain rfl := someI hF
          exact r_retV tabOk (ρ := Bool) [_] h ⟨rfl, trivial⟩ (vs_bool _ _)
        · replace hF := bifF hc4 hF
          refine r_skip ?_
          refine r_seq ?_
          refine r_region ?_
          refine r_p tabOk rfl rfl ?_
          refine r_nil ?_
          obtain rfl := someI hF
          exact r_retV tabOk (ρ := Bool) [_] h ⟨rfl, trivial⟩ (vs_bool _ _)

def laws_eqLatchLinkS_L1 (a : (List TLatchLink)) (b : (List TLatchLink)) : Nat → Int → Option (Flow Bool Int)
  | 0, _ => none
  | n + 1, i1 =>
    bif decide (i1 < (a.length : Int)) then
      (idx a i1).bind fun y1 =>
      (idx b i1).bind fun y2 =>
      (laws_eqLatchLink n y1 y2).bind fun r1 =>
      bif (!r1) then
        some (.ret false)
      else
        laws_eqLatchLinkS_L1 a b n (W64 (i1 + 1))
    else
      some (.nxt i1)

def laws_eqLatchLinkS (n : Nat) (a : (List TLatchLink)) (b : (List TLatchLink)) : Option Bool :=
  bif ((a.length : Int) != (b.length : Int)) then
    some false
  else
    (laws_eqLatchLinkS_L1 a b n 0).bind fun o => match o with
    | .ret r => some r
    | .nxt _ =>
      some true

theorem laws_eqLatchLinkS_ok {n : Nat} {w : World} {a : (List TLatchLink)} {b : (List TLatchLink)} {cs1 : List Value} (ha1 : GoT.R w (old w) a cs1) {cs2 : List Value} (ha2 : GoT.R w (old w) b cs2) {r : Bool} (hF : laws_eqLatchLinkS n a b = some r) : RetV Try.prog 38 [GoT.v (List TLatchLink) cs1, GoT.v (List TLatchLink) cs2] w r := by
  obtain ⟨p1, k1, rfl, s1⟩ := ha1
  obtain ⟨p2, k2, rfl, s2⟩ := ha2
  refine retV_of_run Try.func38 rfl (m := 27) rfl rfl (fun h => ?_)
  rw [laws_eqLatchLinkS] at hF
  refine r_seq ?_
  refine r_region ?_
  refine r_p tabOk rfl rfl ?_
  refine r_nil ?_
  refine r_seq ?_
  refine r_seq ?_
  refine r_region ?_
  refine r_p tabOk rfl rfl ?_
  refine r_p tabOk rfl rfl ?_
  refine r_p tabOk rfl rfl ?_
  refine r_p tabOk rfl rfl ?_
  refine r_p tabOk rfl rfl ?_
  refine r_nil ?_
  refine r_cond rfl (fun hc1 => ?_) (fun hc1 => ?_)
  · replace hF := bifT hc1 hF
    refine r_seq ?_
    refine r_region ?_
    refine r_p tabOk rfl rfl ?_
    refine r_nil ?_
    obtain rfl := someI hF
    exact r_retV tabOk (ρ := Bool) [_] h ⟨rfl, trivial⟩ (vs_bool _ _)
  · replace hF := bifF hc1 hF
    refine r_skip ?_
    refine r_seq ?_
    refine r_seq ?_
    refine r_region ?_
    refine r_p tabOk rfl rfl ?_
    refine r_nil ?_
    obtain ⟨o1, hF, hK1⟩ := bindS hF
    refine r_block ?_
    refine r_sub [(0, _), (1, _), (5, _)] ⟨rfl, rfl, rfl, trivial⟩ ?_
    refine r_loop (fun m e w' => ∃ (i1 : Int), laws_eqLatchLinkS_L1 a b m i1 = some o1 ∧ e = [(0, .slice p1 a.length k1), (1, .slice p2 b.length k2), (5, .int .i64 i1)] ∧ SH w w' []) n ⟨_, hF, rfl, h⟩ ?_
    rintro m1 e1 w1 ⟨i1, hF, rfl, h⟩
    rcases m1 with _ | m1
    · rw [laws_eqLatchLinkS_L1] at hF
      cases hF
    rw [laws_eqLatchLinkS_L1] at hF
    refine r_seq ?_
    refine r_seq ?_
    refine r_region ?_
    refine r_p tabOk rfl rfl ?_
    refine r_p tabOk rfl rfl ?_
    refine r_p tabOk rfl rfl ?_
    refine r_p tabOk rfl rfl ?_
    refine r_nil ?_
    refine r_cond rfl (fun hc2 => ?_) (fun hc2 => ?_)
    · replace hF := bifT hc2 hF
      refine r_skip ?_
      refine r_seq ?_
      refine r_block ?_
      refine r_seq ?_
      refine r_draw rfl (by kernel_rfl) ?_
      refine d_p tabOk rfl rfl ?_
      refine d_p tabOk rfl rfl ?_
      obtain ⟨y1, hy1, hF⟩ := bindS hF
      have he1 := idx_some hy1
      obtain ⟨b1, o_1, q1, cs3, hp1, hq1, -, hr1, hc3⟩ := s1.at hy1
      obtain rfl := open_TLatchLink hr1
      refine d_v (fun _ hb => v_ix tabOk hp1 hq1 ⟨he1.1, he1.2.1⟩ rfl rfl rfl rfl rfl rfl) rfl ?_
      refine d_v (fun _ hb => v_ld tabOk ((hc3.below h.below).below hb) (j := 0) rfl rfl rfl) rfl ?_
      refine d_p tabOk rfl rfl ?_
      refine d_p tabOk rfl rfl ?_
      obtain ⟨y2, hy2, hF⟩ := bindS hF
      have he2 := idx_some hy2
      obtain ⟨b2, o_2, q2, cs4, hp2, hq2, -, hr2, hc4⟩ := s2.at hy2
      obtain rfl := open_TLatchLink hr2
      refine d_v (fun _ hb => v_ix tabOk hp2 hq2 ⟨he2.1, he2.2.1⟩ rfl rfl rfl rfl rfl rfl) rfl ?_
      refine d_v (fun _ hb => v_ld tabOk ((hc4.below h.below).below hb) (j := 0) rfl rfl rfl) rfl ?_
      obtain ⟨r1, hr3, hF⟩ := bindS hF
      refine d_call r1 (vsB _) call57 (fun _ hb => laws_eqLatchLink_ok (mkR_TLatchLink y1) (mkR_TLatchLink y2) hr3) rfl rfl rfl rfl ?_
      refine d_p tabOk rfl rfl ?_
      refine d_nil (fun w2 hb => ?_)
      replace h := h.ext hb
      clear hb
      refine r_cond rfl (fun hc5 => ?_) (fun hc5 => ?_)
      · replace hF := bifT hc5 hF
        refine r_seq ?_
        refine r_region ?_
        refine r_p tabOk rfl rfl ?_
        refine r_nil ?_
        obtain rfl := someI hF; replace hF := hK1
        obtain rfl := someI hF
        exact r_retV tabOk (ρ := Bool) [_] h ⟨rfl, trivial⟩ (vs_bool _ _)
      · replace hF := bifF hc5 hF
        refine r_skip ?_
        refine r_blk ?_
        refine r_region ?_
        refine r_p tabOk rfl rfl ?_
        refine r_p tabOk rfl rfl ?_
        refine r_p tabOk rfl rfl ?_
        refine r_nil ?_
        exact r_back m1 [(0, _), (1, _), (5, _)] (Nat.lt_succ_self m1) ⟨rfl, rfl, rfl, trivial⟩ ⟨_, hF, rfl, h⟩
    · replace hF := bifF hc2 hF
      refine r_exit rfl ?_
      obtain rfl := someI hF; replace hF := hK1
      refine r_seq ?_
      refine r_region ?_
      refine r_p tabOk rfl rfl ?_
      refine r_nil ?_
      obtain rfl := someI hF
      exact r_retV tabOk (ρ := Bool) [_] h ⟨rfl, trivial⟩ (vs_bool _ _)

def laws_eqLatchSystem (n : Nat) (a : TLatchSystem) (b : TLatchSystem) : Option Bool :=
  (laws_eqLatchS n a.Latches b.Latches).bind fun r1 =>
  bif (!r1) then
    some false
  else
    (laws_eqLatchLinkS n a.Links b.Links).bind fun r2 =>
    bif (!r2) then
      some false
    else
      some true

theorem laws_eqLatchSystem_ok {n : Nat} {w : World} {a : TLatchSystem} {b : TLatchSystem} {cs1 : List Value} (ha1 : GoT.R w (old w) a cs1) {cs2 : List Value} (ha2 : GoT.R w (old w) b cs2) {r : Bool} (hF : laws_eqLatchSystem n a b = some r) : RetV Try.prog 18 [GoT.v TLatchSystem cs1, GoT.v TLatchSystem cs2] w r := by
  obtain ⟨p1, k1, p2, k2, rfl, s1, s2⟩ := open_TLatchSystem ha1
  obtain ⟨p3, k3, p4, k4, rfl, s3, s4⟩ := open_TLatchSystem ha2
  refine retV_of_run Try.func18 rfl (m := 17) rfl rfl (fun h => ?_)
  rw [laws_eqLatchSystem] at hF
  refine r_seq ?_
  refine r_region ?_
  refine r_box h rfl rfl ?_
  intro w1 bb1 h
  refine r_box h rfl rfl ?_
  intro w2 bb2 h
  refine r_p tabOk rfl rfl ?_
  refine r_nil ?_
  refine r_seq ?_
  refine r_seq ?_
  refine r_region ?_
  refine r_p tabOk rfl rfl ?_
  refine r_v (v_ld tabOk (h.box 1 rfl) (j := 0) rfl rfl rfl) rfl ?_
  refine r_p tabOk rfl rfl ?_
  refine r_v (v_ld tabOk (h.box 0 rfl) (j := 0) rfl rfl rfl) rfl ?_
  obtain ⟨r1, hr1, hF⟩ := bindS hF
  refine r_callB r1 h call37 (laws_eqLatchS_ok ⟨_, _, rfl, (h.oldS s1)⟩ ⟨_, _, rfl, (h.oldS s3)⟩ hr1) rfl rfl rfl rfl ?_
  intro w3 h
  refine r_p tabOk rfl rfl ?_
  refine r_nil ?_
  refine r_cond rfl (fun hc1 => ?_) (fun hc1 => ?_)
  · replace hF := bifT hc1 hF
    refine r_seq ?_
    refine r_region ?_
    refine r_p tabOk rfl rfl ?_
    refine r_nil ?_
    obtain rfl := someI hF
    exact r_retV tabOk (ρ := Bool) [_] h ⟨rfl, trivial⟩ (vs_bool _ _)
  · replace hF := bifF hc1 hF
    refine r_skip ?_
    refine r_seq ?_
    refine r_seq ?_
    refine r_region ?_
    refine r_p tabOk rfl rfl ?_
    refine r_v (v_ld tabOk (h.box 1 rfl) (j := 1) rfl rfl rfl) rfl ?_
    refine r_p tabOk rfl rfl ?_
    refine r_v (v_ld tabOk (h.box 0 rfl) (j := 1) rfl rfl rfl) rfl ?_
    obtain ⟨r2, hr2, hF⟩ := bindS hF
    refine r_callB r2 h call38 (laws_eqLatchLinkS_ok ⟨_, _, rfl, (h.oldS s2)⟩ ⟨_, _, rfl, (h.oldS s4)⟩ hr2) rfl rfl rfl rfl ?_
    intro w4 h
    refine r_p tabOk rfl rfl ?_
    refine r_nil ?_
    refine r_cond rfl (fun hc2 => ?_) (fun hc2 => ?_)
    · replace hF := bifT hc2 hF
      refine r_seq ?_
      refine r_region ?_
      refine r_p tabOk rfl rfl ?_
      refine r_nil ?_
      obtain rfl := someI hF
      exact r_retV tabOk (ρ := Bool) [_] h ⟨rfl, trivial⟩ (vs_bool _ _)
    · replace hF := bifF hc2 hF
      refine r_skip ?_
      refine r_seq ?_
      refine r_region ?_
      refine r_p tabOk rfl rfl ?_
      refine r_nil ?_
      obtain rfl := someI hF
      exact r_retV tabOk (ρ := Bool) [_] h ⟨rfl, trivial⟩ (vs_bool _ _)

def spec_l01In (_ : Nat) (a_n : Int) (low : Int) (high : Int) : Option Bool :=
  bif decide (a_n ≥ low) then
    some (decide (a_n ≤ high))
  else
    some false

theorem spec_l01In_ok {n : Nat} {w : World} {a_n : Int} {low : Int} {high : Int}  {r : Bool} (hF : spec_l01In n a_n low high = some r) : RetV Try.prog 58 [.int .i64 a_n, .int .i64 low, .int .i64 high] w r := by
  refine retV_of_run Try.func58 rfl (m := 15) rfl rfl (fun h => ?_)
  rw [spec_l01In] at hF
  refine r_seq ?_
  refine r_region ?_
  refine r_p tabOk rfl rfl ?_
  refine r_nil ?_
  refine r_seq ?_
  refine r_region ?_
  refine r_p tabOk rfl rfl ?_
  refine r_p tabOk rfl rfl ?_
  refine r_p tabOk rfl rfl ?_
  refine r_p tabOk rfl rfl ?_
  by_cases hc1 : (decide (a_n ≥ low)) = true
  · replace hF := bifT hc1 hF
    refine r_setT hc1 (t := 10) rfl ?_
    refine r_wanted rfl ?_
    refine r_p tabOk rfl rfl ?_
    refine r_wanted rfl ?_
    refine r_p tabOk rfl rfl ?_
    refine r_wanted rfl ?_
    refine r_p tabOk rfl rfl ?_
    refine r_p tabOk rfl rfl ?_
    refine r_p tabOk rfl rfl ?_
    refine r_nil ?_
    obtain rfl := someI hF
    exact r_retV tabOk (ρ := Bool) [_] h ⟨rfl, trivial⟩ (vs_bool _ _)
  · replace hc1 := Bool.eq_false_iff.2 hc1
    replace hF := bifF hc1 hF
    refine r_setF hc1 (t := 10) rfl ?_
    refine r_unwanted rfl ?_ (fun _ hd => by cases hd; rfl)
    refine r_unwanted rfl ?_ (fun _ hd => by cases hd; rfl)
    refine r_unwanted rfl ?_ (fun _ hd => by cases hd; rfl)
    refine r_p tabOk rfl rfl ?_
    refine r_p tabOk rfl rfl ?_
    refine r_nil ?_
    obtain rfl := someI hF
    exact r_retV tabOk (ρ := Bool) [_] h ⟨rfl, trivial⟩ (vs_bool _ _)

def spec_IsLatchSystem_L2 (a_0 : TLatchSystem) : Nat → Int → Option (Flow Bool Int)
  | 0, _ => none
  | n + 1, i2 =>
    bif decide (i2 < (a_0.Links.length : Int)) then
      (idx a_0.Links i2).bind fun y2 =>
      (spec_l01In n y2.From 0 (W64 ((a_0.Latches.length : Int) - 1))).bind fun r3 =>
      bif (!r3) then
        some (.ret false)
      else
        (spec_l01In n y2.To 0 (W64 ((a_0.Latches.length : Int) - 1))).bind fun r4 =>
        bif (!r4) then
          some (.ret false)
        else
          (spec_l01In n y2.Delay 0 100000).bind fun r5 =>
          bif (!r5) then
            some (.ret false)
          else
            (spec_l01In n y2.Shift 0 100000).bind fun r6 =>
            bif (!r6) then
              some (.ret false)
            else
              spec_IsLatchSystem_L2 a_0 n (W64 (i2 + 1))
    else
      some (.nxt i2)

def spec_IsLatchSystem_L1 (a_0 : TLatchSystem) : Nat → Int → Option (Flow Bool Int)
  | 0, _ => none
  | n + 1, i1 =>
    bif decide (i1 < (a_0.Latches.length : Int)) then
      (idx a_0.Latches i1).bind fun y1 =>
      (spec_l01In n y1.Open 0 100000).bind fun r1 =>
      bif (!r1) then
        some (.ret false)
      else
        (spec_l01In n y1.Close y1.Open 100000).bind fun r2 =>
        bif (!r2) then
          some (.ret false)
        else
          spec_IsLatchSystem_L1 a_0 n (W64 (i1 + 1))
    else
      some (.nxt i1)

def spec_IsLatchSystem (n : Nat) (a_0 : TLatchSystem) : Option Bool :=
  (spec_IsLatchSystem_L1 a_0 n 0).bind fun o => match o with
  | .ret r => some r
  | .nxt _ =>
    (spec_IsLatchSystem_L2 a_0 n 0).bind fun o => match o with
    | .ret r => some r
    | .nxt _ =>
      bif decide ((a_0.Latches.length : Int) ≤ 12) then
        some (decide ((a_0.Links.length : Int) ≤ 60))
      else
        some false

theorem spec_IsLatchSystem_ok {n : Nat} {w : World} {a_0 : TLatchSystem} {cs1 : List Value} (ha1 : GoT.R w (old w) a_0 cs1) {r : Bool} (hF : spec_IsLatchSystem n a_0 = some r) : RetV Try.prog 42 [GoT.v TLatchSystem cs1] w r := by
  obtain ⟨p1, k1, p2, k2, rfl, s1, s2⟩ := open_TLatchSystem ha1
  refine retV_of_run Try.func42 rfl (m := 83) rfl rfl (fun h => ?_)
  rw [spec_IsLatchSystem] at hF
  refine r_seq ?_
  refine r_region ?_
  refine r_box h rfl rfl ?_
  intro w1 bb1 h
  refine r_p tabOk rfl rfl ?_
  refine r_nil ?_
  refine r_seq ?_
  refine r_region ?_
  refine r_p tabOk rfl rfl ?_
  refine r_v (v_ld tabOk (h.box 0 rfl) (j := 0) rfl rfl rfl) rfl ?_
  refine r_p tabOk rfl rfl ?_
  refine r_p tabOk rfl rfl ?_
  refine r_nil ?_
  refine r_seq ?_
  refine r_seq ?_
  refine r_region ?_
  refine r_p tabOk rfl rfl ?_
  refine r_nil ?_
  obtain ⟨o1, hF, hK1⟩ := bindS hF
  refine r_block ?_
  refine r_sub [(1, _), (3, _), (4, _)] ⟨rfl, rfl, rfl, trivial⟩ ?_
  refine r_loop (fun m e w' => ∃ (i1 : Int), spec_IsLatchSystem_L1 a_0 m i1 = some o1 ∧ e = [(1, .pointer (some ⟨bb1, 0, none⟩)), (3, .int .i64 (a_0.Latches.length : Int)), (4, .int .i64 i1)] ∧ SH w w' [Ch.box bb1 [.slice p1 a_0.Latches.length k1, .slice p2 a_0.Links.length k2] 41]) n ⟨_, hF, rfl, h⟩ ?_
  rintro m1 e1 w2 ⟨i1, hF, rfl, h⟩
  rcases m1 with _ | m1
  · rw [spec_IsLatchSystem_L1] at hF
    cases hF
  rw [spec_IsLatchSystem_L1] at hF
  refine r_seq ?_
  refine r_seq ?_
  refine r_region ?_
  refine r_p tabOk rfl rfl ?_
  refine r_p tabOk rfl rfl ?_
  refine r_v (v_ld tabOk (h.box 0 rfl) (j := 0) rfl rfl rfl) rfl ?_
  refine r_p tabOk rfl rfl ?_
  refine r_p tabOk rfl rfl ?_
  refine r_nil ?_
  refine r_cond rfl (fun hc1 => ?_) (fun hc1 => ?_)
  · replace hF := bifT hc1 hF
    refine r_skip ?_
    refine r_seq ?_
    refine r_block ?_
    refine r_seq ?_
    refine r_region ?_
    refine r_p tabOk rfl rfl ?_
    refine r_v (v_ld tabOk (h.box 0 rfl) (j := 0) rfl rfl rfl) rfl ?_
    refine r_p tabOk rfl rfl ?_
    obtain ⟨y1, hy1, hF⟩ := bindS hF
    have he1 := idx_some hy1
    obtain ⟨b1, o_1, q1, cs2, hp1, hq1, -, hr1, hc2⟩ := s1.at hy1
    obtain rfl := open_TLatch hr1
    refine r_v (v_ix tabOk hp1 hq1 ⟨he1.1, he1.2.1⟩ rfl rfl rfl rfl rfl rfl) rfl ?_
    refine r_v (v_ld tabOk (hc2.below h.below) (j := 0) rfl rfl rfl) rfl ?_
    refine r_alloc tabOk h rfl rfl rfl ?_
    intro w3 bb2 h
    refine r_stbox tabOk 0 h rfl rfl rfl rfl rfl rfl rfl ?_
    intro w4 h
    refine r_nil ?_
    refine r_seq ?_
    refine r_region ?_
    refine r_p tabOk rfl rfl ?_
    refine r_v (v_ld tabOk (h.box 0 rfl) (j := 0) rfl rfl rfl) rfl ?_
    obtain ⟨r1, hr2, hF⟩ := bindS hF
    refine r_callB r1 h call58 (spec_l01In_ok hr2) rfl rfl rfl rfl ?_
    intro w5 h
    refine r_p tabOk rfl rfl ?_
    refine r_p tabOk rfl rfl ?_
    by_cases hc3 : (!r1) = true
    · replace hF := bifT hc3 hF
      refine r_setT hc3 (t := 27) rfl ?_
      refine r_unwanted rfl ?_ (fun _ hd => by cases hd; rfl)
      refine r_unwanted rfl ?_ (fun _ hd => by cases hd; rfl)
      refine r_unwanted rfl ?_ (fun _ hd => by cases hd; rfl)
      refine r_unwanted rfl ?_ (fun _ hd => by cases hd; rfl)
      refine r_unwanted rfl ?_ (fun _ hd => by cases hd; rfl)
      refine r_unwanted rfl ?_ (fun _ hd => by cases hd; rfl)
      refine r_p tabOk rfl rfl ?_
      refine r_nil ?_
      refine r_condT rfl rfl ?_
      refine r_seq ?_
      refine r_region ?_
      refine r_p tabOk rfl rfl ?_
      refine r_nil ?_
      obtain rfl := someI hF; replace hF := hK1
      obtain rfl := someI hF
      exact r_retV tabOk (ρ := Bool) [_] h ⟨rfl, trivial⟩ (vs_bool _ _)
    · replace hc3 := Bool.eq_false_iff.2 hc3
      replace hF := bifF hc3 hF
      refine r_setF hc3 (t := 27) rfl ?_
      refine r_wanted rfl ?_
      refine r_p tabOk rfl rfl ?_
      refine r_wanted rfl ?_
      refine r_v (v_ld tabOk (h.box 0 rfl) (j := 1) rfl rfl rfl) rfl ?_
      refine r_wanted rfl ?_
      refine r_p tabOk rfl rfl ?_
      refine r_wanted rfl ?_
      refine r_v (v_ld tabOk (h.box 0 rfl) (j := 0) rfl rfl rfl) rfl ?_
      refine r_wanted rfl ?_
      obtain ⟨r2, hr3, hF⟩ := bindS hF
      refine r_callB r2 h call58 (spec_l01In_ok hr3) rfl rfl rfl rfl ?_
      intro w6 h
      refine r_wanted rfl ?_
      refine r_p tabOk rfl rfl ?_
      refine r_p tabOk rfl rfl ?_
      refine r_nil ?_
      refine r_cond rfl (fun hc4 => ?_) (fun hc4 => ?_)
      · replace hF := bifT hc4 hF
        refine r_seq ?_
        refine r_region ?_
        refine r_p tabOk rfl rfl ?_
        refine r_nil ?_
        obtain rfl := someI hF; replace hF := hK1
        obtain rfl := someI hF
        exact r_retV tabOk (ρ := Bool) [_] h ⟨rfl, trivial⟩ (vs_bool _ _)
      · replace hF := bifF hc4 hF
        refine r_skip ?_
        refine r_blk ?_
        refine r_region ?_
        refine r_p tabOk rfl rfl ?_
        refine r_p tabOk rfl rfl ?_
        refine r_p tabOk rfl rfl ?_
        refine r_nil ?_
        replace h := h.pick [1] rfl
        exact r_back m1 [(1, _), (3, _), (4, _)] (Nat.lt_succ_self m1) ⟨rfl, rfl, rfl, trivial⟩ ⟨_, hF, rfl, h⟩
  · replace hF := bifF hc1 hF
    refine r_exit rfl ?_
    obtain rfl := someI hF; replace hF := hK1
    refine r_seq ?_
    refine r_seq ?_
    refine r_region ?_
    refine r_p tabOk rfl rfl ?_
    refine r_nil ?_
    obtain ⟨o2, hF, hK2⟩ := bindS hF
    refine r_block ?_
    refine r_sub [(1, _), (3, _), (6, _)] ⟨rfl, rfl, rfl, trivial⟩ ?_
    refine r_loop (fun m e w' => ∃ (i2 : Int), spec_IsLatchSystem_L2 a_0 m i2 = some o2 ∧ e = [(1, .pointer (some ⟨bb1, 0, none⟩)), (3, .int .i64 (a_0.Latches.length : Int)), (6, .int .i64 i2)] ∧ SH w w' [Ch.box bb1 [.slice p1 a_0.Latches.length k1, .slice p2 a_0.Links.length k2] 41]) n ⟨_, hF, rfl, h⟩ ?_
    rintro m2 e2 w7 ⟨i2, hF, rfl, h⟩
    rcases m2 with _ | m2
    · rw [spec_IsLatchSystem_L2] at hF
      cases hF
    rw [spec_IsLatchSystem_L2] at hF
    refine r_seq ?_
    refine r_seq ?_
    refine r_region ?_
    refine r_p tabOk rfl rfl ?_
    refine r_p tabOk rfl rfl ?_
    refine r_v (v_ld tabOk (h.box 0 rfl) (j := 1) rfl rfl rfl) rfl ?_
    refine r_p tabOk rfl rfl ?_
    refine r_p tabOk rfl rfl ?_
    refine r_nil ?_
    refine r_cond rfl (fun hc5 => ?_) (fun hc5 => ?_)
    · replace hF := bifT hc5 hF
      refine r_skip ?_
      refine r_seq ?_
      refine r_block ?_
      refine r_seq ?_
      refine r_region ?_
      refine r_p tabOk rfl rfl ?_
      refine r_v (v_ld tabOk (h.box 0 rfl) (j := 1) rfl rfl rfl) rfl ?_
      refine r_p tabOk rfl rfl ?_
      obtain ⟨y2, hy2, hF⟩ := bindS hF
      have he2 := idx_some hy2
      obtain ⟨b2, o_2, q2, cs3, hp2, hq2, -, hr4, hc6⟩ := s2.at hy2
      obtain rfl := open_TLatchLink hr4
      refine r_v (v_ix tabOk hp2 hq2 ⟨he2.1, he2.2.1⟩ rfl rfl rfl rfl rfl rfl) rfl ?_
      refine r_v (v_ld tabOk (hc6.below h.below) (j := 0) rfl rfl rfl) rfl ?_
      refine r_alloc tabOk h rfl rfl rfl ?_
      intro w8 bb3 h
      refine r_stbox tabOk 0 h rfl rfl rfl rfl rfl rfl rfl ?_
      intro w9 h
      refine r_nil ?_
      refine r_seq ?_
      refine r_region ?_
      refine r_p tabOk rfl rfl ?_
      refine r_v (v_ld tabOk (h.box 0 rfl) (j := 0) rfl rfl rfl) rfl ?_
      refine r_p tabOk rfl rfl ?_
      refine r_p tabOk rfl rfl ?_
      obtain ⟨r3, hr5, hF⟩ := bindS hF
      refine r_callB r3 h call58 (spec_l01In_ok hr5) rfl rfl rfl rfl ?_
      intro w10 h
      refine r_p tabOk rfl rfl ?_
      refine r_p tabOk rfl rfl ?_
      by_cases hc7 : (!r3) = true
      · replace hF := bifT hc7 hF
        refine r_setT hc7 (t := 53) rfl ?_
        refine r_unwanted rfl ?_ (fun _ hd => by cases hd; rfl)
        refine r_unwanted rfl ?_ (fun _ hd => by cases hd; rfl)
        refine r_unwanted rfl ?_ (fun _ hd => by cases hd; rfl)
        refine r_unwanted rfl ?_ (fun _ hd => by cases hd; rfl)
        refine r_unwanted rfl ?_ (fun _ hd => by cases hd; rfl)
        refine r_unwanted rfl ?_ (fun _ hd => by cases hd; rfl)
        refine r_p tabOk rfl rfl ?_
        refine r_p tabOk rfl rfl ?_
        refine r_unwanted rfl ?_ (fun _ hd => by cases hd; rfl)
        refine r_unwanted rfl ?_ (fun _ hd => by cases hd; rfl)
        refine r_unwanted rfl ?_ (fun _ hd => by cases hd; rfl)
        refine r_unwanted rfl ?_ (fun _ hd => by cases hd; rfl)
        refine r_p tabOk rfl rfl ?_
        refine r_p tabOk rfl rfl ?_
        refine r_unwanted rfl ?_ (fun _ hd => by cases hd; rfl)
        refine r_unwanted rfl ?_ (fun _ hd => by cases hd; rfl)
        refine r_unwanted rfl ?_ (fun _ hd => by cases hd; rfl)
        refine r_unwanted rfl ?_ (fun _ hd => by cases hd; rfl)
        refine r_p tabOk rfl rfl ?_
        refine r_nil ?_
        refine r_condT rfl rfl ?_
        refine r_seq ?_
        refine r_region ?_
        refine r_p tabOk rfl rfl ?_
        refine r_nil ?_
        obtain rfl := someI hF; replace hF := hK2
        obtain rfl := someI hF
        exact r_retV tabOk (ρ := Bool) [_] h ⟨rfl, trivial⟩ (vs_bool _ _)
      · replace hc7 := Bool.eq_false_iff.2 hc7
        replace hF := bifF hc7 hF
        refine r_setF hc7 (t := 53) rfl ?_
        refine r_wanted rfl ?_
        refine r_p tabOk rfl rfl ?_
        refine r_wanted rfl ?_
        refine r_v (v_ld tabOk (h.box 0 rfl) (j := 1) rfl rfl rfl) rfl ?_
        refine r_wanted rfl ?_
        refine r_p tabOk rfl rfl ?_
        refine r_wanted rfl ?_
        refine r_p tabOk rfl rfl ?_
        refine r_wanted rfl ?_
        obtain ⟨r4, hr6, hF⟩ := bindS hF
        refine r_callB r4 h call58 (spec_l01In_ok hr6) rfl rfl rfl rfl ?_
        intro w11 h
        refine r_wanted rfl ?_
        refine r_p tabOk rfl rfl ?_
        refine r_p tabOk rfl rfl ?_
        refine r_p tabOk rfl rfl ?_
        by_cases hc8 : (!r4) = true
        · replace hF := bifT hc8 hF
          refine r_setT hc8 (t := 61) rfl ?_
          refine r_unwanted rfl ?_ (fun _ hd => by cases hd; rfl)
          refine r_unwanted rfl ?_ (fun _ hd => by cases hd; rfl)
          refine r_unwanted rfl ?_ (fun _ hd => by cases hd; rfl)
          refine r_unwanted rfl ?_ (fun _ hd => by cases hd; rfl)
          refine r_p tabOk rfl rfl ?_
          refine r_p tabOk rfl rfl ?_
          refine r_unwanted rfl ?_ (fun _ hd => by cases hd; rfl)
          refine r_unwanted rfl ?_ (fun _ hd => by cases hd; rfl)
          refine r_unwanted rfl ?_ (fun _ hd => by cases hd; rfl)
          refine r_unwanted rfl ?_ (fun _ hd => by cases hd; rfl)
          refine r_p tabOk rfl rfl ?_
          refine r_nil ?_
          refine r_condT rfl rfl ?_
          refine r_seq ?_
          refine r_region ?_
          refine r_p tabOk rfl rfl ?_
          refine r_nil ?_
          obtain rfl := someI hF; replace hF := hK2
          obtain rfl := someI hF
          exact r_retV tabOk (ρ := Bool) [_] h ⟨rfl, trivial⟩ (vs_bool _ _)
        · replace hc8 := Bool.eq_false_iff.2 hc8
          replace hF := bifF hc8 hF
          refine r_setF hc8 (t := 61) rfl ?_
          refine r_wanted rfl ?_
          refine r_p tabOk rfl rfl ?_
          refine r_wanted rfl ?_
          refine r_v (v_ld tabOk (h.box 0 rfl) (j := 2) rfl rfl rfl) rfl ?_
          refine r_wanted rfl ?_
          obtain ⟨r5, hr7, hF⟩ := bindS hF
          refine r_callB r5 h call58 (spec_l01In_ok hr7) rfl rfl rfl rfl ?_
          intro w12 h
          refine r_wanted rfl ?_
          refine r_p tabOk rfl rfl ?_
          refine r_p tabOk rfl rfl ?_
          refine r_p tabOk rfl rfl ?_
          by_cases hc9 : (!r5) = true
          · replace hF := bifT hc9 hF
            refine r_setT hc9 (t := 67) rfl ?_
            refine r_unwanted rfl ?_ (fun _ hd => by cases hd; rfl)
            refine r_unwanted rfl ?_ (fun _ hd => by cases hd; rfl)
            refine r_unwanted rfl ?_ (fun _ hd => by cases hd; rfl)
            refine r_unwanted rfl ?_ (fun _ hd => by cases hd; rfl)
            refine r_p tabOk rfl rfl ?_
            refine r_nil ?_
            refine r_condT rfl rfl ?_
            refine r_seq ?_
            refine r_region ?_
            refine r_p tabOk rfl rfl ?_
            refine r_nil ?_
            obtain rfl := someI hF; replace hF := hK2
            obtain rfl := someI hF
            exact r_retV tabOk (ρ := Bool) [_] h ⟨rfl, trivial⟩ (vs_bool _ _)
          · replace hc9 := Bool.eq_false_iff.2 hc9
            replace hF := bifF hc9 hF
            refine r_setF hc9 (t := 67) rfl ?_
            refine r_wanted rfl ?_
            refine r_p tabOk rfl rfl ?_
            refine r_wanted rfl ?_
            refine r_v (v_ld tabOk (h.box 0 rfl) (j := 3) rfl rfl rfl) rfl ?_
            refine r_wanted rfl ?_
            obtain ⟨r6, hr8, hF⟩ := bindS hF
            refine r_callB r6 h call58 (spec_l01In_ok hr8) rfl rfl rfl rfl ?_
            intro w13 h
            refine r_wanted rfl ?_
            refine r_p tabOk rfl rfl ?_
            refine r_p tabOk rfl rfl ?_
            refine r_nil ?_
            refine r_cond rfl (fun hc10 => ?_) (fun hc10 => ?_)
            · replace hF := bifT hc10 hF
              refine r_seq ?_
              refine r_region ?_
              refine r_p tabOk rfl rfl ?_
              refine r_nil ?_
              obtain rfl := someI hF; replace hF := hK2
              obtain rfl := someI hF
              exact r_retV tabOk (ρ := Bool) [_] h ⟨rfl, trivial⟩ (vs_bool _ _)
            · replace hF := bifF hc10 hF
              refine r_skip ?_
              refine r_blk ?_
              refine r_region ?_
              refine r_p tabOk rfl rfl ?_
              refine r_p tabOk rfl rfl ?_
              refine r_p tabOk rfl rfl ?_
              refine r_nil ?_
              replace h := h.pick [1] rfl
              exact r_back m2 [(1, _), (3, _), (6, _)] (Nat.lt_succ_self m2) ⟨rfl, rfl, rfl, trivial⟩ ⟨_, hF, rfl, h⟩
    · replace hF := bifF hc5 hF
      refine r_exit rfl ?_
      obtain rfl := someI hF; replace hF := hK2
      refine r_seq ?_
      refine r_region ?_
      refine r_p tabOk rfl rfl ?_
      refine r_v (v_ld tabOk (h.box 0 rfl) (j := 0) rfl rfl rfl) rfl ?_
      refine r_p tabOk rfl rfl ?_
      refine r_p tabOk rfl rfl ?_
      refine r_p tabOk rfl rfl ?_
      by_cases hc11 : (decide ((a_0.Latches.length : Int) ≤ 12)) = true
      · replace hF := bifT hc11 hF
        refine r_setT hc11 (t := 77) rfl ?_
        refine r_wanted rfl ?_
        refine r_p tabOk rfl rfl ?_
        refine r_wanted rfl ?_
        refine r_v (v_ld tabOk (h.box 0 rfl) (j := 1) rfl rfl rfl) rfl ?_
        refine r_wanted rfl ?_
        refine r_p tabOk rfl rfl ?_
        refine r_wanted rfl ?_
        refine r_p tabOk rfl rfl ?_
        refine r_p tabOk rfl rfl ?_
        refine r_p tabOk rfl rfl ?_
        refine r_nil ?_
        obtain rfl := someI hF
        exact r_retV tabOk (ρ := Bool) [_] h ⟨rfl, trivial⟩ (vs_bool _ _)
      · replace hc11 := Bool.eq_false_iff.2 hc11
        replace hF := bifF hc11 hF
        refine r_setF hc11 (t := 77) rfl ?_
        refine r_unwanted rfl ?_ (fun _ hd => by cases hd; rfl)
        refine r_unwanted rfl ?_ (fun _ hd => by cases hd; rfl)
        refine r_unwanted rfl ?_ (fun _ hd => by cases hd; rfl)
        refine r_unwanted rfl ?_ (fun _ hd => by cases hd; rfl)
        refine r_p tabOk rfl rfl ?_
        refine r_p tabOk rfl rfl ?_
        refine r_nil ?_
        obtain rfl := someI hF
        exact r_retV tabOk (ρ := Bool) [_] h ⟨rfl, trivial⟩ (vs_bool _ _)

def spec_l18Room_L1 (s : TLatchSystem) : Nat → Int → Int → Option (Int × Int)
  | 0, _, _ => none
  | n + 1, i1, i2 =>
    bif decide (i2 < (s.Links.length : Int)) then
      (idx s.Links i2).bind fun y1 =>
      spec_l18Room_L1 s n (if (W64 (100000 - y1.Shift)) < i1 then (W64 (100000 - y1.Shift)) else i1) (W64 (i2 + 1))
    else
      some (i1, i2)

def spec_l18Room (n : Nat) (s : TLatchSystem) : Option Int :=
  (spec_l18Room_L1 s n 100000 0).bind fun o => match o with
  | (i1, _) =>
    some i1

theorem spec_l18Room_ok {n : Nat} {w : World} {s : TLatchSystem} {cs1 : List Value} (ha1 : GoT.R w (old w) s cs1) {r : Int} (hF : spec_l18Room n s = some r) : RetV Try.prog 43 [GoT.v TLatchSystem cs1] w r := by
  obtain ⟨p1, k1, p2, k2, rfl, s1, s2⟩ := open_TLatchSystem ha1
  refine retV_of_run Try.func43 rfl (m := 22) rfl rfl (fun h => ?_)
  rw [spec_l18Room] at hF
  refine r_seq ?_
  refine r_region ?_
  refine r_box h rfl rfl ?_
  intro w1 bb1 h
  refine r_p tabOk rfl rfl ?_
  refine r_nil ?_
  refine r_seq ?_
  refine r_region ?_
  refine r_p tabOk rfl rfl ?_
  refine r_nil ?_
  refine r_seq ?_
  refine r_seq ?_
  refine r_region ?_
  refine r_p tabOk rfl rfl ?_
  refine r_nil ?_
  obtain ⟨o1, hF, hK1⟩ := bindS hF
  refine r_block ?_
  refine r_sub [(1, _), (3, _), (4, _)] ⟨rfl, rfl, rfl, trivial⟩ ?_
  refine r_loop (fun m e w' => ∃ (i1 : Int) (i2 : Int), spec_l18Room_L1 s m i1 i2 = some o1 ∧ e = [(1, .pointer (some ⟨bb1, 0, none⟩)), (3, .int .i64 i1), (4, .int .i64 i2)] ∧ SH w w' [Ch.box bb1 [.slice p1 s.Latches.length k1, .slice p2 s.Links.length k2] 41]) n ⟨_, _, hF, rfl, h⟩ ?_
  rintro m1 e1 w2 ⟨i1, i2, hF, rfl, h⟩
  rcases m1 with _ | m1
  · rw [spec_l18Room_L1] at hF
    cases hF
  rw [spec_l18Room_L1] at hF
  refine r_seq ?_
  refine r_seq ?_
  refine r_region ?_
  refine r_p tabOk rfl rfl ?_
  refine r_p tabOk rfl rfl ?_
  refine r_v (v_ld tabOk (h.box 0 rfl) (j := 1) rfl rfl rfl) rfl ?_
  refine r_p tabOk rfl rfl ?_
  refine r_p tabOk rfl rfl ?_
  refine r_nil ?_
  refine r_cond rfl (fun hc1 => ?_) (fun hc1 => ?_)
  · replace hF := bifT hc1 hF
    refine r_skip ?_
    refine r_seq ?_
    refine r_block ?_
    refine r_region ?_
    refine r_p tabOk rfl rfl ?_
    refine r_p tabOk rfl rfl ?_
    refine r_v (v_ld tabOk (h.box 0 rfl) (j := 1) rfl rfl rfl) rfl ?_
    refine r_p tabOk rfl rfl ?_
    obtain ⟨y1, hy1, hF⟩ := bindS hF
    have he1 := idx_some hy1
    obtain ⟨b1, o_1, q1, cs2, hp1, hq1, -, hr1, hc2⟩ := s2.at hy1
    obtain rfl := open_TLatchLink hr1
    refine r_v (v_ix tabOk hp1 hq1 ⟨he1.1, he1.2.1⟩ rfl rfl rfl rfl rfl rfl) rfl ?_
    refine r_p tabOk rfl rfl ?_
    refine r_v (v_ld tabOk (hc2.below h.below) (j := 3) rfl rfl rfl) rfl ?_
    refine r_p tabOk rfl rfl ?_
    refine r_p tabOk rfl rfl ?_
    refine r_p tabOk rfl rfl ?_
    refine r_nil ?_
    refine r_blk ?_
    refine r_region ?_
    refine r_p tabOk rfl rfl ?_
    refine r_p tabOk rfl rfl ?_
    refine r_p tabOk rfl rfl ?_
    refine r_nil ?_
    exact r_back m1 [(1, _), (3, _), (4, _)] (Nat.lt_succ_self m1) ⟨rfl, rfl, rfl, trivial⟩ ⟨_, _, hF, rfl, h⟩
  · replace hF := bifF hc1 hF
    refine r_exit rfl ?_
    obtain rfl := someI hF; replace hF := hK1
    refine r_seq ?_
    refine r_region ?_
    refine r_p tabOk rfl rfl ?_
    refine r_p tabOk rfl rfl ?_
    refine r_nil ?_
    obtain rfl := someI hF
    exact r_retV tabOk (ρ := Int) [_] h ⟨rfl, trivial⟩ (vs_int _ _)

def spec_l18Opens_L1 (s : TLatchSystem) : Nat → (List Int) → Int → Option ((List Int) × Int)
  | 0, _, _ => none
  | n + 1, x1, i1 =>
    bif decide (i1 < (s.Latches.length : Int)) then
      (idx s.Latches i1).bind fun y1 =>
      (appS x1 ([y1.Open] : List Int)).bind fun x2 =>
      spec_l18Opens_L1 s n x2 (W64 (i1 + 1))
    else
      some (x1, i1)

def spec_l18Opens (n : Nat) (s : TLatchSystem) : Option (List Int) :=
  (spec_l18Opens_L1 s n ([] : List Int) 0).bind fun o => match o with
  | (x1, _) =>
    some x1

theorem spec_l18Opens_ok {n : Nat} {w : World} {s : TLatchSystem} {cs1 : List Value} (ha1 : GoT.R w (old w) s cs1) {r : (List Int)} (hF : spec_l18Opens n s = some r) : RetV Try.prog 51 [GoT.v TLatchSystem cs1] w r := by
  obtain ⟨p1, k1, p2, k2, rfl, s1, s2⟩ := open_TLatchSystem ha1
  refine retV_of_run Try.func51 rfl (m := 23) rfl rfl (fun h => ?_)
  rw [spec_l18Opens] at hF
  refine r_seq ?_
  refine r_region ?_
  refine r_box h rfl rfl ?_
  intro w1 bb1 h
  refine r_p tabOk rfl rfl ?_
  refine r_nil ?_
  refine r_seq ?_
  refine r_region ?_
  refine r_bslice tabOk [] _ ([] : List Int) h rfl rfl rfl rfl rfl rfl rfl rfl rfl trivial rfl ?_
  intro w2 p3 S1 h
  refine r_p tabOk rfl rfl ?_
  refine r_nil ?_
  refine r_seq ?_
  refine r_seq ?_
  refine r_region ?_
  refine r_p tabOk rfl rfl ?_
  refine r_nil ?_
  obtain ⟨o1, hF, hK1⟩ := bindS hF
  refine r_block ?_
  refine r_sub [(1, _), (3, _), (4, _)] ⟨rfl, rfl, rfl, trivial⟩ ?_
  refine r_loop (fun m e w' => ∃ (S2 : Nat → Prop) (p4 : Option Addr) (ln1 : Nat) (k3 : Nat) (x1 : (List Int)) (i1 : Int), spec_l18Opens_L1 s m x1 i1 = some o1 ∧ e = [(1, .pointer (some ⟨bb1, 0, none⟩)), (3, .slice p4 ln1 k3), (4, .int .i64 i1)] ∧ SH w w' [Ch.own S2 (x1 : List Int) [.slice p4 ln1 k3], Ch.box bb1 [.slice p1 s.Latches.length k1, .slice p2 s.Links.length k2] 41]) n ⟨_, _, _, _, _, _, hF, rfl, h⟩ ?_
  rintro m1 e1 w3 ⟨S2, p4, ln1, k3, x1, i1, hF, rfl, h⟩
  obtain rfl := (h.sl 0 rfl).2
  rcases m1 with _ | m1
  · rw [spec_l18Opens_L1] at hF
    cases hF
  rw [spec_l18Opens_L1] at hF
  refine r_seq ?_
  refine r_seq ?_
  refine r_region ?_
  refine r_p tabOk rfl rfl ?_
  refine r_p tabOk rfl rfl ?_
  refine r_v (v_ld tabOk (h.box 1 rfl) (j := 0) rfl rfl rfl) rfl ?_
  refine r_p tabOk rfl rfl ?_
  refine r_p tabOk rfl rfl ?_
  refine r_nil ?_
  refine r_cond rfl (fun hc1 => ?_) (fun hc1 => ?_)
  · replace hF := bifT hc1 hF
    refine r_skip ?_
    refine r_seq ?_
    refine r_block ?_
    refine r_region ?_
    refine r_p tabOk rfl rfl ?_
    refine r_p tabOk rfl rfl ?_
    refine r_v (v_ld tabOk (h.box 1 rfl) (j := 0) rfl rfl rfl) rfl ?_
    refine r_p tabOk rfl rfl ?_
    obtain ⟨y1, hy1, hF⟩ := bindS hF
    have he1 := idx_some hy1
    obtain ⟨b1, o_1, q1, cs2, hp1, hq1, -, hr1, hc2⟩ := s1.at hy1
    obtain rfl := open_TLatch hr1
    refine r_v (v_ix tabOk hp1 hq1 ⟨he1.1, he1.2.1⟩ rfl rfl rfl rfl rfl rfl) rfl ?_
    refine r_p tabOk rfl rfl ?_
    refine r_v (v_ld tabOk (hc2.below h.below) (j := 0) rfl rfl rfl) rfl ?_
    refine r_bslice tabOk [.tmp 19] _ ([y1.Open] : List Int) h rfl rfl rfl rfl rfl rfl rfl rfl rfl ⟨rfl, trivial⟩ rfl ?_
    intro w4 p5 S3 h
    obtain ⟨x2, hx1, hF⟩ := bindS hF
    obtain ⟨g1, hx1⟩ := appS_some hx1
    refine r_app tabOk 1 h rfl (h.sl 0 rfl).1 (h.sl 0 rfl).2 rfl rfl rfl rfl rfl rfl rfl rfl rfl g1 rfl ?_
    intro w5 p6 k4 S4 h
    rw [hx1] at h
    refine r_p tabOk rfl rfl ?_
    refine r_nil ?_
    refine r_blk ?_
    refine r_region ?_
    refine r_p tabOk rfl rfl ?_
    refine r_p tabOk rfl rfl ?_
    refine r_p tabOk rfl rfl ?_
    refine r_nil ?_
    replace h := h.pick [1, 2] rfl
    exact r_back m1 [(1, _), (3, _), (4, _)] (Nat.lt_succ_self m1) ⟨rfl, rfl, rfl, trivial⟩ ⟨_, _, _, _, _, _, hF, rfl, h⟩
  · replace hF := bifF hc1 hF
    refine r_exit rfl ?_
    obtain rfl := someI hF; replace hF := hK1
    refine r_seq ?_
    refine r_region ?_
    refine r_p tabOk rfl rfl ?_
    refine r_p tabOk rfl rfl ?_
    refine r_nil ?_
    obtain rfl := someI hF
    exact r_retV tabOk (ρ := (List Int)) [GoT.v (List Int) [.slice p4 x1.length k3]] h ⟨rfl, trivial⟩ (PV.done h (pv_one (po_own 0 h rfl)))

def spec_l18Arrivals_L1 (s : TLatchSystem) (times : (List Int)) : Nat → (List Bool) → (List Int) → Int → Option ((List Bool) × (List Int) × Int)
  | 0, _, _, _ => none
  | n + 1, x2, x3, i1 =>
    bif decide (i1 < (s.Links.length : Int)) then
      (idx s.Links i1).bind fun y1 =>
      (idx times y1.From).bind fun y2 =>
      (idx x2 y1.To).bind fun y3 =>
      bif y3 then
        (idx x3 y1.To).bind fun y4 =>
        (idx x3 y1.To).bind fun _ =>
        (idx x2 y1.To).bind fun _ =>
        spec_l18Arrivals_L1 s times n (setS x2 y1.To true) (setS x3 y1.To (if y4 > (W64 ((W64 (y2 + y1.Delay)) - y1.Shift)) then y4 else (W64 ((W64 (y2 + y1.Delay)) - y1.Shift)))) (W64 (i1 + 1))
      else
        (idx x3 y1.To).bind fun _ =>
        (idx x2 y1.To).bind fun _ =>
        spec_l18Arrivals_L1 s times n (setS x2 y1.To true) (setS x3 y1.To (W64 ((W64 (y2 + y1.Delay)) - y1.Shift))) (W64 (i1 + 1))
    else
      some (x2, x3, i1)

def spec_l18Arrivals (n : Nat) (s : TLatchSystem) (times : (List Int)) : Option (List Int) :=
  (spec_l18Opens n s).bind fun r1 =>
  (mkS (r1.length : Int) (false : Bool)).bind fun x1 =>
  (spec_l18Arrivals_L1 s times n x1 r1 0).bind fun o => match o with
  | (_, x3, _) =>
    some x3

theorem spec_l18Arrivals_ok {n : Nat} {w : World} {s : TLatchSystem} {times : (List Int)} {cs1 : List Value} (ha1 : GoT.R w (old w) s cs1) {cs2 : List Value} (ha2 : GoT.R w (old w) times cs2) {r : (List Int)} (hF : spec_l18Arrivals n s times = some r) : RetV Try.prog 33 [GoT.v TLatchSystem cs1, GoT.v (List Int) cs2] w r := by
  obtain ⟨p1, k1, p2, k2, rfl, s1, s2⟩ := open_TLatchSystem ha1
  obtain ⟨p3, k3, rfl, s3⟩ := ha2
  refine retV_of_run Try.func33 rfl (m := 60) rfl rfl (fun h => ?_)
  rw [spec_l18Arrivals] at hF
  refine r_seq ?_
  refine r_region ?_
  refine r_box h rfl rfl ?_
  intro w1 bb1 h
  refine r_p tabOk rfl rfl ?_
  refine r_nil ?_
  refine r_seq ?_
  refine r_region ?_
  refine r_v (v_ld tabOk (h.box 0 rfl) (j := 0) rfl rfl rfl) rfl ?_
  obtain ⟨r1, hr1, hF⟩ := bindS hF
  refine r_callL r1 h call51 (spec_l18Opens_ok (h.old ha1) hr1) rfl rfl rfl rfl ?_
  intro w2 S1 p4 k4 h
  refine r_p tabOk rfl rfl ?_
  refine r_nil ?_
  refine r_seq ?_
  refine r_region ?_
  refine r_p tabOk rfl rfl ?_
  refine r_p tabOk rfl rfl ?_
  obtain ⟨x1, hx1, hF⟩ := bindS hF
  obtain ⟨g1, g2, hx1⟩ := mkS_some hx1
  refine r_make tabOk Bool h rfl rfl rfl rfl rfl rfl rfl rfl rfl g1 g2 rfl ?_
  intro w3 S2 p5 h
  replace hx1 : List.replicate _ GoT.zero = x1 := hx1
  rw [hx1] at h
  refine r_p tabOk rfl rfl ?_
  refine r_nil ?_
  refine r_seq ?_
  refine r_seq ?_
  refine r_region ?_
  refine r_p tabOk rfl rfl ?_
  refine r_nil ?_
  obtain ⟨o1, hF, hK1⟩ := bindS hF
  refine r_block ?_
  refine r_sub [(1, _), (2, _), (5, _), (6, _), (7, _)] ⟨rfl, rfl, rfl, rfl, rfl, trivial⟩ ?_
  refine r_loop (fun m e w' => ∃ (x2 : (List Bool)) (x3 : (List Int)) (i1 : Int), spec_l18Arrivals_L1 s times m x2 x3 i1 = some o1 ∧ e = [(1, .slice p3 times.length k3), (2, .pointer (some ⟨bb1, 0, none⟩)), (5, .slice p4 r1.length k4), (6, .slice p5 ((r1.length : Int).toNat) ((r1.length : Int).toNat)), (7, .int .i64 i1)] ∧ SH w w' [Ch.own S2 (x2 : List Bool) [.slice p5 ((r1.length : Int).toNat) ((r1.length : Int).toNat)], Ch.own S1 (x3 : List Int) [.slice p4 r1.length k4], Ch.box bb1 [.slice p1 s.Latches.length k1, .slice p2 s.Links.length k2] 41]) n ⟨_, _, _, hF, rfl, h⟩ ?_
  rintro m1 e1 w4 ⟨x2, x3, i1, hF, rfl, h⟩
  rcases m1 with _ | m1
  · rw [spec_l18Arrivals_L1] at hF
    cases hF
  rw [spec_l18Arrivals_L1] at hF
  refine r_seq ?_
  refine r_seq ?_
  refine r_region ?_
  refine r_p tabOk rfl rfl ?_
  refine r_p tabOk rfl rfl ?_
  refine r_v (v_ld tabOk (h.box 2 rfl) (j := 1) rfl rfl rfl) rfl ?_
  refine r_p tabOk rfl rfl ?_
  refine r_p tabOk rfl rfl ?_
  refine r_nil ?_
  refine r_cond rfl (fun hc1 => ?_) (fun hc1 => ?_)
  · replace hF := bifT hc1 hF
    refine r_skip ?_
    refine r_seq ?_
    refine r_block ?_
    refine r_seq ?_
    refine r_region ?_
    refine r_p tabOk rfl rfl ?_
    refine r_v (v_ld tabOk (h.box 2 rfl) (j := 1) rfl rfl rfl) rfl ?_
    refine r_p tabOk rfl rfl ?_
    obtain ⟨y1, hy1, hF⟩ := bindS hF
    have he1 := idx_some hy1
    obtain ⟨b1, o_1, q1, cs3, hp1, hq1, -, hr2, hc2⟩ := s2.at hy1
    obtain rfl := open_TLatchLink hr2
    refine r_v (v_ix tabOk hp1 hq1 ⟨he1.1, he1.2.1⟩ rfl rfl rfl rfl rfl rfl) rfl ?_
    refine r_v (v_ld tabOk (hc2.below h.below) (j := 0) rfl rfl rfl) rfl ?_
    refine r_alloc tabOk h rfl rfl rfl ?_
    intro w5 bb2 h
    refine r_stbox tabOk 0 h rfl rfl rfl rfl rfl rfl rfl ?_
    intro w6 h
    refine r_nil ?_
    refine r_seq ?_
    refine r_draw rfl (by kernel_rfl) ?_
    refine d_p tabOk rfl rfl ?_
    refine d_p tabOk rfl rfl ?_
    refine d_v (fun _ hb => v_ld tabOk ((h.box 0 rfl).below hb) (j := 0) rfl rfl rfl) rfl ?_
    obtain ⟨y2, hy2, hF⟩ := bindS hF
    have he2 := idx_some hy2
    obtain ⟨b2, o_2, q2, cs4, hp2, hq2, -, hr3, hc3⟩ := s3.at hy2
    obtain rfl := hr3
    refine d_v (fun _ hb => v_ix tabOk hp2 hq2 ⟨he2.1, he2.2.1⟩ rfl rfl rfl rfl rfl rfl) rfl ?_
    refine d_v (fun _ hb => v_ld tabOk ((hc3.below h.below).below hb) (j := 0) rfl rfl rfl) rfl ?_
    refine d_p tabOk rfl rfl ?_
    refine d_v (fun _ hb => v_ld tabOk ((h.box 0 rfl).below hb) (j := 2) rfl rfl rfl) rfl ?_
    refine d_p tabOk rfl rfl ?_
    refine d_p tabOk rfl rfl ?_
    refine d_v (fun _ hb => v_ld tabOk ((h.box 0 rfl).below hb) (j := 3) rfl rfl rfl) rfl ?_
    refine d_p tabOk rfl rfl ?_
    refine d_p tabOk rfl rfl ?_
    refine d_nil (fun w7 hb => ?_)
    replace h := h.ext hb
    clear hb
    refine r_seq ?_
    refine r_seq ?_
    refine r_region ?_
    refine r_p tabOk rfl rfl ?_
    refine r_p tabOk rfl rfl ?_
    refine r_v (v_ld tabOk (h.box 0 rfl) (j := 1) rfl rfl rfl) rfl ?_
    obtain ⟨y3, hy3, hF⟩ := bindS hF
    have he3 := idx_some hy3
    obtain ⟨b3, o_3, q3, cs5, hp3, hq3, -, hr4, hc4⟩ := (h.sl 1 rfl).1.at hy3
    obtain rfl := hr4
    refine r_v (v_ix tabOk hp3 hq3 ⟨he3.1, lt_ln he3.2.1 (h.sl 1 rfl).2⟩ rfl rfl rfl rfl rfl rfl) rfl ?_
    refine r_v (v_ld tabOk hc4 (j := 0) rfl rfl rfl) rfl ?_
    refine r_nil ?_
    refine r_cond rfl (fun hc5 => ?_) (fun hc5 => ?_)
    · replace hF := bifT hc5 hF
      refine r_region ?_
      refine r_p tabOk rfl rfl ?_
      refine r_p tabOk rfl rfl ?_
      refine r_p tabOk rfl rfl ?_
      refine r_v (v_ld tabOk (h.box 0 rfl) (j := 1) rfl rfl rfl) rfl ?_
      obtain ⟨y4, hy4, hF⟩ := bindS hF
      have he4 := idx_some hy4
      obtain ⟨b4, o_4, q4, cs6, hp4, hq4, -, hr5, hc6⟩ := (h.sl 2 rfl).1.at hy4
      obtain rfl := hr5
      refine r_v (v_ix tabOk hp4 hq4 ⟨he4.1, lt_ln he4.2.1 (h.sl 2 rfl).2⟩ rfl rfl rfl rfl rfl rfl) rfl ?_
      refine r_v (v_ld tabOk hc6 (j := 0) rfl rfl rfl) rfl ?_
      refine r_p tabOk rfl rfl ?_
      refine r_p tabOk rfl rfl ?_
      refine r_nil ?_
      refine r_seq ?_
      refine r_region ?_
      refine r_p tabOk rfl rfl ?_
      refine r_p tabOk rfl rfl ?_
      refine r_v (v_ld tabOk (h.box 0 rfl) (j := 1) rfl rfl rfl) rfl ?_
      refine r_p tabOk rfl rfl ?_
      obtain ⟨y5, hy5, hF⟩ := bindS hF
      have he5 := idx_some hy5
      obtain ⟨b5, o_5, q5, cs7, hp5, hq5, -, hr6, hc7⟩ := (h.sl 2 rfl).1.at hy5
      obtain rfl := hr6
      refine r_v (v_ix tabOk hp5 hq5 ⟨he5.1, lt_ln he5.2.1 (h.sl 2 rfl).2⟩ rfl rfl rfl rfl rfl rfl) rfl ?_
      refine r_stown tabOk 2 0 (if y4 > (W64 ((W64 (y2 + y1.Delay)) - y1.Shift)) then y4 else (W64 ((W64 (y2 + y1.Delay)) - y1.Shift))) h rfl hy5 hp5 hq5 rfl hc7 rfl rfl rfl rfl rfl rfl rfl ?_
      intro w8 h
      refine r_nil ?_
      refine r_region ?_
      refine r_p tabOk rfl rfl ?_
      refine r_p tabOk rfl rfl ?_
      refine r_v (v_ld tabOk (h.box 0 rfl) (j := 1) rfl rfl rfl) rfl ?_
      obtain ⟨y6, hy6, hF⟩ := bindS hF
      have he6 := idx_some hy6
      obtain ⟨b6, o_6, q6, cs8, hp6, hq6, -, hr7, hc8⟩ := (h.sl 1 rfl).1.at hy6
      obtain rfl := hr7
      refine r_v (v_ix tabOk hp6 hq6 ⟨he6.1, lt_ln he6.2.1 (h.sl 1 rfl).2⟩ rfl rfl rfl rfl rfl rfl) rfl ?_
      refine r_stown tabOk 1 0 true h rfl hy6 hp6 hq6 rfl hc8 rfl rfl rfl rfl rfl rfl rfl ?_
      intro w9 h
      refine r_nil ?_
      refine r_blk ?_
      refine r_region ?_
      refine r_p tabOk rfl rfl ?_
      refine r_p tabOk rfl rfl ?_
      refine r_p tabOk rfl rfl ?_
      refine r_nil ?_
      replace h := h.pick [1, 2, 3] rfl
      exact r_back m1 [(1, _), (2, _), (5, _), (6, _), (7, _)] (Nat.lt_succ_self m1) ⟨rfl, rfl, rfl, rfl, rfl, trivial⟩ ⟨_, _, _, hF, rfl, h⟩
    · replace hF := bifF hc5 hF
      refine r_skip ?_
      refine r_seq ?_
      refine r_region ?_
      refine r_p tabOk rfl rfl ?_
      refine r_p tabOk rfl rfl ?_
      refine r_v (v_ld tabOk (h.box 0 rfl) (j := 1) rfl rfl rfl) rfl ?_
      refine r_p tabOk rfl rfl ?_
      obtain ⟨y7, hy7, hF⟩ := bindS hF
      have he7 := idx_some hy7
      obtain ⟨b7, o_7, q7, cs9, hp7, hq7, -, hr8, hc9⟩ := (h.sl 2 rfl).1.at hy7
      obtain rfl := hr8
      refine r_v (v_ix tabOk hp7 hq7 ⟨he7.1, lt_ln he7.2.1 (h.sl 2 rfl).2⟩ rfl rfl rfl rfl rfl rfl) rfl ?_
      refine r_stown tabOk 2 0 (W64 ((W64 (y2 + y1.Delay)) - y1.Shift)) h rfl hy7 hp7 hq7 rfl hc9 rfl rfl rfl rfl rfl rfl rfl ?_
      intro w10 h
      refine r_nil ?_
      refine r_region ?_
      refine r_p tabOk rfl rfl ?_
      refine r_p tabOk rfl rfl ?_
      refine r_v (v_ld tabOk (h.box 0 rfl) (j := 1) rfl rfl rfl) rfl ?_
      obtain ⟨y8, hy8, hF⟩ := bindS hF
      have he8 := idx_some hy8
      obtain ⟨b8, o_8, q8, cs10, hp8, hq8, -, hr9, hc10⟩ := (h.sl 1 rfl).1.at hy8
      obtain rfl := hr9
      refine r_v (v_ix tabOk hp8 hq8 ⟨he8.1, lt_ln he8.2.1 (h.sl 1 rfl).2⟩ rfl rfl rfl rfl rfl rfl) rfl ?_
      refine r_stown tabOk 1 0 true h rfl hy8 hp8 hq8 rfl hc10 rfl rfl rfl rfl rfl rfl rfl ?_
      intro w11 h
      refine r_nil ?_
      refine r_blk ?_
      refine r_region ?_
      refine r_p tabOk rfl rfl ?_
      refine r_p tabOk rfl rfl ?_
      refine r_p tabOk rfl rfl ?_
      refine r_nil ?_
      replace h := h.pick [1, 2, 3] rfl
      exact r_back m1 [(1, _), (2, _), (5, _), (6, _), (7, _)] (Nat.lt_succ_self m1) ⟨rfl, rfl, rfl, rfl, rfl, trivial⟩ ⟨_, _, _, hF, rfl, h⟩
  · replace hF := bifF hc1 hF
    refine r_exit rfl ?_
    obtain rfl := someI hF; replace hF := hK1
    refine r_seq ?_
    refine r_region ?_
    refine r_p tabOk rfl rfl ?_
    refine r_p tabOk rfl rfl ?_
    refine r_nil ?_
    obtain rfl := someI hF
    exact r_retV tabOk (ρ := (List Int)) [GoT.v (List Int) [.slice p4 r1.length k4]] h ⟨rfl, trivial⟩ (PV.done h (pv_one (po_own 1 h rfl)))

def spec_l18Slacks_L1 (s : TLatchSystem) (r1 : (List Int)) : Nat → (List Int) → Int → Option ((List Int) × Int)
  | 0, _, _ => none
  | n + 1, x1, i1 =>
    bif decide (i1 < (r1.length : Int)) then
      (idx s.Latches i1).bind fun y1 =>
      (idx x1 i1).bind fun y2 =>
      (idx x1 i1).bind fun _ =>
      spec_l18Slacks_L1 s r1 n (setS x1 i1 (W64 (y1.Close - y2))) (W64 (i1 + 1))
    else
      some (x1, i1)

def spec_l18Slacks (n : Nat) (s : TLatchSystem) (times : (List Int)) : Option (List Int) :=
  (spec_l18Arrivals n s times).bind fun r1 =>
  (spec_l18Slacks_L1 s r1 n r1 0).bind fun o => match o with
  | (x1, _) =>
    some x1

theorem spec_l18Slacks_ok {n : Nat} {w : World} {s : TLatchSystem} {times : (List Int)} {cs1 : List Value} (ha1 : GoT.R w (old w) s cs1) {cs2 : List Value} (ha2 : GoT.R w (old w) times cs2) {r : (List Int)} (hF : spec_l18Slacks n s times = some r) : RetV Try.prog 41 [GoT.v TLatchSystem cs1, GoT.v (List Int) cs2] w r := by
  obtain ⟨p1, k1, p2, k2, rfl, s1, s2⟩ := open_TLatchSystem ha1
  obtain ⟨p3, k3, rfl, s3⟩ := ha2
  refine retV_of_run Try.func41 rfl (m := 31) rfl rfl (fun h => ?_)
  rw [spec_l18Slacks] at hF
  refine r_seq ?_
  refine r_region ?_
  refine r_box h rfl rfl ?_
  intro w1 bb1 h
  refine r_p tabOk rfl rfl ?_
  refine r_nil ?_
  refine r_seq ?_
  refine r_region ?_
  refine r_v (v_ld tabOk (h.box 0 rfl) (j := 0) rfl rfl rfl) rfl ?_
  refine r_p tabOk rfl rfl ?_
  obtain ⟨r1, hr1, hF⟩ := bindS hF
  refine r_callL r1 h call33 (spec_l18Arrivals_ok (h.old ha1) ⟨_, _, rfl, (h.oldS s3)⟩ hr1) rfl rfl rfl rfl ?_
  intro w2 S1 p4 k4 h
  refine r_p tabOk rfl rfl ?_
  refine r_nil ?_
  refine r_seq ?_
  refine r_seq ?_
  refine r_region ?_
  refine r_p tabOk rfl rfl ?_
  refine r_nil ?_
  obtain ⟨o1, hF, hK1⟩ := bindS hF
  refine r_block ?_
  refine r_sub [(2, _), (5, _), (6, _)] ⟨rfl, rfl, rfl, trivial⟩ ?_
  refine r_loop (fun m e w' => ∃ (x1 : (List Int)) (i1 : Int), spec_l18Slacks_L1 s r1 m x1 i1 = some o1 ∧ e = [(2, .pointer (some ⟨bb1, 0, none⟩)), (5, .slice p4 r1.length k4), (6, .int .i64 i1)] ∧ SH w w' [Ch.own S1 (x1 : List Int) [.slice p4 r1.length k4], Ch.box bb1 [.slice p1 s.Latches.length k1, .slice p2 s.Links.length k2] 41]) n ⟨_, _, hF, rfl, h⟩ ?_
  rintro m1 e1 w3 ⟨x1, i1, hF, rfl, h⟩
  rcases m1 with _ | m1
  · rw [spec_l18Slacks_L1] at hF
    cases hF
  rw [spec_l18Slacks_L1] at hF
  refine r_seq ?_
  refine r_seq ?_
  refine r_region ?_
  refine r_p tabOk rfl rfl ?_
  refine r_p tabOk rfl rfl ?_
  refine r_p tabOk rfl rfl ?_
  refine r_p tabOk rfl rfl ?_
  refine r_nil ?_
  refine r_cond rfl (fun hc1 => ?_) (fun hc1 => ?_)
  · replace hF := bifT hc1 hF
    refine r_skip ?_
    refine r_seq ?_
    refine r_block ?_
    obtain ⟨y1, hy1, hF⟩ := bindS hF
    obtain ⟨y2, hy2, hF⟩ := bindS hF
    obtain ⟨y3, hy3, hF⟩ := bindS hF
    refine r_any [14] (fun w' => SH w w' [Ch.own S1 (x1 : List Int) [.slice p4 r1.length k4], Ch.box bb1 [.slice p1 s.Latches.length k1, .slice p2 s.Links.length k2] 41]) rfl 15 rfl #[false, false, false, false, false, false, false, false, false, false, false, false, false, false, false] (by kernel_rfl) (fun w5 hb => ?_)
    replace h := h.ext hb
    clear hb
    refine a_take 0 rfl #[true, false, false, false, false, false, false, false, false, false, false, false, false, false, false] (by kernel_rfl) (by kernel_rfl) (fun w' hw => v_p tabOk rfl w') (h.pick [0, 1] rfl) rfl ?_
    refine a_take 1 rfl #[true, true, false, false, false, false, false, false, false, false, false, false, false, false, false] (by kernel_rfl) (by kernel_rfl) (fun w' hw => v_p tabOk rfl w') (h.pick [0, 1] rfl) rfl ?_
    refine a_take 2 rfl #[true, true, true, false, false, false, false, false, false, false, false, false, false, false, false] (by kernel_rfl) (by kernel_rfl) (fun w' hw => v_p tabOk rfl w') (h.pick [0, 1] rfl) rfl ?_
    refine a_take 3 rfl #[true, true, true, true, false, false, false, false, false, false, false, false, false, false, false] (by kernel_rfl) (by kernel_rfl) (fun w' hw => v_ld tabOk (hw.box 1 rfl) (j := 0) rfl rfl rfl) (h.pick [0, 1] rfl) rfl ?_
    refine a_take 4 rfl #[true, true, true, true, true, false, false, false, false, false, false, false, false, false, false] (by kernel_rfl) (by kernel_rfl) (fun w' hw => v_p tabOk rfl w') (h.pick [0, 1] rfl) rfl ?_
    have he4 := idx_some hy1
    obtain ⟨b4, o_4, q4, cs6, hp4, hq4, -, hr5, hc5⟩ := s1.at hy1
    obtain rfl := open_TLatch hr5
    refine a_take 5 rfl #[true, true, true, true, true, true, false, false, false, false, false, false, false, false, false] (by kernel_rfl) (by kernel_rfl) (fun w' hw => v_ix tabOk hp4 hq4 ⟨he4.1, he4.2.1⟩ rfl rfl rfl rfl rfl rfl) (h.pick [0, 1] rfl) rfl ?_
    refine a_take 6 rfl #[true, true, true, true, true, true, true, false, false, false, false, false, false, false, false] (by kernel_rfl) (by kernel_rfl) (fun w' hw => v_p tabOk rfl w') (h.pick [0, 1] rfl) rfl ?_
    refine a_take 7 rfl #[true, true, true, true, true, true, true, true, false, false, false, false, false, false, false] (by kernel_rfl) (by kernel_rfl) (fun w' hw => v_ld tabOk (hc5.below hw.below) (j := 1) rfl rfl rfl) (h.pick [0, 1] rfl) rfl ?_
    refine a_take 8 rfl #[true, true, true, true, true, true, true, true, true, false, false, false, false, false, false] (by kernel_rfl) (by kernel_rfl) (fun w' hw => v_p tabOk rfl w') (h.pick [0, 1] rfl) rfl ?_
    refine a_take 9 rfl #[true, true, true, true, true, true, true, true, true, true, false, false, false, false, false] (by kernel_rfl) (by kernel_rfl) (fun w' hw => v_p tabOk rfl w') (h.pick [0, 1] rfl) rfl ?_
    have he5 := idx_some hy2
    obtain ⟨b5, o_5, q5, cs7, hp5, hq5, -, hr6, hc6⟩ := (h.sl 0 rfl).1.at hy2
    obtain rfl := hr6
    refine a_take 10 rfl #[true, true, true, true, true, true, true, true, true, true, true, false, false, false, false] (by kernel_rfl) (by kernel_rfl) (fun w' hw => v_ix tabOk hp5 hq5 ⟨he5.1, lt_ln he5.2.1 (h.sl 0 rfl).2⟩ rfl rfl rfl rfl rfl rfl) (h.pick [0, 1] rfl) rfl ?_
    refine a_take 11 rfl #[true, true, true, true, true, true, true, true, true, true, true, true, false, false, false] (by kernel_rfl) (by kernel_rfl) (fun w' hw => v_ld tabOk (own_cells (w1 := w) (S1 := fun _ => False) hw 0 rfl hy2 hp5 hq5 rfl) (j := 0) rfl rfl rfl) (h.pick [0, 1] rfl) rfl ?_
    refine a_take 12 rfl #[true, true, true, true, true, true, true, true, true, true, true, true, true, false, false] (by kernel_rfl) (by kernel_rfl) (fun w' hw => v_p tabOk rfl w') (h.pick [0, 1] rfl) rfl ?_
    have he6 := idx_some hy3
    obtain ⟨b6, o_6, q6, cs8, hp6, hq6, -, hr7, hc7⟩ := (h.sl 0 rfl).1.at hy3
    obtain rfl := hr7
    refine a_take 13 rfl #[true, true, true, true, true, true, true, true, true, true, true, true, true, true, false] (by kernel_rfl) (by kernel_rfl) (fun w' hw => v_ix tabOk hp6 hq6 ⟨he6.1, lt_ln he6.2.1 (h.sl 0 rfl).2⟩ rfl rfl rfl rfl rfl rfl) (h.pick [0, 1] rfl) rfl ?_
    refine a_only 14 rfl #[true, true, true, true, true, true, true, true, true, true, true, true, true, true, true] (by kernel_rfl) (by kernel_rfl) ?_
    refine r_stown tabOk 0 0 (W64 (y1.Close - y2)) h rfl hy3 hp6 hq6 rfl hc7 rfl rfl rfl rfl rfl rfl rfl ?_
    intro w6 h
    refine a_goal (fun hs => absurd (hs 14 (by decide)) (by decide)) ?_
    refine a_done (by kernel_rfl) ?_
    refine r_blk ?_
    refine r_region ?_
    refine r_p tabOk rfl rfl ?_
    refine r_p tabOk rfl rfl ?_
    refine r_p tabOk rfl rfl ?_
    refine r_nil ?_
    exact r_back m1 [(2, _), (5, _), (6, _)] (Nat.lt_succ_self m1) ⟨rfl, rfl, rfl, trivial⟩ ⟨_, _, hF, rfl, h⟩
  · replace hF := bifF hc1 hF
    refine r_exit rfl ?_
    obtain rfl := someI hF; replace hF := hK1
    refine r_seq ?_
    refine r_region ?_
    refine r_p tabOk rfl rfl ?_
    refine r_p tabOk rfl rfl ?_
    refine r_nil ?_
    obtain rfl := someI hF
    exact r_retV tabOk (ρ := (List Int)) [GoT.v (List Int) [.slice p4 r1.length k4]] h ⟨rfl, trivial⟩ (PV.done h (pv_one (po_own 0 h rfl)))

def spec_l18Step_L1 (s : TLatchSystem) (times : (List Int)) : Nat → (List Int) → Int → Option ((List Int) × Int)
  | 0, _, _ => none
  | n + 1, x1, i1 =>
    bif decide (i1 < (s.Links.length : Int)) then
      (idx s.Links i1).bind fun y1 =>
      (idx x1 y1.To).bind fun y2 =>
      (idx times y1.From).bind fun y3 =>
      (idx x1 y1.To).bind fun _ =>
      spec_l18Step_L1 s times n (setS x1 y1.To (if (W64 ((W64 (y3 + y1.Delay)) - y1.Shift)) > y2 then (W64 ((W64 (y3 + y1.Delay)) - y1.Shift)) else y2)) (W64 (i1 + 1))
    else
      some (x1, i1)

def spec_l18Step (n : Nat) (s : TLatchSystem) (times : (List Int)) : Option (List Int) :=
  (spec_l18Opens n s).bind fun r1 =>
  (spec_l18Step_L1 s times n r1 0).bind fun o => match o with
  | (x1, _) =>
    some x1

theorem spec_l18Step_ok {n : Nat} {w : World} {s : TLatchSystem} {times : (List Int)} {cs1 : List Value} (ha1 : GoT.R w (old w) s cs1) {cs2 : List Value} (ha2 : GoT.R w (old w) times cs2) {r : (List Int)} (hF : spec_l18Step n s times = some r) : RetV Try.prog 65 [GoT.v TLatchSystem cs1, GoT.v (List Int) cs2] w r := by
  obtain ⟨p1, k1, p2, k2, rfl, s1, s2⟩ := open_TLatchSystem ha1
  obtain ⟨p3, k3, rfl, s3⟩ := ha2
  refine retV_of_run Try.func65 rfl (m := 44) rfl rfl (fun h => ?_)
  rw [spec_l18Step] at hF
  refine r_seq ?_
  refine r_region ?_
  refine r_box h rfl rfl ?_
  intro w1 bb1 h
  refine r_p tabOk rfl rfl ?_
  refine r_nil ?_
  refine r_seq ?_
  refine r_region ?_
  refine r_v (v_ld tabOk (h.box 0 rfl) (j := 0) rfl rfl rfl) rfl ?_
  obtain ⟨r1, hr1, hF⟩ := bindS hF
  refine r_callL r1 h call51 (spec_l18Opens_ok (h.old ha1) hr1) rfl rfl rfl rfl ?_
  intro w2 S1 p4 k4 h
  refine r_p tabOk rfl rfl ?_
  refine r_nil ?_
  refine r_seq ?_
  refine r_seq ?_
  refine r_region ?_
  refine r_p tabOk rfl rfl ?_
  refine r_nil ?_
  obtain ⟨o1, hF, hK1⟩ := bindS hF
  refine r_block ?_
  refine r_sub [(1, _), (2, _), (5, _), (6, _)] ⟨rfl, rfl, rfl, rfl, trivial⟩ ?_
  refine r_loop (fun m e w' => ∃ (x1 : (List Int)) (i1 : Int), spec_l18Step_L1 s times m x1 i1 = some o1 ∧ e = [(1, .slice p3 times.length k3), (2, .pointer (some ⟨bb1, 0, none⟩)), (5, .slice p4 r1.length k4), (6, .int .i64 i1)] ∧ SH w w' [Ch.own S1 (x1 : List Int) [.slice p4 r1.length k4], Ch.box bb1 [.slice p1 s.Latches.length k1, .slice p2 s.Links.length k2] 41]) n ⟨_, _, hF, rfl, h⟩ ?_
  rintro m1 e1 w3 ⟨x1, i1, hF, rfl, h⟩
  rcases m1 with _ | m1
  · rw [spec_l18Step_L1] at hF
    cases hF
  rw [spec_l18Step_L1] at hF
  refine r_seq ?_
  refine r_seq ?_
  refine r_region ?_
  refine r_p tabOk rfl rfl ?_
  refine r_p tabOk rfl rfl ?_
  refine r_v (v_ld tabOk (h.box 1 rfl) (j := 1) rfl rfl rfl) rfl ?_
  refine r_p tabOk rfl rfl ?_
  refine r_p tabOk rfl rfl ?_
  refine r_nil ?_
  refine r_cond rfl (fun hc1 => ?_) (fun hc1 => ?_)
  · replace hF := bifT hc1 hF
    refine r_skip ?_
    refine r_seq ?_
    refine r_block ?_
    refine r_seq ?_
    refine r_region ?_
    refine r_p tabOk rfl rfl ?_
    refine r_v (v_ld tabOk (h.box 1 rfl) (j := 1) rfl rfl rfl) rfl ?_
    refine r_p tabOk rfl rfl ?_
    obtain ⟨y1, hy1, hF⟩ := bindS hF
    have he1 := idx_some hy1
    obtain ⟨b1, o_1, q1, cs3, hp1, hq1, -, hr2, hc2⟩ := s2.at hy1
    obtain rfl := open_TLatchLink hr2
    refine r_v (v_ix tabOk hp1 hq1 ⟨he1.1, he1.2.1⟩ rfl rfl rfl rfl rfl rfl) rfl ?_
    refine r_v (v_ld tabOk (hc2.below h.below) (j := 0) rfl rfl rfl) rfl ?_
    refine r_alloc tabOk h rfl rfl rfl ?_
    intro w4 bb2 h
    refine r_stbox tabOk 0 h rfl rfl rfl rfl rfl rfl rfl ?_
    intro w5 h
    refine r_nil ?_
    obtain ⟨y2, hy2, hF⟩ := bindS hF
    obtain ⟨y3, hy3, hF⟩ := bindS hF
    obtain ⟨y4, hy4, hF⟩ := bindS hF
    refine r_any [21] (fun w' => SH w w' [Ch.box bb2 [.int .i64 y1.From, .int .i64 y1.To, .int .i64 y1.Delay, .int .i64 y1.Shift] 76, Ch.own S1 (x1 : List Int) [.slice p4 r1.length k4]]) rfl 22 rfl #[false, false, false, false, false, false, false, false, false, false, false, false, false, false, false, false, false, false, false, false, false, false] (by kernel_rfl) (fun w7 hb => ?_)
    replace h := h.ext hb
    clear hb
    refine a_take 0 rfl #[true, false, false, false, false, false, false, false, false, false, false, false, false, false, false, false, false, false, false, false, false, false] (by kernel_rfl) (by kernel_rfl) (fun w' hw => v_p tabOk rfl w') (h.pick [0, 1] rfl) rfl ?_
    refine a_take 1 rfl #[true, true, false, false, false, false, false, false, false, false, false, false, false, false, false, false, false, false, false, false, false, false] (by kernel_rfl) (by kernel_rfl) (fun w' hw => v_p tabOk rfl w') (h.pick [0, 1] rfl) rfl ?_
    refine a_take 2 rfl #[true, true, true, false, false, false, false, false, false, false, false, false, false, false, false, false, false, false, false, false, false, false] (by kernel_rfl) (by kernel_rfl) (fun w' hw => v_ld tabOk (hw.box 0 rfl) (j := 1) rfl rfl rfl) (h.pick [0, 1] rfl) rfl ?_
    refine a_take 3 rfl #[true, true, true, true, false, false, false, false, false, false, false, false, false, false, false, false, false, false, false, false, false, false] (by kernel_rfl) (by kernel_rfl) (fun w' hw => v_p tabOk rfl w') (h.pick [0, 1] rfl) rfl ?_
    refine a_take 4 rfl #[true, true, true, true, true, false, false, false, false, false, false, false, false, false, false, false, false, false, false, false, false, false] (by kernel_rfl) (by kernel_rfl) (fun w' hw => v_p tabOk rfl w') (h.pick [0, 1] rfl) rfl ?_
    refine a_take 5 rfl #[true, true, true, true, true, true, false, false, false, false, false, false, false, false, false, false, false, false, false, false, false, false] (by kernel_rfl) (by kernel_rfl) (fun w' hw => v_ld tabOk (hw.box 0 rfl) (j := 1) rfl rfl rfl) (h.pick [0, 1] rfl) rfl ?_
    have he5 := idx_some hy2
    obtain ⟨b5, o_5, q5, cs7, hp5, hq5, -, hr6, hc6⟩ := (h.sl 1 rfl).1.at hy2
    obtain rfl := hr6
    refine a_take 6 rfl #[true, true, true, true, true, true, true, false, false, false, false, false, false, false, false, false, false, false, false, false, false, false] (by kernel_rfl) (by kernel_rfl) (fun w' hw => v_ix tabOk hp5 hq5 ⟨he5.1, lt_ln he5.2.1 (h.sl 1 rfl).2⟩ rfl rfl rfl rfl rfl rfl) (h.pick [0, 1] rfl) rfl ?_
    refine a_take 7 rfl #[true, true, true, true, true, true, true, true, false, false, false, false, false, false, false, false, false, false, false, false, false, false] (by kernel_rfl) (by kernel_rfl) (fun w' hw => v_ld tabOk (own_cells (w1 := w) (S1 := fun _ => False) hw 1 rfl hy2 hp5 hq5 rfl) (j := 0) rfl rfl rfl) (h.pick [0, 1] rfl) rfl ?_
    refine a_take 8 rfl #[true, true, true, true, true, true, true, true, true, false, false, false, false, false, false, false, false, false, false, false, false, false] (by kernel_rfl) (by kernel_rfl) (fun w' hw => v_p tabOk rfl w') (h.pick [0, 1] rfl) rfl ?_
    refine a_take 9 rfl #[true, true, true, true, true, true, true, true, true, true, false, false, false, false, false, false, false, false, false, false, false, false] (by kernel_rfl) (by kernel_rfl) (fun w' hw => v_p tabOk rfl w') (h.pick [0, 1] rfl) rfl ?_
    refine a_take 10 rfl #[true, true, true, true, true, true, true, true, true, true, true, false, false, false, false, false, false, false, false, false, false, false] (by kernel_rfl) (by kernel_rfl) (fun w' hw => v_ld tabOk (hw.box 0 rfl) (j := 0) rfl rfl rfl) (h.pick [0, 1] rfl) rfl ?_
    have he6 := idx_some hy3
    obtain ⟨b6, o_6, q6, cs8, hp6, hq6, -, hr7, hc7⟩ := s3.at hy3
    obtain rfl := hr7
    refine a_take 11 rfl #[true, true, true, true, true, true, true, true, true, true, true, true, false, false, false, false, false, false, false, false, false, false] (by kernel_rfl) (by kernel_rfl) (fun w' hw => v_ix tabOk hp6 hq6 ⟨he6.1, he6.2.1⟩ rfl rfl rfl rfl rfl rfl) (h.pick [0, 1] rfl) rfl ?_
    refine a_take 12 rfl #[true, true, true, true, true, true, true, true, true, true, true, true, true, false, false, false, false, false, false, false, false, false] (by kernel_rfl) (by kernel_rfl) (fun w' hw => v_ld tabOk (hc7.below hw.below) (j := 0) rfl rfl rfl) (h.pick [0, 1] rfl) rfl ?_
    refine a_take 13 rfl #[true, true, true, true, true, true, true, true, true, true, true, true, true, true, false, false, false, false, false, false, false, false] (by kernel_rfl) (by kernel_rfl) (fun w' hw => v_p tabOk rfl w') (h.pick [0, 1] rfl) rfl ?_
    refine a_take 14 rfl #[true, true, true, true, true, true, true, true, true, true, true, true, true, true, true, false, false, false, false, false, false, false] (by kernel_rfl) (by kernel_rfl) (fun w' hw => v_ld tabOk (hw.box 0 rfl) (j := 2) rfl rfl rfl) (h.pick [0, 1] rfl) rfl ?_
    refine a_take 15 rfl #[true, true, true, true, true, true, true, true, true, true, true, true, true, true, true, true, false, false, false, false, false, false] (by kernel_rfl) (by kernel_rfl) (fun w' hw => v_p tabOk rfl w') (h.pick [0, 1] rfl) rfl ?_
    refine a_take 16 rfl #[true, true, true, true, true, true, true, true, true, true, true, true, true, true, true, true, true, false, false, false, false, false] (by kernel_rfl) (by kernel_rfl) (fun w' hw => v_p tabOk rfl w') (h.pick [0, 1] rfl) rfl ?_
    refine a_take 17 rfl #[true, true, true, true, true, true, true, true, true, true, true, true, true, true, true, true, true, true, false, false, false, false] (by kernel_rfl) (by kernel_rfl) (fun w' hw => v_ld tabOk (hw.box 0 rfl) (j := 3) rfl rfl rfl) (h.pick [0, 1] rfl) rfl ?_
    refine a_take 18 rfl #[true, true, true, true, true, true, true, true, true, true, true, true, true, true, true, true, true, true, true, false, false, false] (by kernel_rfl) (by kernel_rfl) (fun w' hw => v_p tabOk rfl w') (h.pick [0, 1] rfl) rfl ?_
    refine a_take 19 rfl #[true, true, true, true, true, true, true, true, true, true, true, true, true, true, true, true, true, true, true, true, false, false] (by kernel_rfl) (by kernel_rfl) (fun w' hw => v_p tabOk rfl w') (h.pick [0, 1] rfl) rfl ?_
    have he7 := idx_some hy4
    obtain ⟨b7, o_7, q7, cs9, hp7, hq7, -, hr8, hc8⟩ := (h.sl 1 rfl).1.at hy4
    obtain rfl := hr8
    refine a_take 20 rfl #[true, true, true, true, true, true, true, true, true, true, true, true, true, true, true, true, true, true, true, true, true, false] (by kernel_rfl) (by kernel_rfl) (fun w' hw => v_ix tabOk hp7 hq7 ⟨he7.1, lt_ln he7.2.1 (h.sl 1 rfl).2⟩ rfl rfl rfl rfl rfl rfl) (h.pick [0, 1] rfl) rfl ?_
    refine a_only 21 rfl #[true, true, true, true, true, true, true, true, true, true, true, true, true, true, true, true, true, true, true, true, true, true] (by kernel_rfl) (by kernel_rfl) ?_
    refine r_stown tabOk 1 0 (if (W64 ((W64 (y3 + y1.Delay)) - y1.Shift)) > y2 then (W64 ((W64 (y3 + y1.Delay)) - y1.Shift)) else y2) h rfl hy4 hp7 hq7 rfl hc8 rfl rfl rfl rfl rfl rfl rfl ?_
    intro w8 h
    refine a_goal (fun hs => absurd (hs 21 (by decide)) (by decide)) ?_
    refine a_done (by kernel_rfl) ?_
    refine r_blk ?_
    refine r_region ?_
    refine r_p tabOk rfl rfl ?_
    refine r_p tabOk rfl rfl ?_
    refine r_p tabOk rfl rfl ?_
    refine r_nil ?_
    replace h := h.pick [1, 2] rfl
    exact r_back m1 [(1, _), (2, _), (5, _), (6, _)] (Nat.lt_succ_self m1) ⟨rfl, rfl, rfl, rfl, trivial⟩ ⟨_, _, hF, rfl, h⟩
  · replace hF := bifF hc1 hF
    refine r_exit rfl ?_
    obtain rfl := someI hF; replace hF := hK1
    refine r_seq ?_
    refine r_region ?_
    refine r_p tabOk rfl rfl ?_
    refine r_p tabOk rfl rfl ?_
    refine r_nil ?_
    obtain rfl := someI hF
    exact r_retV tabOk (ρ := (List Int)) [GoT.v (List Int) [.slice p4 r1.length k4]] h ⟨rfl, trivial⟩ (PV.done h (pv_one (po_own 0 h rfl)))

def spec_l18Same_L1 (a : (List Int)) (b : (List Int)) : Nat → Int → Option (Flow Bool Int)
  | 0, _ => none
  | n + 1, i1 =>
    bif decide (i1 < (a.length : Int)) then
      (idx a i1).bind fun y1 =>
      (idx b i1).bind fun y2 =>
      bif (y1 != y2) then
        some (.ret false)
      else
        spec_l18Same_L1 a b n (W64 (i1 + 1))
    else
      some (.nxt i1)

def spec_l18Same (n : Nat) (a : (List Int)) (b : (List Int)) : Option Bool :=
  bif ((a.length : Int) != (b.length : Int)) then
    some false
  else
    (spec_l18Same_L1 a b n 0).bind fun o => match o with
    | .ret r => some r
    | .nxt _ =>
      some true

theorem spec_l18Same_ok {n : Nat} {w : World} {a : (List Int)} {b : (List Int)} {cs1 : List Value} (ha1 : GoT.R w (old w) a cs1) {cs2 : List Value} (ha2 : GoT.R w (old w) b cs2) {r : Bool} (hF : spec_l18Same n a b = some r) : RetV Try.prog 66 [GoT.v (List Int) cs1, GoT.v (List Int) cs2] w r := by
  obtain ⟨p1, k1, rfl, s1⟩ := ha1
  obtain ⟨p2, k2, rfl, s2⟩ := ha2
  refine retV_of_run Try.func66 rfl (m := 26) rfl rfl (fun h => ?_)
  rw [spec_l18Same] at hF
  refine r_seq ?_
  refine r_region ?_
  refine r_p tabOk rfl rfl ?_
  refine r_nil ?_
  refine r_seq ?_
  refine r_seq ?_
  refine r_region ?_
  refine r_p tabOk rfl rfl ?_
  refine r_p tabOk rfl rfl ?_
  refine r_p tabOk rfl rfl ?_
  refine r_p tabOk rfl rfl ?_
  refine r_p tabOk rfl rfl ?_
  refine r_nil ?_
  refine r_cond rfl (fun hc1 => ?_) (fun hc1 => ?_)
  · replace hF := bifT hc1 hF
    refine r_seq ?_
    refine r_region ?_
    refine r_p tabOk rfl rfl ?_
    refine r_nil ?_
    obtain rfl := someI hF
    exact r_retV tabOk (ρ := Bool) [_] h ⟨rfl, trivial⟩ (vs_bool _ _)
  · replace hF := bifF hc1 hF
    refine r_skip ?_
    refine r_seq ?_
    refine r_seq ?_
    refine r_region ?_
    refine r_p tabOk rfl rfl ?_
    refine r_nil ?_
    obtain ⟨o1, hF, hK1⟩ := bindS hF
    refine r_block ?_
    refine r_sub [(0, _), (1, _), (5, _)] ⟨rfl, rfl, rfl, trivial⟩ ?_
    refine r_loop (fun m e w' => ∃ (i1 : Int), spec_l18Same_L1 a b m i1 = some o1 ∧ e = [(0, .slice p1 a.length k1), (1, .slice p2 b.length k2), (5, .int .i64 i1)] ∧ SH w w' []) n ⟨_, hF, rfl, h⟩ ?_
    rintro m1 e1 w1 ⟨i1, hF, rfl, h⟩
    rcases m1 with _ | m1
    · rw [spec_l18Same_L1] at hF
      cases hF
    rw [spec_l18Same_L1] at hF
    refine r_seq ?_
    refine r_seq ?_
    refine r_region ?_
    refine r_p tabOk rfl rfl ?_
    refine r_p tabOk rfl rfl ?_
    refine r_p tabOk rfl rfl ?_
    refine r_p tabOk rfl rfl ?_
    refine r_nil ?_
    refine r_cond rfl (fun hc2 => ?_) (fun hc2 => ?_)
    · replace hF := bifT hc2 hF
      refine r_skip ?_
      refine r_seq ?_
      refine r_block ?_
      refine r_seq ?_
      refine r_draw rfl (by kernel_rfl) ?_
      refine d_p tabOk rfl rfl ?_
      refine d_p tabOk rfl rfl ?_
      obtain ⟨y1, hy1, hF⟩ := bindS hF
      have he1 := idx_some hy1
      obtain ⟨b1, o_1, q1, cs3, hp1, hq1, -, hr1, hc3⟩ := s1.at hy1
      obtain rfl := hr1
      refine d_v (fun _ hb => v_ix tabOk hp1 hq1 ⟨he1.1, he1.2.1⟩ rfl rfl rfl rfl rfl rfl) rfl ?_
      refine d_v (fun _ hb => v_ld tabOk ((hc3.below h.below).below hb) (j := 0) rfl rfl rfl) rfl ?_
      refine d_p tabOk rfl rfl ?_
      refine d_p tabOk rfl rfl ?_
      obtain ⟨y2, hy2, hF⟩ := bindS hF
      have he2 := idx_some hy2
      obtain ⟨b2, o_2, q2, cs4, hp2, hq2, -, hr2, hc4⟩ := s2.at hy2
      obtain rfl := hr2
      refine d_v (fun _ hb => v_ix tabOk hp2 hq2 ⟨he2.1, he2.2.1⟩ rfl rfl rfl rfl rfl rfl) rfl ?_
      refine d_v (fun _ hb => v_ld tabOk ((hc4.below h.below).below hb) (j := 0) rfl rfl rfl) rfl ?_
      refine d_p tabOk rfl rfl ?_
      refine d_nil (fun w2 hb => ?_)
      replace h := h.ext hb
      clear hb
      refine r_cond rfl (fun hc5 => ?_) (fun hc5 => ?_)
      · replace hF := bifT hc5 hF
        refine r_seq ?_
        refine r_region ?_
        refine r_p tabOk rfl rfl ?_
        refine r_nil ?_
        obtain rfl := someI hF; replace hF := hK1
        obtain rfl := someI hF
        exact r_retV tabOk (ρ := Bool) [_] h ⟨rfl, trivial⟩ (vs_bool _ _)
      · replace hF := bifF hc5 hF
        refine r_skip ?_
        refine r_blk ?_
        refine r_region ?_
        refine r_p tabOk rfl rfl ?_
        refine r_p tabOk rfl rfl ?_
        refine r_p tabOk rfl rfl ?_
        refine r_nil ?_
        exact r_back m1 [(0, _), (1, _), (5, _)] (Nat.lt_succ_self m1) ⟨rfl, rfl, rfl, trivial⟩ ⟨_, hF, rfl, h⟩
    · replace hF := bifF hc2 hF
      refine r_exit rfl ?_
      obtain rfl := someI hF; replace hF := hK1
      refine r_seq ?_
      refine r_region ?_
      refine r_p tabOk rfl rfl ?_
      refine r_nil ?_
      obtain rfl := someI hF
      exact r_retV tabOk (ρ := Bool) [_] h ⟨rfl, trivial⟩ (vs_bool _ _)

def spec_l18Departures_L1 (s : TLatchSystem) : Nat → (List Int) → Int → Option (Flow ((List Int) × Bool) ((List Int) × Int))
  | 0, _, _ => none
  | n + 1, x1, i1 =>
    bif decide (i1 ≤ (s.Latches.length : Int)) then
      (spec_l18Step n s x1).bind fun r2 =>
      (spec_l18Same n r2 x1).bind fun r3 =>
      bif r3 then
        some (.ret (x1, true))
      else
        spec_l18Departures_L1 s n r2 (W64 (i1 + 1))
    else
      some (.nxt (x1, i1))

def spec_l18Departures (n : Nat) (s : TLatchSystem) : Option ((List Int) × Bool) :=
  (spec_l18Opens n s).bind fun r1 =>
  (spec_l18Departures_L1 s n r1 0).bind fun o => match o with
  | .ret r => some r
  | .nxt (_, _) =>
    some (([] : List Int), false)

theorem spec_l18Departures_ok {n : Nat} {w : World} {s : TLatchSystem} {cs1 : List Value} (ha1 : GoT.R w (old w) s cs1) {r : ((List Int) × Bool)} (hF : spec_l18Departures n s = some r) : RetV Try.prog 50 [GoT.v TLatchSystem cs1] w r := by
  obtain ⟨p1, k1, p2, k2, rfl, s1, s2⟩ := open_TLatchSystem ha1
  refine retV_of_run Try.func50 rfl (m := 25) rfl rfl (fun h => ?_)
  rw [spec_l18Departures] at hF
  refine r_seq ?_
  refine r_region ?_
  refine r_box h rfl rfl ?_
  intro w1 bb1 h
  refine r_p tabOk rfl rfl ?_
  refine r_p tabOk rfl rfl ?_
  refine r_nil ?_
  refine r_seq ?_
  refine r_region ?_
  refine r_v (v_ld tabOk (h.box 0 rfl) (j := 0) rfl rfl rfl) rfl ?_
  obtain ⟨r1, hr1, hF⟩ := bindS hF
  refine r_callL r1 h call51 (spec_l18Opens_ok (h.old ha1) hr1) rfl rfl rfl rfl ?_
  intro w2 S1 p3 k3 h
  refine r_p tabOk rfl rfl ?_
  refine r_nil ?_
  refine r_seq ?_
  refine r_seq ?_
  refine r_region ?_
  refine r_p tabOk rfl rfl ?_
  refine r_nil ?_
  obtain ⟨o1, hF, hK1⟩ := bindS hF
  refine r_block ?_
  refine r_sub [(1, _), (4, _), (5, _)] ⟨rfl, rfl, rfl, trivial⟩ ?_
  refine r_loop (fun m e w' => ∃ (S2 : Nat → Prop) (p4 : Option Addr) (ln1 : Nat) (k4 : Nat) (x1 : (List Int)) (i1 : Int), spec_l18Departures_L1 s m x1 i1 = some o1 ∧ e = [(1, .pointer (some ⟨bb1, 0, none⟩)), (4, .slice p4 ln1 k4), (5, .int .i64 i1)] ∧ SH w w' [Ch.own S2 (x1 : List Int) [.slice p4 ln1 k4], Ch.box bb1 [.slice p1 s.Latches.length k1, .slice p2 s.Links.length k2] 41]) n ⟨_, _, _, _, _, _, hF, rfl, h⟩ ?_
  rintro m1 e1 w3 ⟨S2, p4, ln1, k4, x1, i1, hF, rfl, h⟩
  obtain rfl := (h.sl 0 rfl).2
  rcases m1 with _ | m1
  · rw [spec_l18Departures_L1] at hF
    cases hF
  rw [spec_l18Departures_L1] at hF
  refine r_seq ?_
  refine r_seq ?_
  refine r_region ?_
  refine r_p tabOk rfl rfl ?_
  refine r_p tabOk rfl rfl ?_
  refine r_v (v_ld tabOk (h.box 1 rfl) (j := 0) rfl rfl rfl) rfl ?_
  refine r_p tabOk rfl rfl ?_
  refine r_p tabOk rfl rfl ?_
  refine r_nil ?_
  refine r_cond rfl (fun hc1 => ?_) (fun hc1 => ?_)
  · replace hF := bifT hc1 hF
    refine r_skip ?_
    refine r_seq ?_
    refine r_block ?_
    refine r_seq ?_
    refine r_region ?_
    refine r_v (v_ld tabOk (h.box 1 rfl) (j := 0) rfl rfl rfl) rfl ?_
    refine r_p tabOk rfl rfl ?_
    obtain ⟨r2, hr2, hF⟩ := bindS hF
    refine r_callL r2 h call65 (spec_l18Step_ok (h.old ha1) (h.own 0 rfl) hr2) rfl rfl rfl rfl ?_
    intro w4 S3 p5 k5 h
    refine r_p tabOk rfl rfl ?_
    refine r_nil ?_
    refine r_seq ?_
    refine r_seq ?_
    refine r_region ?_
    refine r_p tabOk rfl rfl ?_
    refine r_p tabOk rfl rfl ?_
    obtain ⟨r3, hr3, hF⟩ := bindS hF
    refine r_callB r3 h call66 (spec_l18Same_ok (h.own 0 rfl) (h.own 1 rfl) hr3) rfl rfl rfl rfl ?_
    intro w5 h
    refine r_nil ?_
    refine r_cond rfl (fun hc2 => ?_) (fun hc2 => ?_)
    · replace hF := bifT hc2 hF
      refine r_seq ?_
      refine r_region ?_
      refine r_p tabOk rfl rfl ?_
      refine r_p tabOk rfl rfl ?_
      refine r_p tabOk rfl rfl ?_
      refine r_nil ?_
      obtain rfl := someI hF; replace hF := hK1
      obtain rfl := someI hF
      exact r_retV tabOk (ρ := ((List Int) × Bool)) [GoT.v (List Int) [.slice p4 x1.length k4], GoT.v Bool [.bool true]] h ⟨rfl, rfl, trivial⟩ (PV.done h (pv_cons h (po_own 1 h rfl) (pv_one (po_flat (S := fun _ => False) rfl)) (by rfl)))
    · replace hF := bifF hc2 hF
      refine r_skip ?_
      refine r_region ?_
      refine r_p tabOk rfl rfl ?_
      refine r_p tabOk rfl rfl ?_
      refine r_nil ?_
      refine r_blk ?_
      refine r_region ?_
      refine r_p tabOk rfl rfl ?_
      refine r_p tabOk rfl rfl ?_
      refine r_p tabOk rfl rfl ?_
      refine r_nil ?_
      replace h := h.pick [0, 2] rfl
      exact r_back m1 [(1, _), (4, _), (5, _)] (Nat.lt_succ_self m1) ⟨rfl, rfl, rfl, trivial⟩ ⟨_, _, _, _, _, _, hF, rfl, h⟩
  · replace hF := bifF hc1 hF
    refine r_exit rfl ?_
    obtain rfl := someI hF; replace hF := hK1
    refine r_seq ?_
    refine r_region ?_
    refine r_bslice tabOk [] _ ([] : List Int) h rfl rfl rfl rfl rfl rfl rfl rfl rfl trivial rfl ?_
    intro w6 p6 S4 h
    refine r_p tabOk rfl rfl ?_
    refine r_p tabOk rfl rfl ?_
    refine r_nil ?_
    obtain rfl := someI hF
    exact r_retV tabOk (ρ := ((List Int) × Bool)) [GoT.v (List Int) [.slice p6 0 0], GoT.v Bool [.bool false]] h ⟨rfl, rfl, trivial⟩ (PV.done h (pv_cons h (po_own 0 h rfl) (pv_one (po_flat (S := fun _ => False) rfl)) (by rfl)))

def spec_l18Fine_L1 (r4 : (List Int)) : Nat → Int → Option (Flow Bool Int)
  | 0, _ => none
  | n + 1, i1 =>
    bif decide (i1 < (r4.length : Int)) then
      (idx r4 i1).bind fun y1 =>
      bif decide (y1 < 0) then
        some (.ret false)
      else
        spec_l18Fine_L1 r4 n (W64 (i1 + 1))
    else
      some (.nxt i1)

def spec_l18Fine (n : Nat) (s : TLatchSystem) : Option Bool :=
  (spec_l18Departures n s).bind fun o => match o with
    | (r2, r3) =>
      bif (!r3) then
        some false
      else
        (spec_l18Slacks n s r2).bind fun r4 =>
        (spec_l18Fine_L1 r4 n 0).bind fun o => match o with
        | .ret r => some r
        | .nxt _ =>
          some true

theorem spec_l18Fine_ok {n : Nat} {w : World} {s : TLatchSystem} {cs1 : List Value} (ha1 : GoT.R w (old w) s cs1) {r : Bool} (hF : spec_l18Fine n s = some r) : RetV Try.prog 44 [GoT.v TLatchSystem cs1] w r := by
  obtain ⟨p1, k1, p2, k2, rfl, s1, s2⟩ := open_TLatchSystem ha1
  refine retV_of_run Try.func44 rfl (m := 28) rfl rfl (fun h => ?_)
  rw [spec_l18Fine] at hF
  refine r_seq ?_
  refine r_region ?_
  refine r_box h rfl rfl ?_
  intro w1 bb1 h
  refine r_p tabOk rfl rfl ?_
  refine r_nil ?_
  refine r_seq ?_
  refine r_region ?_
  refine r_v (v_ld tabOk (h.box 0 rfl) (j := 0) rfl rfl rfl) rfl ?_
  obtain ⟨r1, hr1, hF⟩ := bindS hF
  obtain ⟨r2, r3⟩ := r1
  refine r_call (r2, r3) h call50 (spec_l18Departures_ok (h.old ha1) hr1) rfl rfl rfl rfl ?_
  intro w2 S1 us1 hv1 hr2
  obtain ⟨S2, S3, p3, k3, us2, rfl, hv1, hr2⟩ := hv1.consL hr2
  obtain ⟨rfl, h⟩ := hv1.lastB hr2
  refine r_p tabOk rfl rfl ?_
  refine r_p tabOk rfl rfl ?_
  refine r_p tabOk rfl rfl ?_
  refine r_p tabOk rfl rfl ?_
  refine r_p tabOk rfl rfl ?_
  refine r_nil ?_
  refine r_seq ?_
  refine r_seq ?_
  refine r_region ?_
  refine r_p tabOk rfl rfl ?_
  refine r_p tabOk rfl rfl ?_
  refine r_nil ?_
  refine r_cond rfl (fun hc1 => ?_) (fun hc1 => ?_)
  · replace hF := bifT hc1 hF
    refine r_seq ?_
    refine r_region ?_
    refine r_p tabOk rfl rfl ?_
    refine r_nil ?_
    obtain rfl := someI hF
    exact r_retV tabOk (ρ := Bool) [_] h ⟨rfl, trivial⟩ (vs_bool _ _)
  · replace hF := bifF hc1 hF
    refine r_skip ?_
    refine r_seq ?_
    refine r_region ?_
    refine r_v (v_ld tabOk (h.box 1 rfl) (j := 0) rfl rfl rfl) rfl ?_
    refine r_p tabOk rfl rfl ?_
    obtain ⟨r4, hr3, hF⟩ := bindS hF
    refine r_callL r4 h call41 (spec_l18Slacks_ok (h.old ha1) (h.own 0 rfl) hr3) rfl rfl rfl rfl ?_
    intro w3 S5 p4 k4 h
    refine r_p tabOk rfl rfl ?_
    refine r_nil ?_
    refine r_seq ?_
    refine r_seq ?_
    refine r_region ?_
    refine r_p tabOk rfl rfl ?_
    refine r_nil ?_
    obtain ⟨o1, hF, hK1⟩ := bindS hF
    refine r_block ?_
    replace h := h.pick [0] rfl
    refine r_sub [(5, _), (6, _)] ⟨rfl, rfl, trivial⟩ ?_
    refine r_loop (fun m e w' => ∃ (i1 : Int), spec_l18Fine_L1 r4 m i1 = some o1 ∧ e = [(5, .slice p4 r4.length k4), (6, .int .i64 i1)] ∧ SH w w' [Ch.own S5 (r4 : List Int) [.slice p4 r4.length k4]]) n ⟨_, hF, rfl, h⟩ ?_
    rintro m1 e1 w4 ⟨i1, hF, rfl, h⟩
    rcases m1 with _ | m1
    · rw [spec_l18Fine_L1] at hF
      cases hF
    rw [spec_l18Fine_L1] at hF
    refine r_seq ?_
    refine r_seq ?_
    refine r_region ?_
    refine r_p tabOk rfl rfl ?_
    refine r_p tabOk rfl rfl ?_
    refine r_p tabOk rfl rfl ?_
    refine r_p tabOk rfl rfl ?_
    refine r_nil ?_
    refine r_cond rfl (fun hc2 => ?_) (fun hc2 => ?_)
    · replace hF := bifT hc2 hF
      refine r_skip ?_
      refine r_seq ?_
      refine r_block ?_
      refine r_seq ?_
      refine r_region ?_
      refine r_p tabOk rfl rfl ?_
      refine r_p tabOk rfl rfl ?_
      obtain ⟨y1, hy1, hF⟩ := bindS hF
      have he1 := idx_some hy1
      obtain ⟨b1, o_1, q1, cs2, hp1, hq1, -, hr4, hc3⟩ := (h.sl 0 rfl).1.at hy1
      obtain rfl := hr4
      refine r_v (v_ix tabOk hp1 hq1 ⟨he1.1, lt_ln he1.2.1 (h.sl 0 rfl).2⟩ rfl rfl rfl rfl rfl rfl) rfl ?_
      refine r_v (v_ld tabOk hc3 (j := 0) rfl rfl rfl) rfl ?_
      refine r_p tabOk rfl rfl ?_
      refine r_nil ?_
      refine r_cond rfl (fun hc4 => ?_) (fun hc4 => ?_)
      · replace hF := bifT hc4 hF
        refine r_seq ?_
        refine r_region ?_
        refine r_p tabOk rfl rfl ?_
        refine r_nil ?_
        obtain rfl := someI hF; replace hF := hK1
        obtain rfl := someI hF
        exact r_retV tabOk (ρ := Bool) [_] h ⟨rfl, trivial⟩ (vs_bool _ _)
      · replace hF := bifF hc4 hF
        refine r_skip ?_
        refine r_blk ?_
        refine r_region ?_
        refine r_p tabOk rfl rfl ?_
        refine r_p tabOk rfl rfl ?_
        refine r_p tabOk rfl rfl ?_
        refine r_nil ?_
        exact r_back m1 [(5, _), (6, _)] (Nat.lt_succ_self m1) ⟨rfl, rfl, trivial⟩ ⟨_, hF, rfl, h⟩
    · replace hF := bifF hc2 hF
      refine r_exit rfl ?_
      obtain rfl := someI hF; replace hF := hK1
      refine r_seq ?_
      refine r_region ?_
      refine r_p tabOk rfl rfl ?_
      refine r_nil ?_
      obtain rfl := someI hF
      exact r_retV tabOk (ρ := Bool) [_] h ⟨rfl, trivial⟩ (vs_bool _ _)

def spec_l18Shifted_L1 (s : TLatchSystem) (a_by : Int) : Nat → (List TLatchLink) → Int → Option ((List TLatchLink) × Int)
  | 0, _, _ => none
  | n + 1, x3, i1 =>
    bif decide (i1 < (((([] : List TLatchLink).length + s.Links.length) : Nat) : Int)) then
      (idx x3 i1).bind fun y1 =>
      (idx x3 i1).bind fun y2 =>
      spec_l18Shifted_L1 s a_by n (setS x3 i1 ({ y2 with Shift := W64 (y1.Shift + a_by) })) (W64 (i1 + 1))
    else
      some (x3, i1)

def spec_l18Shifted (n : Nat) (s : TLatchSystem) (a_by : Int) : Option TLatchSystem :=
  (appS ([] : List TLatch) s.Latches).bind fun x1 =>
  (appS ([] : List TLatchLink) s.Links).bind fun x2 =>
  (spec_l18Shifted_L1 s a_by n x2 0).bind fun o => match o with
  | (x3, _) =>
    some (⟨x1, x3⟩ : TLatchSystem)

theorem spec_l18Shifted_ok {n : Nat} {w : World} {s : TLatchSystem} {a_by : Int} {cs1 : List Value} (ha1 : GoT.R w (old w) s cs1) {r : TLatchSystem} (hF : spec_l18Shifted n s a_by = some r) : RetV Try.prog 45 [GoT.v TLatchSystem cs1, .int .i64 a_by] w r := by
  obtain ⟨p1, k1, p2, k2, rfl, s1, s2⟩ := open_TLatchSystem ha1
  refine retV_of_run Try.func45 rfl (m := 37) rfl rfl (fun h => ?_)
  rw [spec_l18Shifted] at hF
  refine r_seq ?_
  refine r_region ?_
  refine r_box h rfl rfl ?_
  intro w1 bb1 h
  refine r_alloc tabOk h rfl rfl rfl ?_
  intro w2 bb2 h
  refine r_nil ?_
  refine r_seq ?_
  obtain ⟨x1, hx1, hF⟩ := bindS hF
  obtain ⟨x2, hx2, hF⟩ := bindS hF
  refine r_cut (fun e w' => ∃ (bb16 : Nat) (S45 : Nat → Prop) (p47 : Option Addr) (k31 : Nat) (S46 : Nat → Prop) (p48 : Option Addr) (k32 : Nat), e = [(1, .int .i64 a_by), (4, .pointer (some ⟨bb2, 0, none⟩)), (5, .pointer (some ⟨bb16, 0, none⟩))] ∧ SH w w' [Ch.box bb16 [.slice p48 (([] : List TLatch).length + s.Latches.length) k32, .slice p47 (([] : List TLatchLink).length + s.Links.length) k31] 41, Ch.own S45 (x2 : List TLatchLink) [.slice p47 (([] : List TLatchLink).length + s.Links.length) k31], Ch.own S46 (x1 : List TLatch) [.slice p48 (([] : List TLatch).length + s.Latches.length) k32], Ch.box bb2 [.slice none 0 0, .slice none 0 0] 41]) ?_ ?_
  · refine r_any [10] (fun w' => SH w w' [Ch.box bb1 [.slice p1 s.Latches.length k1, .slice p2 s.Links.length k2] 41]) rfl 11 rfl #[false, false, false, false, false, false, false, false, false, false, false] (by kernel_rfl) (fun w9 hb => ?_)
    replace h := h.ext hb
    clear hb
    refine a_take 1 rfl #[false, true, false, false, false, false, false, false, false, false, false] (by kernel_rfl) (by kernel_rfl) (fun w' hw => v_p tabOk rfl w') (h.pick [1] rfl) rfl ?_
    refine a_take 2 rfl #[false, true, true, false, false, false, false, false, false, false, false] (by kernel_rfl) (by kernel_rfl) (fun w' hw => v_ld tabOk (hw.box 0 rfl) (j := 0) rfl rfl rfl) (h.pick [1] rfl) rfl ?_
    refine a_take 5 rfl #[false, true, true, false, false, true, false, false, false, false, false] (by kernel_rfl) (by kernel_rfl) (fun w' hw => v_p tabOk rfl w') (h.pick [1] rfl) rfl ?_
    refine a_take 6 rfl #[false, true, true, false, false, true, true, false, false, false, false] (by kernel_rfl) (by kernel_rfl) (fun w' hw => v_ld tabOk (hw.box 0 rfl) (j := 1) rfl rfl rfl) (h.pick [1] rfl) rfl ?_
    refine a_three 0 4 9 rfl rfl rfl #[true, true, true, false, false, true, true, false, false, false, false] #[false, true, true, false, true, true, true, false, false, false, false] #[false, true, true, false, false, true, true, false, false, true, false] (by kernel_rfl) (by kernel_rfl) (by kernel_rfl)  (by kernel_rfl) ?_ ?_ ?_
    · refine r_bslice tabOk [] _ ([] : List TLatch) h rfl rfl rfl rfl rfl rfl rfl rfl rfl trivial rfl ?_
      intro w77 p49 S47 h
      refine a_goal (fun _ => (h.pick [2] rfl)) ?_
      refine a_three 3 4 9 rfl rfl rfl #[true, true, true, true, false, true, true, false, false, false, false] #[true, true, true, false, true, true, true, false, false, false, false] #[true, true, true, false, false, true, true, false, false, true, false] (by kernel_rfl) (by kernel_rfl) (by kernel_rfl)  (by kernel_rfl) ?_ ?_ ?_
      · obtain ⟨g29, hx1⟩ := appS_some hx1
        refine r_app tabOk 0 h rfl (h.oldS s1) rfl rfl rfl rfl rfl rfl rfl rfl rfl rfl g29 rfl ?_
        intro w78 p50 k33 S48 h
        rw [hx1] at h
        refine a_goal (fun _ => (h.pick [2] rfl)) ?_
        refine a_two 4 9 rfl rfl #[true, true, true, true, true, true, true, false, false, false, false] #[true, true, true, true, false, true, true, false, false, true, false] (by kernel_rfl) (by kernel_rfl)  (by kernel_rfl) ?_ ?_
        · refine r_bslice tabOk [] _ ([] : List TLatchLink) h rfl rfl rfl rfl rfl rfl rfl rfl rfl trivial rfl ?_
          intro w79 p51 S49 h
          refine a_goal (fun _ => (h.pick [3] rfl)) ?_
          refine a_two 7 9 rfl rfl #[true, true, true, true, true, true, true, true, false, false, false] #[true, true, true, true, true, true, true, false, false, true, false] (by kernel_rfl) (by kernel_rfl)  (by kernel_rfl) ?_ ?_
          · obtain ⟨g30, hx2⟩ := appS_some hx2
            refine r_app tabOk 0 h rfl (h.oldS s2) rfl rfl rfl rfl rfl rfl rfl rfl rfl rfl g30 rfl ?_
            intro w80 p52 k34 S50 h
            rw [hx2] at h
            refine a_goal (fun _ => (h.pick [3] rfl)) ?_
            refine a_take 8 rfl #[true, true, true, true, true, true, true, true, true, false, false] (by kernel_rfl) (by kernel_rfl) (fun w' hw => v_build tabOk [0, 1] [.tmp 10, .tmp 14] rfl rfl rfl rfl rfl rfl rfl rfl) (h.pick [3] rfl) rfl ?_
            refine a_only 9 rfl #[true, true, true, true, true, true, true, true, true, true, false] (by kernel_rfl) (by kernel_rfl) ?_
            refine r_alloc tabOk h rfl rfl rfl ?_
            intro w81 bb17 h
            refine a_goal (fun _ => (h.pick [4] rfl)) ?_
            refine a_only 10 rfl #[true, true, true, true, true, true, true, true, true, true, true] (by kernel_rfl) (by kernel_rfl) ?_
            refine r_stbox tabOk 0 h rfl rfl rfl rfl rfl rfl rfl ?_
            intro w82 h
            refine a_goal (fun hs => absurd (hs 10 (by decide)) (by decide)) ?_
            refine a_done (by kernel_rfl) ?_
            replace h := h.pick [0, 1, 2, 3] rfl
            exact r_cutgoal [(1, _), (4, _), (5, _)] ⟨rfl, rfl, rfl, trivial⟩ ⟨_, _, _, _, _, _, _, rfl, h⟩
          · refine r_alloc tabOk h rfl rfl rfl ?_
            intro w83 bb18 h
            refine a_goal (fun _ => (h.pick [4] rfl)) ?_
            refine a_only 7 rfl #[true, true, true, true, true, true, true, true, false, true, false] (by kernel_rfl) (by kernel_rfl) ?_
            obtain ⟨g31, hx2⟩ := appS_some hx2
            refine r_app tabOk 1 h rfl (h.oldS s2) rfl rfl rfl rfl rfl rfl rfl rfl rfl rfl g31 rfl ?_
            intro w84 p53 k35 S51 h
            rw [hx2] at h
            refine a_goal (fun _ => (h.pick [4] rfl)) ?_
            refine a_take 8 rfl #[true, true, true, true, true, true, true, true, true, true, false] (by kernel_rfl) (by kernel_rfl) (fun w' hw => v_build tabOk [0, 1] [.tmp 10, .tmp 14] rfl rfl rfl rfl rfl rfl rfl rfl) (h.pick [4] rfl) rfl ?_
            refine a_only 10 rfl #[true, true, true, true, true, true, true, true, true, true, true] (by kernel_rfl) (by kernel_rfl) ?_
            refine r_stbox tabOk 0 h rfl rfl rfl rfl rfl rfl rfl ?_
            intro w85 h
            refine a_goal (fun hs => absurd (hs 10 (by decide)) (by decide)) ?_
            refine a_done (by kernel_rfl) ?_
            replace h := h.pick [0, 1, 2, 3] rfl
            exact r_cutgoal [(1, _), (4, _), (5, _)] ⟨rfl, rfl, rfl, trivial⟩ ⟨_, _, _, _, _, _, _, rfl, h⟩
        · refine r_alloc tabOk h rfl rfl rfl ?_
          intro w86 bb19 h
          refine a_goal (fun _ => (h.pick [3] rfl)) ?_
          refine a_only 4 rfl #[true, true, true, true, true, true, true, false, false, true, false] (by kernel_rfl) (by kernel_rfl) ?_
          refine r_bslice tabOk [] _ ([] : List TLatchLink) h rfl rfl rfl rfl rfl rfl rfl rfl rfl trivial rfl ?_
          intro w87 p54 S52 h
          refine a_goal (fun _ => (h.pick [4] rfl)) ?_
          refine a_only 7 rfl #[true, true, true, true, true, true, true, true, false, true, false] (by kernel_rfl) (by kernel_rfl) ?_
          obtain ⟨g32, hx2⟩ := appS_some hx2
          refine r_app tabOk 0 h rfl (h.oldS s2) rfl rfl rfl rfl rfl rfl rfl rfl rfl rfl g32 rfl ?_
          intro w88 p55 k36 S53 h
          rw [hx2] at h
          refine a_goal (fun _ => (h.pick [4] rfl)) ?_
          refine a_take 8 rfl #[true, true, true, true, true, true, true, true, true, true, false] (by kernel_rfl) (by kernel_rfl) (fun w' hw => v_build tabOk [0, 1] [.tmp 10, .tmp 14] rfl rfl rfl rfl rfl rfl rfl rfl) (h.pick [4] rfl) rfl ?_
          refine a_only 10 rfl #[true, true, true, true, true, true, true, true, true, true, true] (by kernel_rfl) (by kernel_rfl) ?_
          refine r_stbox tabOk 1 h rfl rfl rfl rfl rfl rfl rfl ?_
          intro w89 h
          refine a_goal (fun hs => absurd (hs 10 (by decide)) (by decide)) ?_
          refine a_done (by kernel_rfl) ?_
          replace h := h.pick [1, 0, 2, 3] rfl
          exact r_cutgoal [(1, _), (4, _), (5, _)] ⟨rfl, rfl, rfl, trivial⟩ ⟨_, _, _, _, _, _, _, rfl, h⟩
      · refine r_bslice tabOk [] _ ([] : List TLatchLink) h rfl rfl rfl rfl rfl rfl rfl rfl rfl trivial rfl ?_
        intro w90 p56 S54 h
        refine a_goal (fun _ => (h.pick [3] rfl)) ?_
        refine a_two 3 9 rfl rfl #[true, true, true, true, true, true, true, false, false, false, false] #[true, true, true, false, true, true, true, false, false, true, false] (by kernel_rfl) (by kernel_rfl)  (by kernel_rfl) ?_ ?_
        · obtain ⟨g33, hx1⟩ := appS_some hx1
          refine r_app tabOk 1 h rfl (h.oldS s1) rfl rfl rfl rfl rfl rfl rfl rfl rfl rfl g33 rfl ?_
          intro w91 p57 k37 S55 h
          rw [hx1] at h
          refine a_goal (fun _ => (h.pick [3] rfl)) ?_
          refine a_two 7 9 rfl rfl #[true, true, true, true, true, true, true, true, false, false, false] #[true, true, true, true, true, true, true, false, false, true, false] (by kernel_rfl) (by kernel_rfl)  (by kernel_rfl) ?_ ?_
          · obtain ⟨g34, hx2⟩ := appS_some hx2
            refine r_app tabOk 0 h rfl (h.oldS s2) rfl rfl rfl rfl rfl rfl rfl rfl rfl rfl g34 rfl ?_
            intro w92 p58 k38 S56 h
            rw [hx2] at h
            refine a_goal (fun _ => (h.pick [3] rfl)) ?_
            refine a_take 8 rfl #[true, true, true, true, true, true, true, true, true, false, false] (by kernel_rfl) (by kernel_rfl) (fun w' hw => v_build tabOk [0, 1] [.tmp 10, .tmp 14] rfl rfl rfl rfl rfl rfl rfl rfl) (h.pick [3] rfl) rfl ?_
            refine a_only 9 rfl #[true, true, true, true, true, true, true, true, true, true, false] (by kernel_rfl) (by kernel_rfl) ?_
            refine r_alloc tabOk h rfl rfl rfl ?_
            intro w93 bb20 h
            refine a_goal (fun _ => (h.pick [4] rfl)) ?_
            refine a_only 10 rfl #[true, true, true, true, true, true, true, true, true, true, true] (by kernel_rfl) (by kernel_rfl) ?_
            refine r_stbox tabOk 0 h rfl rfl rfl rfl rfl rfl rfl ?_
            intro w94 h
            refine a_goal (fun hs => absurd (hs 10 (by decide)) (by decide)) ?_
            refine a_done (by kernel_rfl) ?_
            replace h := h.pick [0, 1, 2, 3] rfl
            exact r_cutgoal [(1, _), (4, _), (5, _)] ⟨rfl, rfl, rfl, trivial⟩ ⟨_, _, _, _, _, _, _, rfl, h⟩
          · refine r_alloc tabOk h rfl rfl rfl ?_
            intro w95 bb21 h
            refine a_goal (fun _ => (h.pick [4] rfl)) ?_
            refine a_only 7 rfl #[true, true, true, true, true, true, true, true, false, true, false] (by kernel_rfl) (by kernel_rfl) ?_
            obtain ⟨g35, hx2⟩ := appS_some hx2
            refine r_app tabOk 1 h rfl (h.oldS s2) rfl rfl rfl rfl rfl rfl rfl rfl rfl rfl g35 rfl ?_
            intro w96 p59 k39 S57 h
            rw [hx2] at h
            refine a_goal (fun _ => (h.pick [4] rfl)) ?_
            refine a_take 8 rfl #[true, true, true, true, true, true, true, true, true, true, false] (by kernel_rfl) (by kernel_rfl) (fun w' hw => v_build tabOk [0, 1] [.tmp 10, .tmp 14] rfl rfl rfl rfl rfl rfl rfl rfl) (h.pick [4] rfl) rfl ?_
            refine a_only 10 rfl #[true, true, true, true, true, true, true, true, true, true, true] (by kernel_rfl) (by kernel_rfl) ?_
            refine r_stbox tabOk 0 h rfl rfl rfl rfl rfl rfl rfl ?_
            intro w97 h
            refine a_goal (fun hs => absurd (hs 10 (by decide)) (by decide)) ?_
            refine a_done (by kernel_rfl) ?_
            replace h := h.pick [0, 1, 2, 3] rfl
            exact r_cutgoal [(1, _), (4, _), (5, _)] ⟨rfl, rfl, rfl, trivial⟩ ⟨_, _, _, _, _, _, _, rfl, h⟩
        · refine r_alloc tabOk h rfl rfl rfl ?_
          intro w98 bb22 h
          refine a_goal (fun _ => (h.pick [4] rfl)) ?_
          refine a_only 3 rfl #[true, true, true, true, true, true, true, false, false, true, false] (by kernel_rfl) (by kernel_rfl) ?_
          obtain ⟨g36, hx1⟩ := appS_some hx1
          refine r_app tabOk 2 h rfl (h.oldS s1) rfl rfl rfl rfl rfl rfl rfl rfl rfl rfl g36 rfl ?_
          intro w99 p60 k40 S58 h
          rw [hx1] at h
          refine a_goal (fun _ => (h.pick [4] rfl)) ?_
          refine a_only 7 rfl #[true, true, true, true, true, true, true, true, false, true, false] (by kernel_rfl) (by kernel_rfl) ?_
          obtain ⟨g37, hx2⟩ := appS_some hx2
          refine r_app tabOk 1 h rfl (h.oldS s2) rfl rfl rfl rfl rfl rfl rfl rfl rfl rfl g37 rfl ?_
          intro w100 p61 k41 S59 h
          rw [hx2] at h
          refine a_goal (fun _ => (h.pick [4] rfl)) ?_
          refine a_take 8 rfl #[true, true, true, true, true, true, true, true, true, true, false] (by kernel_rfl) (by kernel_rfl) (fun w' hw => v_build tabOk [0, 1] [.tmp 10, .tmp 14] rfl rfl rfl rfl rfl rfl rfl rfl) (h.pick [4] rfl) rfl ?_
          refine a_only 10 rfl #[true, true, true, true, true, true, true, true, true, true, true] (by kernel_rfl) (by kernel_rfl) ?_
          refine r_stbox tabOk 0 h rfl rfl rfl rfl rfl rfl rfl ?_
          intro w101 h
          refine a_goal (fun hs => absurd (hs 10 (by decide)) (by decide)) ?_
          refine a_done (by kernel_rfl) ?_
          replace h := h.pick [0, 1, 2, 3] rfl
          exact r_cutgoal [(1, _), (4, _), (5, _)] ⟨rfl, rfl, rfl, trivial⟩ ⟨_, _, _, _, _, _, _, rfl, h⟩
      · refine r_alloc tabOk h rfl rfl rfl ?_
        intro w102 bb23 h
        refine a_goal (fun _ => (h.pick [3] rfl)) ?_
        refine a_two 3 4 rfl rfl #[true, true, true, true, false, true, true, false, false, true, false] #[true, true, true, false, true, true, true, false, false, true, false] (by kernel_rfl) (by kernel_rfl)  (by kernel_rfl) ?_ ?_
        · obtain ⟨g38, hx1⟩ := appS_some hx1
          refine r_app tabOk 1 h rfl (h.oldS s1) rfl rfl rfl rfl rfl rfl rfl rfl rfl rfl g38 rfl ?_
          intro w103 p62 k42 S60 h
          rw [hx1] at h
          refine a_goal (fun _ => (h.pick [3] rfl)) ?_
          refine a_only 4 rfl #[true, true, true, true, true, true, true, false, false, true, false] (by kernel_rfl) (by kernel_rfl) ?_
          refine r_bslice tabOk [] _ ([] : List TLatchLink) h rfl rfl rfl rfl rfl rfl rfl rfl rfl trivial rfl ?_
          intro w104 p63 S61 h
          refine a_goal (fun _ => (h.pick [4] rfl)) ?_
          refine a_only 7 rfl #[true, true, true, true, true, true, true, true, false, true, false] (by kernel_rfl) (by kernel_rfl) ?_
          obtain ⟨g39, hx2⟩ := appS_some hx2
          refine r_app tabOk 0 h rfl (h.oldS s2) rfl rfl rfl rfl rfl rfl rfl rfl rfl rfl g39 rfl ?_
          intro w105 p64 k43 S62 h
          rw [hx2] at h
          refine a_goal (fun _ => (h.pick [4] rfl)) ?_
          refine a_take 8 rfl #[true, true, true, true, true, true, true, true, true, true, false] (by kernel_rfl) (by kernel_rfl) (fun w' hw => v_build tabOk [0, 1] [.tmp 10, .tmp 14] rfl rfl rfl rfl rfl rfl rfl rfl) (h.pick [4] rfl) rfl ?_
          refine a_only 10 rfl #[true, true, true, true, true, true, true, true, true, true, true] (by kernel_rfl) (by kernel_rfl) ?_
          refine r_stbox tabOk 1 h rfl rfl rfl rfl rfl rfl rfl ?_
          intro w106 h
          refine a_goal (fun hs => absurd (hs 10 (by decide)) (by decide)) ?_
          refine a_done (by kernel_rfl) ?_
          replace h := h.pick [1, 0, 2, 3] rfl
          exact r_cutgoal [(1, _), (4, _), (5, _)] ⟨rfl, rfl, rfl, trivial⟩ ⟨_, _, _, _, _, _, _, rfl, h⟩
        · refine r_bslice tabOk [] _ ([] : List TLatchLink) h rfl rfl rfl rfl rfl rfl rfl rfl rfl trivial rfl ?_
          intro w107 p65 S63 h
          refine a_goal (fun _ => (h.pick [4] rfl)) ?_
          refine a_only 3 rfl #[true, true, true, true, true, true, true, false, false, true, false] (by kernel_rfl) (by kernel_rfl) ?_
          obtain ⟨g40, hx1⟩ := appS_some hx1
          refine r_app tabOk 2 h rfl (h.oldS s1) rfl rfl rfl rfl rfl rfl rfl rfl rfl rfl g40 rfl ?_
          intro w108 p66 k44 S64 h
          rw [hx1] at h
          refine a_goal (fun _ => (h.pick [4] rfl)) ?_
          refine a_only 7 rfl #[true, true, true, true, true, true, true, true, false, true, false] (by kernel_rfl) (by kernel_rfl) ?_
          obtain ⟨g41, hx2⟩ := appS_some hx2
          refine r_app tabOk 0 h rfl (h.oldS s2) rfl rfl rfl rfl rfl rfl rfl rfl rfl rfl g41 rfl ?_
          intro w109 p67 k45 S65 h
          rw [hx2] at h
          refine a_goal (fun _ => (h.pick [4] rfl)) ?_
          refine a_take 8 rfl #[true, true, true, true, true, true, true, true, true, true, false] (by kernel_rfl) (by kernel_rfl) (fun w' hw => v_build tabOk [0, 1] [.tmp 10, .tmp 14] rfl rfl rfl rfl rfl rfl rfl rfl) (h.pick [4] rfl) rfl ?_
          refine a_only 10 rfl #[true, true, true, true, true, true, true, true, true, true, true] (by kernel_rfl) (by kernel_rfl) ?_
          refine r_stbox tabOk 1 h rfl rfl rfl rfl rfl rfl rfl ?_
          intro w110 h
          refine a_goal (fun hs => absurd (hs 10 (by decide)) (by decide)) ?_
          refine a_done (by kernel_rfl) ?_
          replace h := h.pick [1, 0, 2, 3] rfl
          exact r_cutgoal [(1, _), (4, _), (5, _)] ⟨rfl, rfl, rfl, trivial⟩ ⟨_, _, _, _, _, _, _, rfl, h⟩
    · refine r_bslice tabOk [] _ ([] : List TLatchLink) h rfl rfl rfl rfl rfl rfl rfl rfl rfl trivial rfl ?_
      intro w111 p68 S66 h
      refine a_goal (fun _ => (h.pick [2] rfl)) ?_
      refine a_two 0 9 rfl rfl #[true, true, true, false, true, true, true, false, false, false, false] #[false, true, true, false, true, true, true, false, false, true, false] (by kernel_rfl) (by kernel_rfl)  (by kernel_rfl) ?_ ?_
      · refine r_bslice tabOk [] _ ([] : List TLatch) h rfl rfl rfl rfl rfl rfl rfl rfl rfl trivial rfl ?_
        intro w112 p69 S67 h
        refine a_goal (fun _ => (h.pick [3] rfl)) ?_
        refine a_two 3 9 rfl rfl #[true, true, true, true, true, true, true, false, false, false, false] #[true, true, true, false, true, true, true, false, false, true, false] (by kernel_rfl) (by kernel_rfl)  (by kernel_rfl) ?_ ?_
        · obtain ⟨g42, hx1⟩ := appS_some hx1
          refine r_app tabOk 0 h rfl (h.oldS s1) rfl rfl rfl rfl rfl rfl rfl rfl rfl rfl g42 rfl ?_
          intro w113 p70 k46 S68 h
          rw [hx1] at h
          refine a_goal (fun _ => (h.pick [3] rfl)) ?_
          refine a_two 7 9 rfl rfl #[true, true, true, true, true, true, true, true, false, false, false] #[true, true, true, true, true, true, true, false, false, true, false] (by kernel_rfl) (by kernel_rfl)  (by kernel_rfl) ?_ ?_
          · obtain ⟨g43, hx2⟩ := appS_some hx2
            refine r_app tabOk 1 h rfl (h.oldS s2) rfl rfl rfl rfl rfl rfl rfl rfl rfl rfl g43 rfl ?_
            intro w114 p71 k47 S69 h
            rw [hx2] at h
            refine a_goal (fun _ => (h.pick [3] rfl)) ?_
            refine a_take 8 rfl #[true, true, true, true, true, true, true, true, true, false, false] (by kernel_rfl) (by kernel_rfl) (fun w' hw => v_build tabOk [0, 1] [.tmp 10, .tmp 14] rfl rfl rfl rfl rfl rfl rfl rfl) (h.pick [3] rfl) rfl ?_
            refine a_only 9 rfl #[true, true, true, true, true, true, true, true, true, true, false] (by kernel_rfl) (by kernel_rfl) ?_
            refine r_alloc tabOk h rfl rfl rfl ?_
            intro w115 bb24 h
            refine a_goal (fun _ => (h.pick [4] rfl)) ?_
            refine a_only 10 rfl #[true, true, true, true, true, true, true, true, true, true, true] (by kernel_rfl) (by kernel_rfl) ?_
            refine r_stbox tabOk 0 h rfl rfl rfl rfl rfl rfl rfl ?_
            intro w116 h
            refine a_goal (fun hs => absurd (hs 10 (by decide)) (by decide)) ?_
            refine a_done (by kernel_rfl) ?_
            replace h := h.pick [0, 2, 1, 3] rfl
            exact r_cutgoal [(1, _), (4, _), (5, _)] ⟨rfl, rfl, rfl, trivial⟩ ⟨_, _, _, _, _, _, _, rfl, h⟩
          · refine r_alloc tabOk h rfl rfl rfl ?_
            intro w117 bb25 h
            refine a_goal (fun _ => (h.pick [4] rfl)) ?_
            refine a_only 7 rfl #[true, true, true, true, true, true, true, true, false, true, false] (by kernel_rfl) (by kernel_rfl) ?_
            obtain ⟨g44, hx2⟩ := appS_some hx2
            refine r_app tabOk 2 h rfl (h.oldS s2) rfl rfl rfl rfl rfl rfl rfl rfl rfl rfl g44 rfl ?_
            intro w118 p72 k48 S70 h
            rw [hx2] at h
            refine a_goal (fun _ => (h.pick [4] rfl)) ?_
            refine a_take 8 rfl #[true, true, true, true, true, true, true, true, true, true, false] (by kernel_rfl) (by kernel_rfl) (fun w' hw => v_build tabOk [0, 1] [.tmp 10, .tmp 14] rfl rfl rfl rfl rfl rfl rfl rfl) (h.pick [4] rfl) rfl ?_
            refine a_only 10 rfl #[true, true, true, true, true, true, true, true, true, true, true] (by kernel_rfl) (by kernel_rfl) ?_
            refine r_stbox tabOk 0 h rfl rfl rfl rfl rfl rfl rfl ?_
            intro w119 h
            refine a_goal (fun hs => absurd (hs 10 (by decide)) (by decide)) ?_
            refine a_done (by kernel_rfl) ?_
            replace h := h.pick [0, 2, 1, 3] rfl
            exact r_cutgoal [(1, _), (4, _), (5, _)] ⟨rfl, rfl, rfl, trivial⟩ ⟨_, _, _, _, _, _, _, rfl, h⟩
        · refine r_alloc tabOk h rfl rfl rfl ?_
          intro w120 bb26 h
          refine a_goal (fun _ => (h.pick [4] rfl)) ?_
          refine a_only 3 rfl #[true, true, true, true, true, true, true, false, false, true, false] (by kernel_rfl) (by kernel_rfl) ?_
          obtain ⟨g45, hx1⟩ := appS_some hx1
          refine r_app tabOk 1 h rfl (h.oldS s1) rfl rfl rfl rfl rfl rfl rfl rfl rfl rfl g45 rfl ?_
          intro w121 p73 k49 S71 h
          rw [hx1] at h
          refine a_goal (fun _ => (h.pick [4] rfl)) ?_
          refine a_only 7 rfl #[true, true, true, true, true, true, true, true, false, true, false] (by kernel_rfl) (by kernel_rfl) ?_
          obtain ⟨g46, hx2⟩ := appS_some hx2
          refine r_app tabOk 2 h rfl (h.oldS s2) rfl rfl rfl rfl rfl rfl rfl rfl rfl rfl g46 rfl ?_
          intro w122 p74 k50 S72 h
          rw [hx2] at h
          refine a_goal (fun _ => (h.pick [4] rfl)) ?_
          refine a_take 8 rfl #[true, true, true, true, true, true, true, true, true, true, false] (by kernel_rfl) (by kernel_rfl) (fun w' hw => v_build tabOk [0, 1] [.tmp 10, .tmp 14] rfl rfl rfl rfl rfl rfl rfl rfl) (h.pick [4] rfl) rfl ?_
          refine a_only 10 rfl #[true, true, true, true, true, true, true, true, true, true, true] (by kernel_rfl) (by kernel_rfl) ?_
          refine r_stbox tabOk 0 h rfl rfl rfl rfl rfl rfl rfl ?_
          intro w123 h
          refine a_goal (fun hs => absurd (hs 10 (by decide)) (by decide)) ?_
          refine a_done (by kernel_rfl) ?_
          replace h := h.pick [0, 2, 1, 3] rfl
          exact r_cutgoal [(1, _), (4, _), (5, _)] ⟨rfl, rfl, rfl, trivial⟩ ⟨_, _, _, _, _, _, _, rfl, h⟩
      · refine r_alloc tabOk h rfl rfl rfl ?_
        intro w124 bb27 h
        refine a_goal (fun _ => (h.pick [3] rfl)) ?_
        refine a_only 0 rfl #[true, true, true, false, true, true, true, false, false, true, false] (by kernel_rfl) (by kernel_rfl) ?_
        refine r_bslice tabOk [] _ ([] : List TLatch) h rfl rfl rfl rfl rfl rfl rfl rfl rfl trivial rfl ?_
        intro w125 p75 S73 h
        refine a_goal (fun _ => (h.pick [4] rfl)) ?_
        refine a_only 3 rfl #[true, true, true, true, true, true, true, false, false, true, false] (by kernel_rfl) (by kernel_rfl) ?_
        obtain ⟨g47, hx1⟩ := appS_some hx1
        refine r_app tabOk 0 h rfl (h.oldS s1) rfl rfl rfl rfl rfl rfl rfl rfl rfl rfl g47 rfl ?_
        intro w126 p76 k51 S74 h
        rw [hx1] at h
        refine a_goal (fun _ => (h.pick [4] rfl)) ?_
        refine a_only 7 rfl #[true, true, true, true, true, true, true, true, false, true, false] (by kernel_rfl) (by kernel_rfl) ?_
        obtain ⟨g48, hx2⟩ := appS_some hx2
        refine r_app tabOk 2 h rfl (h.oldS s2) rfl rfl rfl rfl rfl rfl rfl rfl rfl rfl g48 rfl ?_
        intro w127 p77 k52 S75 h
        rw [hx2] at h
        refine a_goal (fun _ => (h.pick [4] rfl)) ?_
        refine a_take 8 rfl #[true, true, true, true, true, true, true, true, true, true, false] (by kernel_rfl) (by kernel_rfl) (fun w' hw => v_build tabOk [0, 1] [.tmp 10, .tmp 14] rfl rfl rfl rfl rfl rfl rfl rfl) (h.pick [4] rfl) rfl ?_
        refine a_only 10 rfl #[true, true, true, true, true, true, true, true, true, true, true] (by kernel_rfl) (by kernel_rfl) ?_
        refine r_stbox tabOk 1 h rfl rfl rfl rfl rfl rfl rfl ?_
        intro w128 h
        refine a_goal (fun hs => absurd (hs 10 (by decide)) (by decide)) ?_
        refine a_done (by kernel_rfl) ?_
        replace h := h.pick [1, 2, 0, 3] rfl
        exact r_cutgoal [(1, _), (4, _), (5, _)] ⟨rfl, rfl, rfl, trivial⟩ ⟨_, _, _, _, _, _, _, rfl, h⟩
    · refine r_alloc tabOk h rfl rfl rfl ?_
      intro w129 bb28 h
      refine a_goal (fun _ => (h.pick [2] rfl)) ?_
      refine a_two 0 4 rfl rfl #[true, true, true, false, false, true, true, false, false, true, false] #[false, true, true, false, true, true, true, false, false, true, false] (by kernel_rfl) (by kernel_rfl)  (by kernel_rfl) ?_ ?_
      · refine r_bslice tabOk [] _ ([] : List TLatch) h rfl rfl rfl rfl rfl rfl rfl rfl rfl trivial rfl ?_
        intro w130 p78 S76 h
        refine a_goal (fun _ => (h.pick [3] rfl)) ?_
        refine a_two 3 4 rfl rfl #[true, true, true, true, false, true, true, false, false, true, false] #[true, true, true, false, true, true, true, false, false, true, false] (by kernel_rfl) (by kernel_rfl)  (by kernel_rfl) ?_ ?_
        · obtain ⟨g49, hx1⟩ := appS_some hx1
          refine r_app tabOk 0 h rfl (h.oldS s1) rfl rfl rfl rfl rfl rfl rfl rfl rfl rfl g49 rfl ?_
          intro w131 p79 k53 S77 h
          rw [hx1] at h
          refine a_goal (fun _ => (h.pick [3] rfl)) ?_
          refine a_only 4 rfl #[true, true, true, true, true, true, true, false, false, true, false] (by kernel_rfl) (by kernel_rfl) ?_
          refine r_bslice tabOk [] _ ([] : List TLatchLink) h rfl rfl rfl rfl rfl rfl rfl rfl rfl trivial rfl ?_
          intro w132 p80 S78 h
          refine a_goal (fun _ => (h.pick [4] rfl)) ?_
          refine a_only 7 rfl #[true, true, true, true, true, true, true, true, false, true, false] (by kernel_rfl) (by kernel_rfl) ?_
          obtain ⟨g50, hx2⟩ := appS_some hx2
          refine r_app tabOk 0 h rfl (h.oldS s2) rfl rfl rfl rfl rfl rfl rfl rfl rfl rfl g50 rfl ?_
          intro w133 p81 k54 S79 h
          rw [hx2] at h
          refine a_goal (fun _ => (h.pick [4] rfl)) ?_
          refine a_take 8 rfl #[true, true, true, true, true, true, true, true, true, true, false] (by kernel_rfl) (by kernel_rfl) (fun w' hw => v_build tabOk [0, 1] [.tmp 10, .tmp 14] rfl rfl rfl rfl rfl rfl rfl rfl) (h.pick [4] rfl) rfl ?_
          refine a_only 10 rfl #[true, true, true, true, true, true, true, true, true, true, true] (by kernel_rfl) (by kernel_rfl) ?_
          refine r_stbox tabOk 2 h rfl rfl rfl rfl rfl rfl rfl ?_
          intro w134 h
          refine a_goal (fun hs => absurd (hs 10 (by decide)) (by decide)) ?_
          refine a_done (by kernel_rfl) ?_
          replace h := h.pick [2, 0, 1, 3] rfl
          exact r_cutgoal [(1, _), (4, _), (5, _)] ⟨rfl, rfl, rfl, trivial⟩ ⟨_, _, _, _, _, _, _, rfl, h⟩
        · refine r_bslice tabOk [] _ ([] : List TLatchLink) h rfl rfl rfl rfl rfl rfl rfl rfl rfl trivial rfl ?_
          intro w135 p82 S80 h
          refine a_goal (fun _ => (h.pick [4] rfl)) ?_
          refine a_only 3 rfl #[true, true, true, true, true, true, true, false, false, true, false] (by kernel_rfl) (by kernel_rfl) ?_
          obtain ⟨g51, hx1⟩ := appS_some hx1
          refine r_app tabOk 1 h rfl (h.oldS s1) rfl rfl rfl rfl rfl rfl rfl rfl rfl rfl g51 rfl ?_
          intro w136 p83 k55 S81 h
          rw [hx1] at h
          refine a_goal (fun _ => (h.pick [4] rfl)) ?_
          refine a_only 7 rfl #[true, true, true, true, true, true, true, true, false, true, false] (by kernel_rfl) (by kernel_rfl) ?_
          obtain ⟨g52, hx2⟩ := appS_some hx2
          refine r_app tabOk 0 h rfl (h.oldS s2) rfl rfl rfl rfl rfl rfl rfl rfl rfl rfl g52 rfl ?_
          intro w137 p84 k56 S82 h
          rw [hx2] at h
          refine a_goal (fun _ => (h.pick [4] rfl)) ?_
          refine a_take 8 rfl #[true, true, true, true, true, true, true, true, true, true, false] (by kernel_rfl) (by kernel_rfl) (fun w' hw => v_build tabOk [0, 1] [.tmp 10, .tmp 14] rfl rfl rfl rfl rfl rfl rfl rfl) (h.pick [4] rfl) rfl ?_
          refine a_only 10 rfl #[true, true, true, true, true, true, true, true, true, true, true] (by kernel_rfl) (by kernel_rfl) ?_
          refine r_stbox tabOk 2 h rfl rfl rfl rfl rfl rfl rfl ?_
          intro w138 h
          refine a_goal (fun hs => absurd (hs 10 (by decide)) (by decide)) ?_
          refine a_done (by kernel_rfl) ?_
          replace h := h.pick [2, 0, 1, 3] rfl
          exact r_cutgoal [(1, _), (4, _), (5, _)] ⟨rfl, rfl, rfl, trivial⟩ ⟨_, _, _, _, _, _, _, rfl, h⟩
      · refine r_bslice tabOk [] _ ([] : List TLatchLink) h rfl rfl rfl rfl rfl rfl rfl rfl rfl trivial rfl ?_
        intro w139 p85 S83 h
        refine a_goal (fun _ => (h.pick [3] rfl)) ?_
        refine a_only 0 rfl #[true, true, true, false, true, true, true, false, false, true, false] (by kernel_rfl) (by kernel_rfl) ?_
        refine r_bslice tabOk [] _ ([] : List TLatch) h rfl rfl rfl rfl rfl rfl rfl rfl rfl trivial rfl ?_
        intro w140 p86 S84 h
        refine a_goal (fun _ => (h.pick [4] rfl)) ?_
        refine a_only 3 rfl #[true, true, true, true, true, true, true, false, false, true, false] (by kernel_rfl) (by kernel_rfl) ?_
        obtain ⟨g53, hx1⟩ := appS_some hx1
        refine r_app tabOk 0 h rfl (h.oldS s1) rfl rfl rfl rfl rfl rfl rfl rfl rfl rfl g53 rfl ?_
        intro w141 p87 k57 S85 h
        rw [hx1] at h
        refine a_goal (fun _ => (h.pick [4] rfl)) ?_
        refine a_only 7 rfl #[true, true, true, true, true, true, true, true, false, true, false] (by kernel_rfl) (by kernel_rfl) ?_
        obtain ⟨g54, hx2⟩ := appS_some hx2
        refine r_app tabOk 1 h rfl (h.oldS s2) rfl rfl rfl rfl rfl rfl rfl rfl rfl rfl g54 rfl ?_
        intro w142 p88 k58 S86 h
        rw [hx2] at h
        refine a_goal (fun _ => (h.pick [4] rfl)) ?_
        refine a_take 8 rfl #[true, true, true, true, true, true, true, true, true, true, false] (by kernel_rfl) (by kernel_rfl) (fun w' hw => v_build tabOk [0, 1] [.tmp 10, .tmp 14] rfl rfl rfl rfl rfl rfl rfl rfl) (h.pick [4] rfl) rfl ?_
        refine a_only 10 rfl #[true, true, true, true, true, true, true, true, true, true, true] (by kernel_rfl) (by kernel_rfl) ?_
        refine r_stbox tabOk 2 h rfl rfl rfl rfl rfl rfl rfl ?_
        intro w143 h
        refine a_goal (fun hs => absurd (hs 10 (by decide)) (by decide)) ?_
        refine a_done (by kernel_rfl) ?_
        replace h := h.pick [2, 1, 0, 3] rfl
        exact r_cutgoal [(1, _), (4, _), (5, _)] ⟨rfl, rfl, rfl, trivial⟩ ⟨_, _, _, _, _, _, _, rfl, h⟩
  · rintro e1 w144 ⟨bb16, S45, p47, k31, S46, p48, k32, rfl, h⟩
    refine r_seq ?_
    refine r_seq ?_
    refine r_region ?_
    refine r_p tabOk rfl rfl ?_
    refine r_nil ?_
    obtain ⟨o1, hF, hK1⟩ := bindS hF
    refine r_block ?_
    refine r_sub [(1, _), (4, _), (5, _), (6, _)] ⟨rfl, rfl, rfl, rfl, trivial⟩ ?_
    refine r_loop (fun m e w' => ∃ (x3 : (List TLatchLink)) (i1 : Int), spec_l18Shifted_L1 s a_by m x3 i1 = some o1 ∧ e = [(1, .int .i64 a_by), (4, .pointer (some ⟨bb2, 0, none⟩)), (5, .pointer (some ⟨bb16, 0, none⟩)), (6, .int .i64 i1)] ∧ SH w w' [Ch.box bb16 [.slice p48 (([] : List TLatch).length + s.Latches.length) k32, .slice p47 (([] : List TLatchLink).length + s.Links.length) k31] 41, Ch.own S45 (x3 : List TLatchLink) [.slice p47 (([] : List TLatchLink).length + s.Links.length) k31], Ch.own S46 (x1 : List TLatch) [.slice p48 (([] : List TLatch).length + s.Latches.length) k32], Ch.box bb2 [.slice none 0 0, .slice none 0 0] 41]) n ⟨_, _, hF, rfl, h⟩ ?_
    rintro m1 e2 w145 ⟨x3, i1, hF, rfl, h⟩
    rcases m1 with _ | m1
    · rw [spec_l18Shifted_L1] at hF
      cases hF
    rw [spec_l18Shifted_L1] at hF
    refine r_seq ?_
    refine r_seq ?_
    refine r_region ?_
    refine r_p tabOk rfl rfl ?_
    refine r_p tabOk rfl rfl ?_
    refine r_v (v_ld tabOk (h.box 0 rfl) (j := 1) rfl rfl rfl) rfl ?_
    refine r_p tabOk rfl rfl ?_
    refine r_p tabOk rfl rfl ?_
    refine r_nil ?_
    refine r_cond rfl (fun hc1 => ?_) (fun hc1 => ?_)
    · replace hF := bifT hc1 hF
      refine r_skip ?_
      refine r_seq ?_
      refine r_block ?_
      obtain ⟨y1, hy1, hF⟩ := bindS hF
      obtain ⟨y2, hy2, hF⟩ := bindS hF
      refine r_any [13] (fun w' => SH w w' [Ch.box bb16 [.slice p48 (([] : List TLatch).length + s.Latches.length) k32, .slice p47 (([] : List TLatchLink).length + s.Links.length) k31] 41, Ch.own S45 (x3 : List TLatchLink) [.slice p47 (([] : List TLatchLink).length + s.Links.length) k31]]) rfl 14 rfl #[false, false, false, false, false, false, false, false, false, false, false, false, false, false] (by kernel_rfl) (fun w147 hb => ?_)
      replace h := h.ext hb
      clear hb
      refine a_take 0 rfl #[true, false, false, false, false, false, false, false, false, false, false, false, false, false] (by kernel_rfl) (by kernel_rfl) (fun w' hw => v_p tabOk rfl w') (h.pick [0, 1] rfl) rfl ?_
      refine a_take 1 rfl #[true, true, false, false, false, false, false, false, false, false, false, false, false, false] (by kernel_rfl) (by kernel_rfl) (fun w' hw => v_ld tabOk (hw.box 0 rfl) (j := 1) rfl rfl rfl) (h.pick [0, 1] rfl) rfl ?_
      refine a_take 2 rfl #[true, true, true, false, false, false, false, false, false, false, false, false, false, false] (by kernel_rfl) (by kernel_rfl) (fun w' hw => v_p tabOk rfl w') (h.pick [0, 1] rfl) rfl ?_
      refine a_take 3 rfl #[true, true, true, true, false, false, false, false, false, false, false, false, false, false] (by kernel_rfl) (by kernel_rfl) (fun w' hw => v_p tabOk rfl w') (h.pick [0, 1] rfl) rfl ?_
      refine a_take 4 rfl #[true, true, true, true, true, false, false, false, false, false, false, false, false, false] (by kernel_rfl) (by kernel_rfl) (fun w' hw => v_ld tabOk (hw.box 0 rfl) (j := 1) rfl rfl rfl) (h.pick [0, 1] rfl) rfl ?_
      refine a_take 5 rfl #[true, true, true, true, true, true, false, false, false, false, false, false, false, false] (by kernel_rfl) (by kernel_rfl) (fun w' hw => v_p tabOk rfl w') (h.pick [0, 1] rfl) rfl ?_
      have he3 := idx_some hy1
      obtain ⟨b3, o_3, q3, cs4, hp3, hq3, -, hr3, hc4⟩ := (h.sl 1 rfl).1.at hy1
      obtain rfl := open_TLatchLink hr3
      refine a_take 6 rfl #[true, true, true, true, true, true, true, false, false, false, false, false, false, false] (by kernel_rfl) (by kernel_rfl) (fun w' hw => v_ix tabOk hp3 hq3 ⟨he3.1, lt_ln he3.2.1 (h.sl 1 rfl).2⟩ rfl rfl rfl rfl rfl rfl) (h.pick [0, 1] rfl) rfl ?_
      refine a_take 7 rfl #[true, true, true, true, true, true, true, true, false, false, false, false, false, false] (by kernel_rfl) (by kernel_rfl) (fun w' hw => v_p tabOk rfl w') (h.pick [0, 1] rfl) rfl ?_
      refine a_take 8 rfl #[true, true, true, true, true, true, true, true, true, false, false, false, false, false] (by kernel_rfl) (by kernel_rfl) (fun w' hw => v_ld tabOk (own_cells hw 1 rfl hy1 hp3 hq3 (mkR_TLatchLink (w := w) (S := fun _ => False) y1)) (j := 3) rfl rfl rfl) (h.pick [0, 1] rfl) rfl ?_
      refine a_take 9 rfl #[true, true, true, true, true, true, true, true, true, true, false, false, false, false] (by kernel_rfl) (by kernel_rfl) (fun w' hw => v_p tabOk rfl w') (h.pick [0, 1] rfl) rfl ?_
      refine a_take 10 rfl #[true, true, true, true, true, true, true, true, true, true, true, false, false, false] (by kernel_rfl) (by kernel_rfl) (fun w' hw => v_p tabOk rfl w') (h.pick [0, 1] rfl) rfl ?_
      refine a_only 11 rfl #[true, true, true, true, true, true, true, true, true, true, true, true, false, false] (by kernel_rfl) (by kernel_rfl) ?_
      have he4 := idx_some hy2
      obtain ⟨b4, o_4, q4, cs5, hp4, hq4, -, hr4, hc5⟩ := (h.sl 1 rfl).1.at hy2
      obtain rfl := open_TLatchLink hr4
      refine r_v (v_ix tabOk hp4 hq4 ⟨he4.1, lt_ln he4.2.1 (h.sl 1 rfl).2⟩ rfl rfl rfl rfl rfl rfl) rfl ?_
      refine a_goal (fun _ => (h.pick [0, 1] rfl)) ?_
      refine a_take 12 rfl #[true, true, true, true, true, true, true, true, true, true, true, true, true, false] (by kernel_rfl) (by kernel_rfl) (fun w' hw => v_p tabOk rfl w') (h.pick [0, 1] rfl) rfl ?_
      refine a_only 13 rfl #[true, true, true, true, true, true, true, true, true, true, true, true, true, true] (by kernel_rfl) (by kernel_rfl) ?_
      refine r_stown tabOk 1 3 ({ y2 with Shift := W64 (y1.Shift + a_by) }) h rfl hy2 hp4 hq4 (mkR_TLatchLink y2) hc5 rfl rfl rfl (mkR_TLatchLink ({ y2 with Shift := W64 (y1.Shift + a_by) })) rfl rfl rfl ?_
      intro w148 h
      refine a_goal (fun hs => absurd (hs 13 (by decide)) (by decide)) ?_
      refine a_done (by kernel_rfl) ?_
      refine r_blk ?_
      refine r_region ?_
      refine r_p tabOk rfl rfl ?_
      refine r_p tabOk rfl rfl ?_
      refine r_p tabOk rfl rfl ?_
      refine r_nil ?_
      exact r_back m1 [(1, _), (4, _), (5, _), (6, _)] (Nat.lt_succ_self m1) ⟨rfl, rfl, rfl, rfl, trivial⟩ ⟨_, _, hF, rfl, h⟩
    · replace hF := bifF hc1 hF
      refine r_exit rfl ?_
      obtain rfl := someI hF; replace hF := hK1
      refine r_seq ?_
      refine r_region ?_
      refine r_v (v_ld tabOk (h.box 0 rfl) (j := 0) rfl rfl rfl) rfl ?_
      refine r_stbox tabOk 3 h rfl rfl rfl rfl rfl rfl rfl ?_
      intro w149 h
      refine r_nil ?_
      obtain rfl := someI hF
      exact r_retV tabOk (ρ := TLatchSystem) [GoT.v TLatchSystem [.slice p48 (([] : List TLatch).length + s.Latches.length) k32, .slice p47 (([] : List TLatchLink).length + s.Links.length) k31]] h ⟨⟨_, _, _, rfl, rfl, h.box 3 rfl, rfl⟩, trivial⟩ (PV.done h (pv_one (po_TLatchSystem (⟨x1, x3⟩ : TLatchSystem) h (po_own 2 h rfl) (po_own 1 h rfl) (by rfl))))

def spec_LeastShift_L1 (s : TLatchSystem) : Nat → Int → Int → Option (Int × Int)
  | 0, _, _ => none
  | n + 1, i1, i2 =>
    bif decide (i1 < i2) then
      (spec_l18Shifted n s (W64 ((W64 (i1 + i2)).tdiv 2))).bind fun r5 =>
      (spec_l18Fine n r5).bind fun r6 =>
      bif r6 then
        spec_LeastShift_L1 s n i1 (W64 ((W64 (i1 + i2)).tdiv 2))
      else
        spec_LeastShift_L1 s n (W64 ((W64 ((W64 (i1 + i2)).tdiv 2)) + 1)) i2
    else
      some (i1, i2)

def spec_LeastShift (n : Nat) (s : TLatchSystem) : Option (Int × Int) :=
  (spec_IsLatchSystem n s).bind fun r1 =>
  bif (!r1) then
    some (0, 1)
  else
    (spec_l18Room n s).bind fun r2 =>
    (spec_l18Shifted n s r2).bind fun r3 =>
    (spec_l18Fine n r3).bind fun r4 =>
    bif (!r4) then
      some (0, 4)
    else
      (spec_LeastShift_L1 s n 0 r2).bind fun o => match o with
      | (i1, _) =>
        some (i1, 0)

theorem spec_LeastShift_ok {n : Nat} {w : World} {s : TLatchSystem} {cs1 : List Value} (ha1 : GoT.R w (old w) s cs1) {r : (Int × Int)} (hF : spec_LeastShift n s = some r) : RetV Try.prog 26 [GoT.v TLatchSystem cs1] w r := by
  obtain ⟨p1, k1, p2, k2, rfl, s1, s2⟩ := open_TLatchSystem ha1
  refine retV_of_run Try.func26 rfl (m := 32) rfl rfl (fun h => ?_)
  rw [spec_LeastShift] at hF
  refine r_seq ?_
  refine r_region ?_
  refine r_box h rfl rfl ?_
  intro w1 bb1 h
  refine r_p tabOk rfl rfl ?_
  refine r_p tabOk rfl rfl ?_
  refine r_nil ?_
  refine r_seq ?_
  refine r_seq ?_
  refine r_region ?_
  refine r_v (v_ld tabOk (h.box 0 rfl) (j := 0) rfl rfl rfl) rfl ?_
  obtain ⟨r1, hr1, hF⟩ := bindS hF
  refine r_callB r1 h call42 (spec_IsLatchSystem_ok (h.old ha1) hr1) rfl rfl rfl rfl ?_
  intro w2 h
  refine r_p tabOk rfl rfl ?_
  refine r_nil ?_
  refine r_cond rfl (fun hc1 => ?_) (fun hc1 => ?_)
  · replace hF := bifT hc1 hF
    refine r_seq ?_
    refine r_region ?_
    refine r_p tabOk rfl rfl ?_
    refine r_p tabOk rfl rfl ?_
    refine r_nil ?_
    obtain rfl := someI hF
    exact r_retV tabOk (ρ := (Int × Int)) [GoT.v Int [.int .i64 0], GoT.v Int [.int .i64 1]] h ⟨rfl, rfl, trivial⟩ (PV.done h (pv_cons h (po_flat (S := fun _ => False) rfl) (pv_one (po_flat (S := fun _ => False) rfl)) (by rfl)))
  · replace hF := bifF hc1 hF
    refine r_skip ?_
    refine r_seq ?_
    refine r_region ?_
    refine r_v (v_ld tabOk (h.box 0 rfl) (j := 0) rfl rfl rfl) rfl ?_
    obtain ⟨r2, hr2, hF⟩ := bindS hF
    refine r_callI r2 h call43 (spec_l18Room_ok (h.old ha1) hr2) rfl rfl rfl rfl ?_
    intro w3 h
    refine r_p tabOk rfl rfl ?_
    refine r_p tabOk rfl rfl ?_
    refine r_nil ?_
    refine r_seq ?_
    refine r_seq ?_
    refine r_region ?_
    refine r_v (v_ld tabOk (h.box 0 rfl) (j := 0) rfl rfl rfl) rfl ?_
    refine r_p tabOk rfl rfl ?_
    obtain ⟨r3, hr3, hF⟩ := bindS hF
    refine r_callO r3 h call45 (spec_l18Shifted_ok (h.old ha1) hr3) rfl rfl rfl rfl ?_
    intro w4 S1 cs2 h
    obtain ⟨p3, k3, p4, k4, rfl, -, -⟩ := open_TLatchSystem (h.own 0 rfl)
    obtain ⟨r4, hr4, hF⟩ := bindS hF
    refine r_callB r4 h call44 (spec_l18Fine_ok (h.own 0 rfl) hr4) rfl rfl rfl rfl ?_
    intro w5 h
    refine r_p tabOk rfl rfl ?_
    refine r_nil ?_
    refine r_cond rfl (fun hc2 => ?_) (fun hc2 => ?_)
    · replace hF := bifT hc2 hF
      refine r_seq ?_
      refine r_region ?_
      refine r_p tabOk rfl rfl ?_
      refine r_p tabOk rfl rfl ?_
      refine r_nil ?_
      obtain rfl := someI hF
      exact r_retV tabOk (ρ := (Int × Int)) [GoT.v Int [.int .i64 0], GoT.v Int [.int .i64 4]] h ⟨rfl, rfl, trivial⟩ (PV.done h (pv_cons h (po_flat (S := fun _ => False) rfl) (pv_one (po_flat (S := fun _ => False) rfl)) (by rfl)))
    · replace hF := bifF hc2 hF
      refine r_skip ?_
      refine r_seq ?_
      obtain ⟨o1, hF, hK1⟩ := bindS hF
      refine r_block ?_
      replace h := h.pick [1] rfl
      refine r_sub [(1, _), (4, _), (5, _)] ⟨rfl, rfl, rfl, trivial⟩ ?_
      refine r_loop (fun m e w' => ∃ (i1 : Int) (i2 : Int), spec_LeastShift_L1 s m i1 i2 = some o1 ∧ e = [(1, .pointer (some ⟨bb1, 0, none⟩)), (4, .int .i64 i1), (5, .int .i64 i2)] ∧ SH w w' [Ch.box bb1 [.slice p1 s.Latches.length k1, .slice p2 s.Links.length k2] 41]) n ⟨_, _, hF, rfl, h⟩ ?_
      rintro m1 e1 w6 ⟨i1, i2, hF, rfl, h⟩
      rcases m1 with _ | m1
      · rw [spec_LeastShift_L1] at hF
        cases hF
      rw [spec_LeastShift_L1] at hF
      refine r_seq ?_
      refine r_seq ?_
      refine r_region ?_
      refine r_p tabOk rfl rfl ?_
      refine r_p tabOk rfl rfl ?_
      refine r_p tabOk rfl rfl ?_
      refine r_nil ?_
      refine r_cond rfl (fun hc3 => ?_) (fun hc3 => ?_)
      · replace hF := bifT hc3 hF
        refine r_skip ?_
        refine r_block ?_
        refine r_seq ?_
        refine r_region ?_
        refine r_p tabOk rfl rfl ?_
        refine r_p tabOk rfl rfl ?_
        refine r_p tabOk rfl rfl ?_
        refine r_p tabOk rfl rfl ?_
        refine r_p tabOk rfl rfl ?_
        refine r_nil ?_
        refine r_seq ?_
        refine r_region ?_
        refine r_v (v_ld tabOk (h.box 0 rfl) (j := 0) rfl rfl rfl) rfl ?_
        refine r_p tabOk rfl rfl ?_
        obtain ⟨r5, hr5, hF⟩ := bindS hF
        refine r_callO r5 h call45 (spec_l18Shifted_ok (h.old ha1) hr5) rfl rfl rfl rfl ?_
        intro w7 S2 cs3 h
        obtain ⟨p5, k5, p6, k6, rfl, -, -⟩ := open_TLatchSystem (h.own 0 rfl)
        obtain ⟨r6, hr6, hF⟩ := bindS hF
        refine r_callB r6 h call44 (spec_l18Fine_ok (h.own 0 rfl) hr6) rfl rfl rfl rfl ?_
        intro w8 h
        refine r_nil ?_
        refine r_cond rfl (fun hc4 => ?_) (fun hc4 => ?_)
        · replace hF := bifT hc4 hF
          refine r_region ?_
          refine r_p tabOk rfl rfl ?_
          refine r_p tabOk rfl rfl ?_
          refine r_nil ?_
          refine r_blk ?_
          replace h := h.pick [1] rfl
          exact r_back m1 [(1, _), (4, _), (5, _)] (Nat.lt_succ_self m1) ⟨rfl, rfl, rfl, trivial⟩ ⟨_, _, hF, rfl, h⟩
        · replace hF := bifF hc4 hF
          refine r_region ?_
          refine r_p tabOk rfl rfl ?_
          refine r_p tabOk rfl rfl ?_
          refine r_p tabOk rfl rfl ?_
          refine r_nil ?_
          refine r_blk ?_
          replace h := h.pick [1] rfl
          exact r_back m1 [(1, _), (4, _), (5, _)] (Nat.lt_succ_self m1) ⟨rfl, rfl, rfl, trivial⟩ ⟨_, _, hF, rfl, h⟩
      · replace hF := bifF hc3 hF
        refine r_exit rfl ?_
        obtain rfl := someI hF; replace hF := hK1
        refine r_seq ?_
        refine r_region ?_
        refine r_p tabOk rfl rfl ?_
        refine r_p tabOk rfl rfl ?_
        refine r_p tabOk rfl rfl ?_
        refine r_nil ?_
        obtain rfl := someI hF
        exact r_retV tabOk (ρ := (Int × Int)) [GoT.v Int [.int .i64 i1], GoT.v Int [.int .i64 0]] h ⟨rfl, rfl, trivial⟩ (PV.done h (pv_cons h (po_flat (S := fun _ => False) rfl) (pv_one (po_flat (S := fun _ => False) rfl)) (by rfl)))

def impl_length_impl_Latch (_ : Nat) (list : (List TLatch)) : Option Int :=
  some (list.length : Int)

theorem impl_length_impl_Latch_ok {n : Nat} {w : World} {list : (List TLatch)} {cs1 : List Value} (ha1 : GoT.R w (old w) list cs1) {r : Int} (hF : impl_length_impl_Latch n list = some r) : RetV Try.prog 59 [GoT.v (List TLatch) cs1] w r := by
  obtain ⟨p1, k1, rfl, s1⟩ := ha1
  refine retV_of_run Try.func59 rfl (m := 5) rfl rfl (fun h => ?_)
  rw [impl_length_impl_Latch] at hF
  refine r_seq ?_
  refine r_region ?_
  refine r_p tabOk rfl rfl ?_
  refine r_nil ?_
  refine r_seq ?_
  refine r_region ?_
  refine r_p tabOk rfl rfl ?_
  refine r_p tabOk rfl rfl ?_
  refine r_p tabOk rfl rfl ?_
  refine r_nil ?_
  obtain rfl := someI hF
  exact r_retV tabOk (ρ := Int) [_] h ⟨rfl, trivial⟩ (vs_int _ _)

def impl_within (_ : Nat) (x : Int) (low : Int) (high : Int) : Option Bool :=
  bif decide (x ≥ low) then
    some (decide (x ≤ high))
  else
    some false

theorem impl_within_ok {n : Nat} {w : World} {x : Int} {low : Int} {high : Int}  {r : Bool} (hF : impl_within n x low high = some r) : RetV Try.prog 60 [.int .i64 x, .int .i64 low, .int .i64 high] w r := by
  refine retV_of_run Try.func60 rfl (m := 15) rfl rfl (fun h => ?_)
  rw [impl_within] at hF
  refine r_seq ?_
  refine r_region ?_
  refine r_p tabOk rfl rfl ?_
  refine r_nil ?_
  refine r_seq ?_
  refine r_region ?_
  refine r_p tabOk rfl rfl ?_
  refine r_p tabOk rfl rfl ?_
  refine r_p tabOk rfl rfl ?_
  refine r_p tabOk rfl rfl ?_
  by_cases hc1 : (decide (x ≥ low)) = true
  · replace hF := bifT hc1 hF
    refine r_setT hc1 (t := 10) rfl ?_
    refine r_wanted rfl ?_
    refine r_p tabOk rfl rfl ?_
    refine r_wanted rfl ?_
    refine r_p tabOk rfl rfl ?_
    refine r_wanted rfl ?_
    refine r_p tabOk rfl rfl ?_
    refine r_p tabOk rfl rfl ?_
    refine r_p tabOk rfl rfl ?_
    refine r_nil ?_
    obtain rfl := someI hF
    exact r_retV tabOk (ρ := Bool) [_] h ⟨rfl, trivial⟩ (vs_bool _ _)
  · replace hc1 := Bool.eq_false_iff.2 hc1
    replace hF := bifF hc1 hF
    refine r_setF hc1 (t := 10) rfl ?_
    refine r_unwanted rfl ?_ (fun _ hd => by cases hd; rfl)
    refine r_unwanted rfl ?_ (fun _ hd => by cases hd; rfl)
    refine r_unwanted rfl ?_ (fun _ hd => by cases hd; rfl)
    refine r_p tabOk rfl rfl ?_
    refine r_p tabOk rfl rfl ?_
    refine r_nil ?_
    obtain rfl := someI hF
    exact r_retV tabOk (ρ := Bool) [_] h ⟨rfl, trivial⟩ (vs_bool _ _)

def impl_IsLatchSystem_L2 (a_0 : TLatchSystem) (r1 : Int) : Nat → Int → Option (Flow Bool Int)
  | 0, _ => none
  | n + 1, i2 =>
    bif decide (i2 < (a_0.Links.length : Int)) then
      (idx a_0.Links i2).bind fun y2 =>
      (impl_within n y2.From 0 (W64 (r1 - 1))).bind fun r2 =>
      bif (!r2) then
        some (.ret false)
      else
        (impl_within n y2.To 0 (W64 (r1 - 1))).bind fun r3 =>
        bif (!r3) then
          some (.ret false)
        else
          (impl_within n y2.Delay 0 100000).bind fun r4 =>
          bif (!r4) then
            some (.ret false)
          else
            (impl_within n y2.Shift 0 100000).bind fun r5 =>
            bif (!r5) then
              some (.ret false)
            else
              impl_IsLatchSystem_L2 a_0 r1 n (W64 (i2 + 1))
    else
      some (.nxt i2)

def impl_IsLatchSystem_L1 (a_0 : TLatchSystem) : Nat → Int → Option (Flow Bool Int)
  | 0, _ => none
  | n + 1, i1 =>
    bif decide (i1 < (a_0.Latches.length : Int)) then
      (idx a_0.Latches i1).bind fun y1 =>
      bif decide (y1.Open < 0) then
        some (.ret false)
      else
        bif decide (y1.Open > y1.Close) then
          some (.ret false)
        else
          bif decide (y1.Close > 100000) then
            some (.ret false)
          else
            impl_IsLatchSystem_L1 a_0 n (W64 (i1 + 1))
    else
      some (.nxt i1)

def impl_IsLatchSystem (n : Nat) (a_0 : TLatchSystem) : Option Bool :=
  (impl_IsLatchSystem_L1 a_0 n 0).bind fun o => match o with
  | .ret r => some r
  | .nxt _ =>
    (impl_length_impl_Latch n a_0.Latches).bind fun r1 =>
    (impl_IsLatchSystem_L2 a_0 r1 n 0).bind fun o => match o with
    | .ret r => some r
    | .nxt _ =>
      bif decide (r1 ≤ 12) then
        some (decide ((a_0.Links.length : Int) ≤ 60))
      else
        some false

theorem impl_IsLatchSystem_ok {n : Nat} {w : World} {a_0 : TLatchSystem} {cs1 : List Value} (ha1 : GoT.R w (old w) a_0 cs1) {r : Bool} (hF : impl_IsLatchSystem n a_0 = some r) : RetV Try.prog 46 [GoT.v TLatchSystem cs1] w r := by
  obtain ⟨p1, k1, p2, k2, rfl, s1, s2⟩ := open_TLatchSystem ha1
  refine retV_of_run Try.func46 rfl (m := 76) rfl rfl (fun h => ?_)
  rw [impl_IsLatchSystem] at hF
  refine r_seq ?_
  refine r_region ?_
  refine r_box h rfl rfl ?_
  intro w1 bb1 h
  refine r_p tabOk rfl rfl ?_
  refine r_nil ?_
  refine r_seq ?_
  refine r_seq ?_
  refine r_region ?_
  refine r_p tabOk rfl rfl ?_
  refine r_v (v_ld tabOk (h.box 0 rfl) (j := 0) rfl rfl rfl) rfl ?_
  refine r_p tabOk rfl rfl ?_
  refine r_p tabOk rfl rfl ?_
  refine r_nil ?_
  obtain ⟨o1, hF, hK1⟩ := bindS hF
  refine r_block ?_
  refine r_sub [(1, _), (9, _), (10, _), (11, _)] ⟨rfl, rfl, rfl, rfl, trivial⟩ ?_
  refine r_loop (fun m e w' => ∃ (i1 : Int), impl_IsLatchSystem_L1 a_0 m i1 = some o1 ∧ e = [(1, .pointer (some ⟨bb1, 0, none⟩)), (9, .slice p1 a_0.Latches.length k1), (10, .int .i64 (a_0.Latches.length : Int)), (11, .int .i64 i1)] ∧ SH w w' [Ch.box bb1 [.slice p1 a_0.Latches.length k1, .slice p2 a_0.Links.length k2] 41]) n ⟨_, hF, rfl, h⟩ ?_
  rintro m1 e1 w2 ⟨i1, hF, rfl, h⟩
  rcases m1 with _ | m1
  · rw [impl_IsLatchSystem_L1] at hF
    cases hF
  rw [impl_IsLatchSystem_L1] at hF
  refine r_seq ?_
  refine r_region ?_
  refine r_p tabOk rfl rfl ?_
  refine r_nil ?_
  refine r_seq ?_
  refine r_cond rfl (fun hc1 => ?_) (fun hc1 => ?_)
  · replace hF := bifT hc1 hF
    refine r_skip ?_
    refine r_seq ?_
    refine r_block ?_
    refine r_seq ?_
    refine r_region ?_
    obtain ⟨y1, hy1, hF⟩ := bindS hF
    have he1 := idx_some hy1
    obtain ⟨b1, o_1, q1, cs2, hp1, hq1, -, hr1, hc2⟩ := s1.at hy1
    obtain rfl := open_TLatch hr1
    refine r_v (v_ix tabOk hp1 hq1 ⟨he1.1, he1.2.1⟩ rfl rfl rfl rfl rfl rfl) rfl ?_
    refine r_v (v_ld tabOk (hc2.below h.below) (j := 0) rfl rfl rfl) rfl ?_
    refine r_alloc tabOk h rfl rfl rfl ?_
    intro w3 bb2 h
    refine r_stbox tabOk 0 h rfl rfl rfl rfl rfl rfl rfl ?_
    intro w4 h
    refine r_nil ?_
    refine r_seq ?_
    refine r_region ?_
    refine r_p tabOk rfl rfl ?_
    refine r_v (v_ld tabOk (h.box 0 rfl) (j := 0) rfl rfl rfl) rfl ?_
    refine r_p tabOk rfl rfl ?_
    refine r_p tabOk rfl rfl ?_
    by_cases hc3 : (decide (y1.Open < 0)) = true
    · replace hF := bifT hc3 hF
      refine r_setT hc3 (t := 18) rfl ?_
      refine r_unwanted rfl ?_ (fun _ hd => by cases hd; rfl)
      refine r_unwanted rfl ?_ (fun _ hd => by cases hd; rfl)
      refine r_unwanted rfl ?_ (fun _ hd => by cases hd; rfl)
      refine r_unwanted rfl ?_ (fun _ hd => by cases hd; rfl)
      refine r_unwanted rfl ?_ (fun _ hd => by cases hd; rfl)
      refine r_p tabOk rfl rfl ?_
      refine r_p tabOk rfl rfl ?_
      refine r_unwanted rfl ?_ (fun _ hd => by cases hd; rfl)
      refine r_unwanted rfl ?_ (fun _ hd => by cases hd; rfl)
      refine r_unwanted rfl ?_ (fun _ hd => by cases hd; rfl)
      refine r_p tabOk rfl rfl ?_
      refine r_nil ?_
      refine r_condT rfl rfl ?_
      refine r_seq ?_
      refine r_region ?_
      refine r_p tabOk rfl rfl ?_
      refine r_nil ?_
      obtain rfl := someI hF; replace hF := hK1
      obtain rfl := someI hF
      exact r_retV tabOk (ρ := Bool) [_] h ⟨rfl, trivial⟩ (vs_bool _ _)
    · replace hc3 := Bool.eq_false_iff.2 hc3
      replace hF := bifF hc3 hF
      refine r_setF hc3 (t := 18) rfl ?_
      refine r_wanted rfl ?_
      refine r_p tabOk rfl rfl ?_
      refine r_wanted rfl ?_
      refine r_v (v_ld tabOk (h.box 0 rfl) (j := 0) rfl rfl rfl) rfl ?_
      refine r_wanted rfl ?_
      refine r_p tabOk rfl rfl ?_
      refine r_wanted rfl ?_
      refine r_v (v_ld tabOk (h.box 0 rfl) (j := 1) rfl rfl rfl) rfl ?_
      refine r_wanted rfl ?_
      refine r_p tabOk rfl rfl ?_
      refine r_p tabOk rfl rfl ?_
      refine r_p tabOk rfl rfl ?_
      by_cases hc4 : (decide (y1.Open > y1.Close)) = true
      · replace hF := bifT hc4 hF
        refine r_setT hc4 (t := 25) rfl ?_
        refine r_unwanted rfl ?_ (fun _ hd => by cases hd; rfl)
        refine r_unwanted rfl ?_ (fun _ hd => by cases hd; rfl)
        refine r_unwanted rfl ?_ (fun _ hd => by cases hd; rfl)
        refine r_p tabOk rfl rfl ?_
        refine r_nil ?_
        refine r_condT rfl rfl ?_
        refine r_seq ?_
        refine r_region ?_
        refine r_p tabOk rfl rfl ?_
        refine r_nil ?_
        obtain rfl := someI hF; replace hF := hK1
        obtain rfl := someI hF
        exact r_retV tabOk (ρ := Bool) [_] h ⟨rfl, trivial⟩ (vs_bool _ _)
      · replace hc4 := Bool.eq_false_iff.2 hc4
        replace hF := bifF hc4 hF
        refine r_setF hc4 (t := 25) rfl ?_
        refine r_wanted rfl ?_
        refine r_p tabOk rfl rfl ?_
        refine r_wanted rfl ?_
        refine r_v (v_ld tabOk (h.box 0 rfl) (j := 1) rfl rfl rfl) rfl ?_
        refine r_wanted rfl ?_
        refine r_p tabOk rfl rfl ?_
        refine r_p tabOk rfl rfl ?_
        refine r_nil ?_
        refine r_cond rfl (fun hc5 => ?_) (fun hc5 => ?_)
        · replace hF := bifT hc5 hF
          refine r_seq ?_
          refine r_region ?_
          refine r_p tabOk rfl rfl ?_
          refine r_nil ?_
          obtain rfl := someI hF; replace hF := hK1
          obtain rfl := someI hF
          exact r_retV tabOk (ρ := Bool) [_] h ⟨rfl, trivial⟩ (vs_bool _ _)
        · replace hF := bifF hc5 hF
          refine r_skip ?_
          refine r_blk ?_
          refine r_region ?_
          refine r_p tabOk rfl rfl ?_
          refine r_p tabOk rfl rfl ?_
          refine r_nil ?_
          replace h := h.pick [1] rfl
          exact r_back m1 [(1, _), (9, _), (10, _), (11, _)] (Nat.lt_succ_self m1) ⟨rfl, rfl, rfl, rfl, trivial⟩ ⟨_, hF, rfl, h⟩
  · replace hF := bifF hc1 hF
    refine r_exit rfl ?_
    obtain rfl := someI hF; replace hF := hK1
    refine r_seq ?_
    refine r_region ?_
    refine r_p tabOk rfl rfl ?_
    refine r_v (v_ld tabOk (h.box 0 rfl) (j := 0) rfl rfl rfl) rfl ?_
    obtain ⟨r1, hr2, hF⟩ := bindS hF
    refine r_callI r1 h call59 (impl_length_impl_Latch_ok ⟨_, _, rfl, (h.oldS s1)⟩ hr2) rfl rfl rfl rfl ?_
    intro w5 h
    refine r_p tabOk rfl rfl ?_
    refine r_nil ?_
    refine r_seq ?_
    refine r_seq ?_
    refine r_region ?_
    refine r_p tabOk rfl rfl ?_
    refine r_v (v_ld tabOk (h.box 0 rfl) (j := 1) rfl rfl rfl) rfl ?_
    refine r_p tabOk rfl rfl ?_
    refine r_p tabOk rfl rfl ?_
    refine r_nil ?_
    obtain ⟨o2, hF, hK2⟩ := bindS hF
    refine r_block ?_
    refine r_sub [(1, _), (5, _), (35, _), (36, _), (37, _)] ⟨rfl, rfl, rfl, rfl, rfl, trivial⟩ ?_
    refine r_loop (fun m e w' => ∃ (i2 : Int), impl_IsLatchSystem_L2 a_0 r1 m i2 = some o2 ∧ e = [(1, .pointer (some ⟨bb1, 0, none⟩)), (5, .int .i64 r1), (35, .slice p2 a_0.Links.length k2), (36, .int .i64 (a_0.Links.length : Int)), (37, .int .i64 i2)] ∧ SH w w' [Ch.box bb1 [.slice p1 a_0.Latches.length k1, .slice p2 a_0.Links.length k2] 41]) n ⟨_, hF, rfl, h⟩ ?_
    rintro m2 e2 w6 ⟨i2, hF, rfl, h⟩
    rcases m2 with _ | m2
    · rw [impl_IsLatchSystem_L2] at hF
      cases hF
    rw [impl_IsLatchSystem_L2] at hF
    refine r_seq ?_
    refine r_region ?_
    refine r_p tabOk rfl rfl ?_
    refine r_nil ?_
    refine r_seq ?_
    refine r_cond rfl (fun hc6 => ?_) (fun hc6 => ?_)
    · replace hF := bifT hc6 hF
      refine r_skip ?_
      refine r_seq ?_
      refine r_block ?_
      refine r_seq ?_
      refine r_region ?_
      obtain ⟨y2, hy2, hF⟩ := bindS hF
      have he2 := idx_some hy2
      obtain ⟨b2, o_2, q2, cs3, hp2, hq2, -, hr3, hc7⟩ := s2.at hy2
      obtain rfl := open_TLatchLink hr3
      refine r_v (v_ix tabOk hp2 hq2 ⟨he2.1, he2.2.1⟩ rfl rfl rfl rfl rfl rfl) rfl ?_
      refine r_v (v_ld tabOk (hc7.below h.below) (j := 0) rfl rfl rfl) rfl ?_
      refine r_alloc tabOk h rfl rfl rfl ?_
      intro w7 bb3 h
      refine r_stbox tabOk 0 h rfl rfl rfl rfl rfl rfl rfl ?_
      intro w8 h
      refine r_nil ?_
      refine r_seq ?_
      refine r_region ?_
      refine r_p tabOk rfl rfl ?_
      refine r_v (v_ld tabOk (h.box 0 rfl) (j := 0) rfl rfl rfl) rfl ?_
      refine r_p tabOk rfl rfl ?_
      refine r_p tabOk rfl rfl ?_
      obtain ⟨r2, hr4, hF⟩ := bindS hF
      refine r_callB r2 h call60 (impl_within_ok hr4) rfl rfl rfl rfl ?_
      intro w9 h
      refine r_p tabOk rfl rfl ?_
      refine r_p tabOk rfl rfl ?_
      by_cases hc8 : (!r2) = true
      · replace hF := bifT hc8 hF
        refine r_setT hc8 (t := 47) rfl ?_
        refine r_unwanted rfl ?_ (fun _ hd => by cases hd; rfl)
        refine r_unwanted rfl ?_ (fun _ hd => by cases hd; rfl)
        refine r_unwanted rfl ?_ (fun _ hd => by cases hd; rfl)
        refine r_unwanted rfl ?_ (fun _ hd => by cases hd; rfl)
        refine r_unwanted rfl ?_ (fun _ hd => by cases hd; rfl)
        refine r_unwanted rfl ?_ (fun _ hd => by cases hd; rfl)
        refine r_p tabOk rfl rfl ?_
        refine r_p tabOk rfl rfl ?_
        refine r_unwanted rfl ?_ (fun _ hd => by cases hd; rfl)
        refine r_unwanted rfl ?_ (fun _ hd => by cases hd; rfl)
        refine r_unwanted rfl ?_ (fun _ hd => by cases hd; rfl)
        refine r_unwanted rfl ?_ (fun _ hd => by cases hd; rfl)
        refine r_p tabOk rfl rfl ?_
        refine r_p tabOk rfl rfl ?_
        refine r_unwanted rfl ?_ (fun _ hd => by cases hd; rfl)
        refine r_unwanted rfl ?_ (fun _ hd => by cases hd; rfl)
        refine r_unwanted rfl ?_ (fun _ hd => by cases hd; rfl)
        refine r_unwanted rfl ?_ (fun _ hd => by cases hd; rfl)
        refine r_p tabOk rfl rfl ?_
        refine r_nil ?_
        refine r_condT rfl rfl ?_
        refine r_seq ?_
        refine r_region ?_
        refine r_p tabOk rfl rfl ?_
        refine r_nil ?_
        obtain rfl := someI hF; replace hF := hK2
        obtain rfl := someI hF
        exact r_retV tabOk (ρ := Bool) [_] h ⟨rfl, trivial⟩ (vs_bool _ _)
      · replace hc8 := Bool.eq_false_iff.2 hc8
        replace hF := bifF hc8 hF
        refine r_setF hc8 (t := 47) rfl ?_
        refine r_wanted rfl ?_
        refine r_p tabOk rfl rfl ?_
        refine r_wanted rfl ?_
        refine r_v (v_ld tabOk (h.box 0 rfl) (j := 1) rfl rfl rfl) rfl ?_
        refine r_wanted rfl ?_
        refine r_p tabOk rfl rfl ?_
        refine r_wanted rfl ?_
        refine r_p tabOk rfl rfl ?_
        refine r_wanted rfl ?_
        obtain ⟨r3, hr5, hF⟩ := bindS hF
        refine r_callB r3 h call60 (impl_within_ok hr5) rfl rfl rfl rfl ?_
        intro w10 h
        refine r_wanted rfl ?_
        refine r_p tabOk rfl rfl ?_
        refine r_p tabOk rfl rfl ?_
        refine r_p tabOk rfl rfl ?_
        by_cases hc9 : (!r3) = true
        · replace hF := bifT hc9 hF
          refine r_setT hc9 (t := 55) rfl ?_
          refine r_unwanted rfl ?_ (fun _ hd => by cases hd; rfl)
          refine r_unwanted rfl ?_ (fun _ hd => by cases hd; rfl)
          refine r_unwanted rfl ?_ (fun _ hd => by cases hd; rfl)
          refine r_unwanted rfl ?_ (fun _ hd => by cases hd; rfl)
          refine r_p tabOk rfl rfl ?_
          refine r_p tabOk rfl rfl ?_
          refine r_unwanted rfl ?_ (fun _ hd => by cases hd; rfl)
          refine r_unwanted rfl ?_ (fun _ hd => by cases hd; rfl)
          refine r_unwanted rfl ?_ (fun _ hd => by cases hd; rfl)
          refine r_unwanted rfl ?_ (fun _ hd => by cases hd; rfl)
          refine r_p tabOk rfl rfl ?_
          refine r_nil ?_
          refine r_condT rfl rfl ?_
          refine r_seq ?_
          refine r_region ?_
          refine r_p tabOk rfl rfl ?_
          refine r_nil ?_
          obtain rfl := someI hF; replace hF := hK2
          obtain rfl := someI hF
          exact r_retV tabOk (ρ := Bool) [_] h ⟨rfl, trivial⟩ (vs_bool _ _)
        · replace hc9 := Bool.eq_false_iff.2 hc9
          replace hF := bifF hc9 hF
          refine r_setF hc9 (t := 55) rfl ?_
          refine r_wanted rfl ?_
          refine r_p tabOk rfl rfl ?_
          refine r_wanted rfl ?_
          refine r_v (v_ld tabOk (h.box 0 rfl) (j := 2) rfl rfl rfl) rfl ?_
          refine r_wanted rfl ?_
          obtain ⟨r4, hr6, hF⟩ := bindS hF
          refine r_callB r4 h call60 (impl_within_ok hr6) rfl rfl rfl rfl ?_
          intro w11 h
          refine r_wanted rfl ?_
          refine r_p tabOk rfl rfl ?_
          refine r_p tabOk rfl rfl ?_
          refine r_p tabOk rfl rfl ?_
          by_cases hc10 : (!r4) = true
          · replace hF := bifT hc10 hF
            refine r_setT hc10 (t := 61) rfl ?_
            refine r_unwanted rfl ?_ (fun _ hd => by cases hd; rfl)
            refine r_unwanted rfl ?_ (fun _ hd => by cases hd; rfl)
            refine r_unwanted rfl ?_ (fun _ hd => by cases hd; rfl)
            refine r_unwanted rfl ?_ (fun _ hd => by cases hd; rfl)
            refine r_p tabOk rfl rfl ?_
            refine r_nil ?_
            refine r_condT rfl rfl ?_
            refine r_seq ?_
            refine r_region ?_
            refine r_p tabOk rfl rfl ?_
            refine r_nil ?_
            obtain rfl := someI hF; replace hF := hK2
            obtain rfl := someI hF
            exact r_retV tabOk (ρ := Bool) [_] h ⟨rfl, trivial⟩ (vs_bool _ _)
          · replace hc10 := Bool.eq_false_iff.2 hc10
            replace hF := bifF hc10 hF
            refine r_setF hc10 (t := 61) rfl ?_
            refine r_wanted rfl ?_
            refine r_p tabOk rfl rfl ?_
            refine r_wanted rfl ?_
            refine r_v (v_ld tabOk (h.box 0 rfl) (j := 3) rfl rfl rfl) rfl ?_
            refine r_wanted rfl ?_
            obtain ⟨r5, hr7, hF⟩ := bindS hF
            refine r_callB r5 h call60 (impl_within_ok hr7) rfl rfl rfl rfl ?_
            intro w12 h
            refine r_wanted rfl ?_
            refine r_p tabOk rfl rfl ?_
            refine r_p tabOk rfl rfl ?_
            refine r_nil ?_
            refine r_cond rfl (fun hc11 => ?_) (fun hc11 => ?_)
            · replace hF := bifT hc11 hF
              refine r_seq ?_
              refine r_region ?_
              refine r_p tabOk rfl rfl ?_
              refine r_nil ?_
              obtain rfl := someI hF; replace hF := hK2
              obtain rfl := someI hF
              exact r_retV tabOk (ρ := Bool) [_] h ⟨rfl, trivial⟩ (vs_bool _ _)
            · replace hF := bifF hc11 hF
              refine r_skip ?_
              refine r_blk ?_
              refine r_region ?_
              refine r_p tabOk rfl rfl ?_
              refine r_p tabOk rfl rfl ?_
              refine r_nil ?_
              replace h := h.pick [1] rfl
              exact r_back m2 [(1, _), (5, _), (35, _), (36, _), (37, _)] (Nat.lt_succ_self m2) ⟨rfl, rfl, rfl, rfl, rfl, trivial⟩ ⟨_, hF, rfl, h⟩
    · replace hF := bifF hc6 hF
      refine r_exit rfl ?_
      obtain rfl := someI hF; replace hF := hK2
      refine r_seq ?_
      refine r_region ?_
      refine r_p tabOk rfl rfl ?_
      refine r_p tabOk rfl rfl ?_
      refine r_p tabOk rfl rfl ?_
      by_cases hc12 : (decide (r1 ≤ 12)) = true
      · replace hF := bifT hc12 hF
        refine r_setT hc12 (t := 70) rfl ?_
        refine r_wanted rfl ?_
        refine r_p tabOk rfl rfl ?_
        refine r_wanted rfl ?_
        refine r_v (v_ld tabOk (h.box 0 rfl) (j := 1) rfl rfl rfl) rfl ?_
        refine r_wanted rfl ?_
        refine r_p tabOk rfl rfl ?_
        refine r_wanted rfl ?_
        refine r_p tabOk rfl rfl ?_
        refine r_p tabOk rfl rfl ?_
        refine r_p tabOk rfl rfl ?_
        refine r_nil ?_
        obtain rfl := someI hF
        exact r_retV tabOk (ρ := Bool) [_] h ⟨rfl, trivial⟩ (vs_bool _ _)
      · replace hc12 := Bool.eq_false_iff.2 hc12
        replace hF := bifF hc12 hF
        refine r_setF hc12 (t := 70) rfl ?_
        refine r_unwanted rfl ?_ (fun _ hd => by cases hd; rfl)
        refine r_unwanted rfl ?_ (fun _ hd => by cases hd; rfl)
        refine r_unwanted rfl ?_ (fun _ hd => by cases hd; rfl)
        refine r_unwanted rfl ?_ (fun _ hd => by cases hd; rfl)
        refine r_p tabOk rfl rfl ?_
        refine r_p tabOk rfl rfl ?_
        refine r_nil ?_
        obtain rfl := someI hF
        exact r_retV tabOk (ρ := Bool) [_] h ⟨rfl, trivial⟩ (vs_bool _ _)

def impl_LatchSystem_room_L1 (s : TLatchSystem) : Nat → Int → Int → Option (Int × Int)
  | 0, _, _ => none
  | n + 1, i1, i2 =>
    bif decide (i2 < (s.Links.length : Int)) then
      (idx s.Links i2).bind fun y1 =>
      impl_LatchSystem_room_L1 s n (if (W64 (100000 - y1.Shift)) < i1 then (W64 (100000 - y1.Shift)) else i1) (W64 (i2 + 1))
    else
      some (i1, i2)

def impl_LatchSystem_room (n : Nat) (s : TLatchSystem) : Option Int :=
  (impl_LatchSystem_room_L1 s n 100000 0).bind fun o => match o with
  | (i1, _) =>
    some i1

theorem impl_LatchSystem_room_ok {n : Nat} {w : World} {s : TLatchSystem} {cs1 : List Value} (ha1 : GoT.R w (old w) s cs1) {r : Int} (hF : impl_LatchSystem_room n s = some r) : RetV Try.prog 47 [GoT.v TLatchSystem cs1] w r := by
  obtain ⟨p1, k1, p2, k2, rfl, s1, s2⟩ := open_TLatchSystem ha1
  refine retV_of_run Try.func47 rfl (m := 20) rfl rfl (fun h => ?_)
  rw [impl_LatchSystem_room] at hF
  refine r_seq ?_
  refine r_region ?_
  refine r_box h rfl rfl ?_
  intro w1 bb1 h
  refine r_p tabOk rfl rfl ?_
  refine r_nil ?_
  refine r_seq ?_
  refine r_region ?_
  refine r_p tabOk rfl rfl ?_
  refine r_nil ?_
  refine r_seq ?_
  refine r_seq ?_
  refine r_region ?_
  refine r_p tabOk rfl rfl ?_
  refine r_v (v_ld tabOk (h.box 0 rfl) (j := 1) rfl rfl rfl) rfl ?_
  refine r_p tabOk rfl rfl ?_
  refine r_p tabOk rfl rfl ?_
  refine r_nil ?_
  obtain ⟨o1, hF, hK1⟩ := bindS hF
  refine r_block ?_
  replace h := h.pick [] rfl
  refine r_sub [(3, _), (7, _), (8, _), (9, _)] ⟨rfl, rfl, rfl, rfl, trivial⟩ ?_
  refine r_loop (fun m e w' => ∃ (i1 : Int) (i2 : Int), impl_LatchSystem_room_L1 s m i1 i2 = some o1 ∧ e = [(3, .int .i64 i1), (7, .slice p2 s.Links.length k2), (8, .int .i64 (s.Links.length : Int)), (9, .int .i64 i2)] ∧ SH w w' []) n ⟨_, _, hF, rfl, h⟩ ?_
  rintro m1 e1 w2 ⟨i1, i2, hF, rfl, h⟩
  rcases m1 with _ | m1
  · rw [impl_LatchSystem_room_L1] at hF
    cases hF
  rw [impl_LatchSystem_room_L1] at hF
  refine r_seq ?_
  refine r_region ?_
  refine r_p tabOk rfl rfl ?_
  refine r_nil ?_
  refine r_seq ?_
  refine r_cond rfl (fun hc1 => ?_) (fun hc1 => ?_)
  · replace hF := bifT hc1 hF
    refine r_skip ?_
    refine r_seq ?_
    refine r_block ?_
    refine r_seq ?_
    refine r_region ?_
    obtain ⟨y1, hy1, hF⟩ := bindS hF
    have he1 := idx_some hy1
    obtain ⟨b1, o_1, q1, cs2, hp1, hq1, -, hr1, hc2⟩ := s2.at hy1
    obtain rfl := open_TLatchLink hr1
    refine r_v (v_ix tabOk hp1 hq1 ⟨he1.1, he1.2.1⟩ rfl rfl rfl rfl rfl rfl) rfl ?_
    refine r_v (v_ld tabOk (hc2.below h.below) (j := 0) rfl rfl rfl) rfl ?_
    refine r_alloc tabOk h rfl rfl rfl ?_
    intro w3 bb2 h
    refine r_stbox tabOk 0 h rfl rfl rfl rfl rfl rfl rfl ?_
    intro w4 h
    refine r_nil ?_
    refine r_region ?_
    refine r_p tabOk rfl rfl ?_
    refine r_p tabOk rfl rfl ?_
    refine r_v (v_ld tabOk (h.box 0 rfl) (j := 3) rfl rfl rfl) rfl ?_
    refine r_p tabOk rfl rfl ?_
    refine r_p tabOk rfl rfl ?_
    refine r_p tabOk rfl rfl ?_
    refine r_nil ?_
    refine r_blk ?_
    refine r_region ?_
    refine r_p tabOk rfl rfl ?_
    refine r_p tabOk rfl rfl ?_
    refine r_nil ?_
    replace h := h.pick [] rfl
    exact r_back m1 [(3, _), (7, _), (8, _), (9, _)] (Nat.lt_succ_self m1) ⟨rfl, rfl, rfl, rfl, trivial⟩ ⟨_, _, hF, rfl, h⟩
  · replace hF := bifF hc1 hF
    refine r_exit rfl ?_
    obtain rfl := someI hF; replace hF := hK1
    refine r_seq ?_
    refine r_region ?_
    refine r_p tabOk rfl rfl ?_
    refine r_p tabOk rfl rfl ?_
    refine r_nil ?_
    obtain rfl := someI hF
    exact r_retV tabOk (ρ := Int) [_] h ⟨rfl, trivial⟩ (vs_int _ _)

def slices_Clone_impl_Latch (_ : Nat) (s : (List TLatch)) : Option (List TLatch) :=
  appS ([] : List TLatch) s

theorem slices_Clone_impl_Latch_ok {n : Nat} {w : World} {s : (List TLatch)} {cs1 : List Value} (ha1 : GoT.R w (old w) s cs1) {r : (List TLatch)} (hF : slices_Clone_impl_Latch n s = some r) : RetV Try.prog 61 [GoT.v (List TLatch) cs1] w r := by
  obtain ⟨p, k, rfl, s1⟩ := ha1
  obtain ⟨g1, hx⟩ := appS_some (show appS ([] : List TLatch) s = some r from hF)
  cases p with
  | none =>
    obtain rfl := slr_none s1
    obtain rfl : [] = r := hx
    refine retV_of_run Try.func61 rfl (m := 8) rfl rfl (fun h => ?_)
    refine r_seq ?_
    refine r_region ?_
    refine r_p tabOk rfl rfl ?_
    refine r_nil ?_
    refine r_seq ?_
    refine r_seq ?_
    refine r_region ?_
    refine r_p tabOk rfl rfl ?_
    refine r_v (v_eqnilS tabOk rfl rfl rfl rfl rfl) rfl ?_
    refine r_nil ?_
    refine r_condT rfl rfl ?_
    refine r_seq ?_
    refine r_region ?_
    refine r_p tabOk rfl rfl ?_
    refine r_nil ?_
    exact r_retV tabOk (ρ := (List TLatch)) [GoT.v (List TLatch) [.slice none 0 0]] h ⟨rfl, trivial⟩ (PV.done h (pv_one po_nil))
  | some a =>
    refine retV_of_run Try.func61 rfl (m := 8) rfl rfl (fun h => ?_)
    refine r_seq ?_
    refine r_region ?_
    refine r_p tabOk rfl rfl ?_
    refine r_nil ?_
    refine r_seq ?_
    refine r_seq ?_
    refine r_region ?_
    refine r_p tabOk rfl rfl ?_
    refine r_v (v_eqnilS tabOk rfl rfl rfl rfl rfl) rfl ?_
    refine r_nil ?_
    refine r_condF rfl rfl ?_
    refine r_skip ?_
    refine r_seq ?_
    refine r_region ?_
    refine r_bslice tabOk [] _ ([] : List TLatch) h rfl rfl rfl rfl rfl rfl rfl rfl rfl trivial rfl ?_
    intro w1 p1 S1 h
    refine r_p tabOk rfl rfl ?_
    refine r_app tabOk 0 h rfl (h.oldS s1) rfl rfl rfl rfl rfl rfl rfl rfl rfl rfl g1 rfl ?_
    intro w2 p2 k2 S2 h
    rw [hx] at h
    refine r_p tabOk rfl rfl ?_
    refine r_nil ?_
    exact r_retV tabOk (ρ := (List TLatch)) [GoT.v (List TLatch) [.slice p2 (([] : List TLatch).length + s.length) k2]] h ⟨rfl, trivial⟩ (PV.done h (pv_one (po_own 0 h rfl)))

def slices_Clone_impl_LatchLink (_ : Nat) (s : (List TLatchLink)) : Option (List TLatchLink) :=
  appS ([] : List TLatchLink) s

theorem slices_Clone_impl_LatchLink_ok {n : Nat} {w : World} {s : (List TLatchLink)} {cs1 : List Value} (ha1 : GoT.R w (old w) s cs1) {r : (List TLatchLink)} (hF : slices_Clone_impl_LatchLink n s = some r) : RetV Try.prog 62 [GoT.v (List TLatchLink) cs1] w r := by
  obtain ⟨p, k, rfl, s1⟩ := ha1
  obtain ⟨g1, hx⟩ := appS_some (show appS ([] : List TLatchLink) s = some r from hF)
  cases p with
  | none =>
    obtain rfl := slr_none s1
    obtain rfl : [] = r := hx
    refine retV_of_run Try.func62 rfl (m := 8) rfl rfl (fun h => ?_)
    refine r_seq ?_
    refine r_region ?_
    refine r_p tabOk rfl rfl ?_
    refine r_nil ?_
    refine r_seq ?_
    refine r_seq ?_
    refine r_region ?_
    refine r_p tabOk rfl rfl ?_
    refine r_v (v_eqnilS tabOk rfl rfl rfl rfl rfl) rfl ?_
    refine r_nil ?_
    refine r_condT rfl rfl ?_
    refine r_seq ?_
    refine r_region ?_
    refine r_p tabOk rfl rfl ?_
    refine r_nil ?_
    exact r_retV tabOk (ρ := (List TLatchLink)) [GoT.v (List TLatchLink) [.slice none 0 0]] h ⟨rfl, trivial⟩ (PV.done h (pv_one po_nil))
  | some a =>
    refine retV_of_run Try.func62 rfl (m := 8) rfl rfl (fun h => ?_)
    refine r_seq ?_
    refine r_region ?_
    refine r_p tabOk rfl rfl ?_
    refine r_nil ?_
    refine r_seq ?_
    refine r_seq ?_
    refine r_region ?_
    refine r_p tabOk rfl rfl ?_
    refine r_v (v_eqnilS tabOk rfl rfl rfl rfl rfl) rfl ?_
    refine r_nil ?_
    refine r_condF rfl rfl ?_
    refine r_skip ?_
    refine r_seq ?_
    refine r_region ?_
    refine r_bslice tabOk [] _ ([] : List TLatchLink) h rfl rfl rfl rfl rfl rfl rfl rfl rfl trivial rfl ?_
    intro w1 p1 S1 h
    refine r_p tabOk rfl rfl ?_
    refine r_app tabOk 0 h rfl (h.oldS s1) rfl rfl rfl rfl rfl rfl rfl rfl rfl rfl g1 rfl ?_
    intro w2 p2 k2 S2 h
    rw [hx] at h
    refine r_p tabOk rfl rfl ?_
    refine r_nil ?_
    exact r_retV tabOk (ρ := (List TLatchLink)) [GoT.v (List TLatchLink) [.slice p2 (([] : List TLatchLink).length + s.length) k2]] h ⟨rfl, trivial⟩ (PV.done h (pv_one (po_own 0 h rfl)))

def impl_LatchSystem_shifted_L1 (a_by : Int) (r2 : (List TLatchLink)) : Nat → (List TLatchLink) → Int → Option ((List TLatchLink) × Int)
  | 0, _, _ => none
  | n + 1, x1, i1 =>
    bif decide (i1 < (r2.length : Int)) then
      (idx x1 i1).bind fun y1 =>
      (idx x1 i1).bind fun y2 =>
      impl_LatchSystem_shifted_L1 a_by r2 n (setS x1 i1 ({ y2 with Shift := W64 (y1.Shift + a_by) })) (W64 (i1 + 1))
    else
      some (x1, i1)

def impl_LatchSystem_shifted (n : Nat) (s : TLatchSystem) (a_by : Int) : Option TLatchSystem :=
  (slices_Clone_impl_Latch n s.Latches).bind fun r1 =>
  (slices_Clone_impl_LatchLink n s.Links).bind fun r2 =>
  (impl_LatchSystem_shifted_L1 a_by r2 n r2 0).bind fun o => match o with
  | (x1, _) =>
    some (⟨r1, x1⟩ : TLatchSystem)

theorem impl_LatchSystem_shifted_ok {n : Nat} {w : World} {s : TLatchSystem} {a_by : Int} {cs1 : List Value} (ha1 : GoT.R w (old w) s cs1) {r : TLatchSystem} (hF : impl_LatchSystem_shifted n s a_by = some r) : RetV Try.prog 48 [GoT.v TLatchSystem cs1, .int .i64 a_by] w r := by
  obtain ⟨p1, k1, p2, k2, rfl, s1, s2⟩ := open_TLatchSystem ha1
  refine retV_of_run Try.func48 rfl (m := 32) rfl rfl (fun h => ?_)
  rw [impl_LatchSystem_shifted] at hF
  refine r_seq ?_
  refine r_region ?_
  refine r_box h rfl rfl ?_
  intro w1 bb1 h
  refine r_alloc tabOk h rfl rfl rfl ?_
  intro w2 bb2 h
  refine r_nil ?_
  refine r_seq ?_
  obtain ⟨r1, hr1, hF⟩ := bindS hF
  obtain ⟨r2, hr2, hF⟩ := bindS hF
  refine r_cut (fun e w' => ∃ (bb7 : Nat) (S8 : Nat → Prop) (p10 : Option Addr) (k10 : Nat) (S9 : Nat → Prop) (p11 : Option Addr) (k11 : Nat), e = [(1, .int .i64 a_by), (4, .pointer (some ⟨bb2, 0, none⟩)), (5, .pointer (some ⟨bb7, 0, none⟩))] ∧ SH w w' [Ch.box bb7 [.slice p11 r1.length k11, .slice p10 r2.length k10] 41, Ch.own S8 (r2 : List TLatchLink) [.slice p10 r2.length k10], Ch.own S9 (r1 : List TLatch) [.slice p11 r1.length k11], Ch.box bb2 [.slice none 0 0, .slice none 0 0] 41]) ?_ ?_
  · refine r_any [8] (fun w' => SH w w' [Ch.box bb1 [.slice p1 s.Latches.length k1, .slice p2 s.Links.length k2] 41]) rfl 9 rfl #[false, false, false, false, false, false, false, false, false] (by kernel_rfl) (fun w7 hb => ?_)
    replace h := h.ext hb
    clear hb
    refine a_take 0 rfl #[true, false, false, false, false, false, false, false, false] (by kernel_rfl) (by kernel_rfl) (fun w' hw => v_p tabOk rfl w') (h.pick [1] rfl) rfl ?_
    refine a_take 1 rfl #[true, true, false, false, false, false, false, false, false] (by kernel_rfl) (by kernel_rfl) (fun w' hw => v_ld tabOk (hw.box 0 rfl) (j := 0) rfl rfl rfl) (h.pick [1] rfl) rfl ?_
    refine a_take 3 rfl #[true, true, false, true, false, false, false, false, false] (by kernel_rfl) (by kernel_rfl) (fun w' hw => v_p tabOk rfl w') (h.pick [1] rfl) rfl ?_
    refine a_take 4 rfl #[true, true, false, true, true, false, false, false, false] (by kernel_rfl) (by kernel_rfl) (fun w' hw => v_ld tabOk (hw.box 0 rfl) (j := 1) rfl rfl rfl) (h.pick [1] rfl) rfl ?_
    refine a_two 2 7 rfl rfl #[true, true, true, true, true, false, false, false, false] #[true, true, false, true, true, false, false, true, false] (by kernel_rfl) (by kernel_rfl)  (by kernel_rfl) ?_ ?_
    · refine r_callL r1 h call61 (slices_Clone_impl_Latch_ok ⟨_, _, rfl, (h.oldS s1)⟩ hr1) rfl rfl rfl rfl ?_
      intro w19 S10 p12 k12 h
      refine a_goal (fun _ => (h.pick [2] rfl)) ?_
      refine a_two 5 7 rfl rfl #[true, true, true, true, true, true, false, false, false] #[true, true, true, true, true, false, false, true, false] (by kernel_rfl) (by kernel_rfl)  (by kernel_rfl) ?_ ?_
      · refine r_callL r2 h call62 (slices_Clone_impl_LatchLink_ok ⟨_, _, rfl, (h.oldS s2)⟩ hr2) rfl rfl rfl rfl ?_
        intro w20 S11 p13 k13 h
        refine a_goal (fun _ => (h.pick [3] rfl)) ?_
        refine a_take 6 rfl #[true, true, true, true, true, true, true, false, false] (by kernel_rfl) (by kernel_rfl) (fun w' hw => v_build tabOk [0, 1] [.tmp 9, .tmp 12] rfl rfl rfl rfl rfl rfl rfl rfl) (h.pick [3] rfl) rfl ?_
        refine a_only 7 rfl #[true, true, true, true, true, true, true, true, false] (by kernel_rfl) (by kernel_rfl) ?_
        refine r_alloc tabOk h rfl rfl rfl ?_
        intro w21 bb8 h
        refine a_goal (fun _ => (h.pick [4] rfl)) ?_
        refine a_only 8 rfl #[true, true, true, true, true, true, true, true, true] (by kernel_rfl) (by kernel_rfl) ?_
        refine r_stbox tabOk 0 h rfl rfl rfl rfl rfl rfl rfl ?_
        intro w22 h
        refine a_goal (fun hs => absurd (hs 8 (by decide)) (by decide)) ?_
        refine a_done (by kernel_rfl) ?_
        replace h := h.pick [0, 1, 2, 3] rfl
        exact r_cutgoal [(1, _), (4, _), (5, _)] ⟨rfl, rfl, rfl, trivial⟩ ⟨_, _, _, _, _, _, _, rfl, h⟩
      · refine r_alloc tabOk h rfl rfl rfl ?_
        intro w23 bb9 h
        refine a_goal (fun _ => (h.pick [3] rfl)) ?_
        refine a_only 5 rfl #[true, true, true, true, true, true, false, true, false] (by kernel_rfl) (by kernel_rfl) ?_
        refine r_callL r2 h call62 (slices_Clone_impl_LatchLink_ok ⟨_, _, rfl, (h.oldS s2)⟩ hr2) rfl rfl rfl rfl ?_
        intro w24 S12 p14 k14 h
        refine a_goal (fun _ => (h.pick [4] rfl)) ?_
        refine a_take 6 rfl #[true, true, true, true, true, true, true, true, false] (by kernel_rfl) (by kernel_rfl) (fun w' hw => v_build tabOk [0, 1] [.tmp 9, .tmp 12] rfl rfl rfl rfl rfl rfl rfl rfl) (h.pick [4] rfl) rfl ?_
        refine a_only 8 rfl #[true, true, true, true, true, true, true, true, true] (by kernel_rfl) (by kernel_rfl) ?_
        refine r_stbox tabOk 1 h rfl rfl rfl rfl rfl rfl rfl ?_
        intro w25 h
        refine a_goal (fun hs => absurd (hs 8 (by decide)) (by decide)) ?_
        refine a_done (by kernel_rfl) ?_
        replace h := h.pick [1, 0, 2, 3] rfl
        exact r_cutgoal [(1, _), (4, _), (5, _)] ⟨rfl, rfl, rfl, trivial⟩ ⟨_, _, _, _, _, _, _, rfl, h⟩
    · refine r_alloc tabOk h rfl rfl rfl ?_
      intro w26 bb10 h
      refine a_goal (fun _ => (h.pick [2] rfl)) ?_
      refine a_only 2 rfl #[true, true, true, true, true, false, false, true, false] (by kernel_rfl) (by kernel_rfl) ?_
      refine r_callL r1 h call61 (slices_Clone_impl_Latch_ok ⟨_, _, rfl, (h.oldS s1)⟩ hr1) rfl rfl rfl rfl ?_
      intro w27 S13 p15 k15 h
      refine a_goal (fun _ => (h.pick [3] rfl)) ?_
      refine a_only 5 rfl #[true, true, true, true, true, true, false, true, false] (by kernel_rfl) (by kernel_rfl) ?_
      refine r_callL r2 h call62 (slices_Clone_impl_LatchLink_ok ⟨_, _, rfl, (h.oldS s2)⟩ hr2) rfl rfl rfl rfl ?_
      intro w28 S14 p16 k16 h
      refine a_goal (fun _ => (h.pick [4] rfl)) ?_
      refine a_take 6 rfl #[true, true, true, true, true, true, true, true, false] (by kernel_rfl) (by kernel_rfl) (fun w' hw => v_build tabOk [0, 1] [.tmp 9, .tmp 12] rfl rfl rfl rfl rfl rfl rfl rfl) (h.pick [4] rfl) rfl ?_
      refine a_only 8 rfl #[true, true, true, true, true, true, true, true, true] (by kernel_rfl) (by kernel_rfl) ?_
      refine r_stbox tabOk 2 h rfl rfl rfl rfl rfl rfl rfl ?_
      intro w29 h
      refine a_goal (fun hs => absurd (hs 8 (by decide)) (by decide)) ?_
      refine a_done (by kernel_rfl) ?_
      replace h := h.pick [2, 0, 1, 3] rfl
      exact r_cutgoal [(1, _), (4, _), (5, _)] ⟨rfl, rfl, rfl, trivial⟩ ⟨_, _, _, _, _, _, _, rfl, h⟩
  · rintro e1 w30 ⟨bb7, S8, p10, k10, S9, p11, k11, rfl, h⟩
    refine r_seq ?_
    refine r_seq ?_
    refine r_region ?_
    refine r_p tabOk rfl rfl ?_
    refine r_v (v_ld tabOk (h.box 0 rfl) (j := 1) rfl rfl rfl) rfl ?_
    refine r_p tabOk rfl rfl ?_
    refine r_p tabOk rfl rfl ?_
    refine r_nil ?_
    obtain ⟨o1, hF, hK1⟩ := bindS hF
    refine r_block ?_
    refine r_sub [(1, _), (4, _), (5, _), (16, _), (17, _)] ⟨rfl, rfl, rfl, rfl, rfl, trivial⟩ ?_
    refine r_loop (fun m e w' => ∃ (x1 : (List TLatchLink)) (i1 : Int), impl_LatchSystem_shifted_L1 a_by r2 m x1 i1 = some o1 ∧ e = [(1, .int .i64 a_by), (4, .pointer (some ⟨bb2, 0, none⟩)), (5, .pointer (some ⟨bb7, 0, none⟩)), (16, .int .i64 (r2.length : Int)), (17, .int .i64 i1)] ∧ SH w w' [Ch.box bb7 [.slice p11 r1.length k11, .slice p10 r2.length k10] 41, Ch.own S8 (x1 : List TLatchLink) [.slice p10 r2.length k10], Ch.own S9 (r1 : List TLatch) [.slice p11 r1.length k11], Ch.box bb2 [.slice none 0 0, .slice none 0 0] 41]) n ⟨_, _, hF, rfl, h⟩ ?_
    rintro m1 e2 w31 ⟨x1, i1, hF, rfl, h⟩
    rcases m1 with _ | m1
    · rw [impl_LatchSystem_shifted_L1] at hF
      cases hF
    rw [impl_LatchSystem_shifted_L1] at hF
    refine r_seq ?_
    refine r_region ?_
    refine r_p tabOk rfl rfl ?_
    refine r_nil ?_
    refine r_seq ?_
    refine r_cond rfl (fun hc1 => ?_) (fun hc1 => ?_)
    · replace hF := bifT hc1 hF
      refine r_skip ?_
      refine r_seq ?_
      refine r_block ?_
      refine r_seq ?_
      refine r_region ?_
      refine r_p tabOk rfl rfl ?_
      refine r_p tabOk rfl rfl ?_
      refine r_nil ?_
      refine r_region ?_
      refine r_p tabOk rfl rfl ?_
      refine r_v (v_ld tabOk (h.box 0 rfl) (j := 1) rfl rfl rfl) rfl ?_
      refine r_p tabOk rfl rfl ?_
      obtain ⟨y1, hy1, hF⟩ := bindS hF
      have he1 := idx_some hy1
      obtain ⟨b1, o_1, q1, cs2, hp1, hq1, -, hr3, hc2⟩ := (h.sl 1 rfl).1.at hy1
      obtain rfl := open_TLatchLink hr3
      refine r_v (v_ix tabOk hp1 hq1 ⟨he1.1, lt_ln he1.2.1 (h.sl 1 rfl).2⟩ rfl rfl rfl rfl rfl rfl) rfl ?_
      refine r_p tabOk rfl rfl ?_
      refine r_v (v_ld tabOk hc2 (j := 3) rfl rfl rfl) rfl ?_
      refine r_p tabOk rfl rfl ?_
      refine r_p tabOk rfl rfl ?_
      obtain ⟨y2, hy2, hF⟩ := bindS hF
      have he2 := idx_some hy2
      obtain ⟨b2, o_2, q2, cs3, hp2, hq2, -, hr4, hc3⟩ := (h.sl 1 rfl).1.at hy2
      obtain rfl := open_TLatchLink hr4
      refine r_v (v_ix tabOk hp2 hq2 ⟨he2.1, lt_ln he2.2.1 (h.sl 1 rfl).2⟩ rfl rfl rfl rfl rfl rfl) rfl ?_
      refine r_p tabOk rfl rfl ?_
      refine r_stown tabOk 1 3 ({ y2 with Shift := W64 (y1.Shift + a_by) }) h rfl hy2 hp2 hq2 (mkR_TLatchLink y2) hc3 rfl rfl rfl (mkR_TLatchLink ({ y2 with Shift := W64 (y1.Shift + a_by) })) rfl rfl rfl ?_
      intro w32 h
      refine r_nil ?_
      refine r_blk ?_
      refine r_region ?_
      refine r_p tabOk rfl rfl ?_
      refine r_p tabOk rfl rfl ?_
      refine r_nil ?_
      exact r_back m1 [(1, _), (4, _), (5, _), (16, _), (17, _)] (Nat.lt_succ_self m1) ⟨rfl, rfl, rfl, rfl, rfl, trivial⟩ ⟨_, _, hF, rfl, h⟩
    · replace hF := bifF hc1 hF
      refine r_exit rfl ?_
      obtain rfl := someI hF; replace hF := hK1
      refine r_seq ?_
      refine r_region ?_
      refine r_v (v_ld tabOk (h.box 0 rfl) (j := 0) rfl rfl rfl) rfl ?_
      refine r_stbox tabOk 3 h rfl rfl rfl rfl rfl rfl rfl ?_
      intro w33 h
      refine r_nil ?_
      obtain rfl := someI hF
      exact r_retV tabOk (ρ := TLatchSystem) [GoT.v TLatchSystem [.slice p11 r1.length k11, .slice p10 r2.length k10]] h ⟨⟨_, _, _, rfl, rfl, h.box 3 rfl, rfl⟩, trivial⟩ (PV.done h (pv_one (po_TLatchSystem (⟨r1, x1⟩ : TLatchSystem) h (po_own 2 h rfl) (po_own 1 h rfl) (by rfl))))

def impl_LatchSystem_arrivals_L1 (s : TLatchSystem) (times : (List Int)) : Nat → (List Bool) → (List Int) → Int → Option ((List Bool) × (List Int) × Int)
  | 0, _, _, _ => none
  | n + 1, x3, x4, i1 =>
    bif decide (i1 < (s.Links.length : Int)) then
      (idx s.Links i1).bind fun y1 =>
      (idx times y1.From).bind fun y2 =>
      (
        (idx x3 y1.To).bind fun y5 =>
        bif (!y5) then
          some true
        else
          (idx x4 y1.To).bind fun y6 =>
          some (decide ((W64 ((W64 (y2 + y1.Delay)) - y1.Shift)) > y6))).bind fun b3 =>
      bif b3 then
        (idx x4 y1.To).bind fun _ =>
        (idx x3 y1.To).bind fun _ =>
        impl_LatchSystem_arrivals_L1 s times n (setS x3 y1.To true) (setS x4 y1.To (W64 ((W64 (y2 + y1.Delay)) - y1.Shift))) (W64 (i1 + 1))
      else
        impl_LatchSystem_arrivals_L1 s times n x3 x4 (W64 (i1 + 1))
    else
      some (x3, x4, i1)

def impl_LatchSystem_arrivals (n : Nat) (s : TLatchSystem) (times : (List Int)) : Option ((List Int) × (List Bool)) :=
  (mkS (times.length : Int) (0 : Int)).bind fun x1 =>
  (mkS (times.length : Int) (false : Bool)).bind fun x2 =>
  (impl_LatchSystem_arrivals_L1 s times n x2 x1 0).bind fun o => match o with
  | (x3, x4, _) =>
    some (x4, x3)

theorem impl_LatchSystem_arrivals_ok {n : Nat} {w : World} {s : TLatchSystem} {times : (List Int)} {cs1 : List Value} (ha1 : GoT.R w (old w) s cs1) {cs2 : List Value} (ha2 : GoT.R w (old w) times cs2) {r : ((List Int) × (List Bool))} (hF : impl_LatchSystem_arrivals n s times = some r) : RetV Try.prog 55 [GoT.v TLatchSystem cs1, GoT.v (List Int) cs2] w r := by
  obtain ⟨p1, k1, p2, k2, rfl, s1, s2⟩ := open_TLatchSystem ha1
  obtain ⟨p3, k3, rfl, s3⟩ := ha2
  refine retV_of_run Try.func55 rfl (m := 62) rfl rfl (fun h => ?_)
  rw [impl_LatchSystem_arrivals] at hF
  refine r_seq ?_
  refine r_region ?_
  refine r_box h rfl rfl ?_
  intro w1 bb1 h
  refine r_p tabOk rfl rfl ?_
  refine r_p tabOk rfl rfl ?_
  refine r_nil ?_
  refine r_seq ?_
  obtain ⟨x1, hx1, hF⟩ := bindS hF
  obtain ⟨x2, hx2, hF⟩ := bindS hF
  refine r_cut (fun e w' => ∃ (S7 : Nat → Prop) (p10 : Option Addr) (S8 : Nat → Prop) (p11 : Option Addr), e = [(1, .slice p3 times.length k3), (2, .pointer (some ⟨bb1, 0, none⟩)), (6, .slice p11 ((times.length : Int).toNat) ((times.length : Int).toNat)), (7, .slice p10 ((times.length : Int).toNat) ((times.length : Int).toNat))] ∧ SH w w' [Ch.own S7 (x2 : List Bool) [.slice p10 ((times.length : Int).toNat) ((times.length : Int).toNat)], Ch.own S8 (x1 : List Int) [.slice p11 ((times.length : Int).toNat) ((times.length : Int).toNat)], Ch.box bb1 [.slice p1 s.Latches.length k1, .slice p2 s.Links.length k2] 41]) ?_ ?_
  · refine r_any [] (fun w' => SH w w' []) rfl 8 rfl #[false, false, false, false, false, false, false, false] (by kernel_rfl) (fun w4 hb => ?_)
    replace h := h.ext hb
    clear hb
    refine a_take 0 rfl #[true, false, false, false, false, false, false, false] (by kernel_rfl) (by kernel_rfl) (fun w' hw => v_p tabOk rfl w') (h.pick [] rfl) rfl ?_
    refine a_take 1 rfl #[true, true, false, false, false, false, false, false] (by kernel_rfl) (by kernel_rfl) (fun w' hw => v_p tabOk rfl w') (h.pick [] rfl) rfl ?_
    refine a_take 3 rfl #[true, true, false, true, false, false, false, false] (by kernel_rfl) (by kernel_rfl) (fun w' hw => v_p tabOk rfl w') (h.pick [] rfl) rfl ?_
    refine a_take 4 rfl #[true, true, false, true, true, false, false, false] (by kernel_rfl) (by kernel_rfl) (fun w' hw => v_p tabOk rfl w') (h.pick [] rfl) rfl ?_
    refine a_two 2 5 rfl rfl #[true, true, true, true, true, false, false, false] #[true, true, false, true, true, true, false, false] (by kernel_rfl) (by kernel_rfl)  (by kernel_rfl) ?_ ?_
    · obtain ⟨g13, g14, hx1⟩ := mkS_some hx1
      refine r_make tabOk Int h rfl rfl rfl rfl rfl rfl rfl rfl rfl g13 g14 rfl ?_
      intro w9 S9 p12 h
      replace hx1 : List.replicate _ GoT.zero = x1 := hx1
      rw [hx1] at h
      refine a_goal (fun _ => (h.pick [] rfl)) ?_
      refine a_take 6 rfl #[true, true, true, true, true, false, true, false] (by kernel_rfl) (by kernel_rfl) (fun w' hw => v_p tabOk rfl w') (h.pick [] rfl) rfl ?_
      refine a_only 5 rfl #[true, true, true, true, true, true, true, false] (by kernel_rfl) (by kernel_rfl) ?_
      obtain ⟨g15, g16, hx2⟩ := mkS_some hx2
      refine r_make tabOk Bool h rfl rfl rfl rfl rfl rfl rfl rfl rfl g15 g16 rfl ?_
      intro w10 S10 p13 h
      replace hx2 : List.replicate _ GoT.zero = x2 := hx2
      rw [hx2] at h
      refine a_goal (fun _ => (h.pick [] rfl)) ?_
      refine a_take 7 rfl #[true, true, true, true, true, true, true, true] (by kernel_rfl) (by kernel_rfl) (fun w' hw => v_p tabOk rfl w') (h.pick [] rfl) rfl ?_
      refine a_done (by kernel_rfl) ?_
      exact r_cutgoal [(1, _), (2, _), (6, _), (7, _)] ⟨rfl, rfl, rfl, rfl, trivial⟩ ⟨_, _, _, _, rfl, h⟩
    · obtain ⟨g17, g18, hx2⟩ := mkS_some hx2
      refine r_make tabOk Bool h rfl rfl rfl rfl rfl rfl rfl rfl rfl g17 g18 rfl ?_
      intro w11 S11 p14 h
      replace hx2 : List.replicate _ GoT.zero = x2 := hx2
      rw [hx2] at h
      refine a_goal (fun _ => (h.pick [] rfl)) ?_
      refine a_only 2 rfl #[true, true, true, true, true, true, false, false] (by kernel_rfl) (by kernel_rfl) ?_
      obtain ⟨g19, g20, hx1⟩ := mkS_some hx1
      refine r_make tabOk Int h rfl rfl rfl rfl rfl rfl rfl rfl rfl g19 g20 rfl ?_
      intro w12 S12 p15 h
      replace hx1 : List.replicate _ GoT.zero = x1 := hx1
      rw [hx1] at h
      refine a_goal (fun _ => (h.pick [] rfl)) ?_
      refine a_take 6 rfl #[true, true, true, true, true, true, true, false] (by kernel_rfl) (by kernel_rfl) (fun w' hw => v_p tabOk rfl w') (h.pick [] rfl) rfl ?_
      refine a_take 7 rfl #[true, true, true, true, true, true, true, true] (by kernel_rfl) (by kernel_rfl) (fun w' hw => v_p tabOk rfl w') (h.pick [] rfl) rfl ?_
      refine a_done (by kernel_rfl) ?_
      replace h := h.pick [1, 0, 2] rfl
      exact r_cutgoal [(1, _), (2, _), (6, _), (7, _)] ⟨rfl, rfl, rfl, rfl, trivial⟩ ⟨_, _, _, _, rfl, h⟩
  · rintro e1 w13 ⟨S7, p10, S8, p11, rfl, h⟩
    refine r_seq ?_
    refine r_seq ?_
    refine r_region ?_
    refine r_p tabOk rfl rfl ?_
    refine r_v (v_ld tabOk (h.box 2 rfl) (j := 1) rfl rfl rfl) rfl ?_
    refine r_p tabOk rfl rfl ?_
    refine r_p tabOk rfl rfl ?_
    refine r_nil ?_
    obtain ⟨o1, hF, hK1⟩ := bindS hF
    refine r_block ?_
    replace h := h.pick [0, 1] rfl
    refine r_sub [(1, _), (6, _), (7, _), (18, _), (19, _), (20, _)] ⟨rfl, rfl, rfl, rfl, rfl, rfl, trivial⟩ ?_
    refine r_loop (fun m e w' => ∃ (x3 : (List Bool)) (x4 : (List Int)) (i1 : Int), impl_LatchSystem_arrivals_L1 s times m x3 x4 i1 = some o1 ∧ e = [(1, .slice p3 times.length k3), (6, .slice p11 ((times.length : Int).toNat) ((times.length : Int).toNat)), (7, .slice p10 ((times.length : Int).toNat) ((times.length : Int).toNat)), (18, .slice p2 s.Links.length k2), (19, .int .i64 (s.Links.length : Int)), (20, .int .i64 i1)] ∧ SH w w' [Ch.own S7 (x3 : List Bool) [.slice p10 ((times.length : Int).toNat) ((times.length : Int).toNat)], Ch.own S8 (x4 : List Int) [.slice p11 ((times.length : Int).toNat) ((times.length : Int).toNat)]]) n ⟨_, _, _, hF, rfl, h⟩ ?_
    rintro m1 e2 w14 ⟨x3, x4, i1, hF, rfl, h⟩
    rcases m1 with _ | m1
    · rw [impl_LatchSystem_arrivals_L1] at hF
      cases hF
    rw [impl_LatchSystem_arrivals_L1] at hF
    refine r_seq ?_
    refine r_region ?_
    refine r_p tabOk rfl rfl ?_
    refine r_nil ?_
    refine r_seq ?_
    refine r_cond rfl (fun hc1 => ?_) (fun hc1 => ?_)
    · replace hF := bifT hc1 hF
      refine r_skip ?_
      refine r_seq ?_
      refine r_block ?_
      refine r_seq ?_
      refine r_region ?_
      obtain ⟨y1, hy1, hF⟩ := bindS hF
      have he1 := idx_some hy1
      obtain ⟨b1, o_1, q1, cs3, hp1, hq1, -, hr1, hc2⟩ := s2.at hy1
      obtain rfl := open_TLatchLink hr1
      refine r_v (v_ix tabOk hp1 hq1 ⟨he1.1, he1.2.1⟩ rfl rfl rfl rfl rfl rfl) rfl ?_
      refine r_v (v_ld tabOk (hc2.below h.below) (j := 0) rfl rfl rfl) rfl ?_
      refine r_alloc tabOk h rfl rfl rfl ?_
      intro w15 bb2 h
      refine r_stbox tabOk 0 h rfl rfl rfl rfl rfl rfl rfl ?_
      intro w16 h
      refine r_nil ?_
      refine r_seq ?_
      refine r_draw rfl (by kernel_rfl) ?_
      refine d_p tabOk rfl rfl ?_
      refine d_p tabOk rfl rfl ?_
      refine d_v (fun _ hb => v_ld tabOk ((h.box 0 rfl).below hb) (j := 0) rfl rfl rfl) rfl ?_
      obtain ⟨y2, hy2, hF⟩ := bindS hF
      have he2 := idx_some hy2
      obtain ⟨b2, o_2, q2, cs4, hp2, hq2, -, hr2, hc3⟩ := s3.at hy2
      obtain rfl := hr2
      refine d_v (fun _ hb => v_ix tabOk hp2 hq2 ⟨he2.1, he2.2.1⟩ rfl rfl rfl rfl rfl rfl) rfl ?_
      refine d_v (fun _ hb => v_ld tabOk ((hc3.below h.below).below hb) (j := 0) rfl rfl rfl) rfl ?_
      refine d_p tabOk rfl rfl ?_
      refine d_v (fun _ hb => v_ld tabOk ((h.box 0 rfl).below hb) (j := 2) rfl rfl rfl) rfl ?_
      refine d_p tabOk rfl rfl ?_
      refine d_p tabOk rfl rfl ?_
      refine d_v (fun _ hb => v_ld tabOk ((h.box 0 rfl).below hb) (j := 3) rfl rfl rfl) rfl ?_
      refine d_p tabOk rfl rfl ?_
      refine d_p tabOk rfl rfl ?_
      refine d_nil (fun w17 hb => ?_)
      replace h := h.ext hb
      clear hb
      refine r_seq ?_
      obtain ⟨KF1, hKF1, o2, hF, hK2⟩ := bindE hF
      refine r_cut (fun e w' => ∃ (b3 : Bool), KF1 b3 = some o1 ∧ e = [(1, .slice p3 times.length k3), (6, .slice p11 ((times.length : Int).toNat) ((times.length : Int).toNat)), (7, .slice p10 ((times.length : Int).toNat) ((times.length : Int).toNat)), (9, .pointer (some ⟨bb2, 0, none⟩)), (10, .int .i64 (W64 ((W64 (y2 + y1.Delay)) - y1.Shift))), (18, .slice p2 s.Links.length k2), (19, .int .i64 (s.Links.length : Int)), (20, .int .i64 i1), (49, .bool b3)] ∧ SH w w' [Ch.box bb2 [.int .i64 y1.From, .int .i64 y1.To, .int .i64 y1.Delay, .int .i64 y1.Shift] 76, Ch.own S7 (x3 : List Bool) [.slice p10 ((times.length : Int).toNat) ((times.length : Int).toNat)], Ch.own S8 (x4 : List Int) [.slice p11 ((times.length : Int).toNat) ((times.length : Int).toNat)]]) ?_ ?_
      · refine r_region ?_
        refine r_p tabOk rfl rfl ?_
        refine r_p tabOk rfl rfl ?_
        refine r_v (v_ld tabOk (h.box 0 rfl) (j := 1) rfl rfl rfl) rfl ?_
        obtain ⟨y5, hy5, hF⟩ := bindS hF
        have he7 := idx_some hy5
        obtain ⟨b8, o_7, q7, cs9, hp7, hq7, -, hr7, hc9⟩ := (h.sl 1 rfl).1.at hy5
        obtain rfl := hr7
        refine r_v (v_ix tabOk hp7 hq7 ⟨he7.1, lt_ln he7.2.1 (h.sl 1 rfl).2⟩ rfl rfl rfl rfl rfl rfl) rfl ?_
        refine r_v (v_ld tabOk hc9 (j := 0) rfl rfl rfl) rfl ?_
        refine r_p tabOk rfl rfl ?_
        refine r_p tabOk rfl rfl ?_
        by_cases hc10 : (!y5) = true
        · replace hF := bifT hc10 hF
          refine r_setT hc10 (t := 41) rfl ?_
          refine r_unwanted rfl ?_ (fun _ hd => by cases hd; rfl)
          refine r_unwanted rfl ?_ (fun _ hd => by cases hd; rfl)
          refine r_unwanted rfl ?_ (fun _ hd => by cases hd; rfl)
          refine r_unwanted rfl ?_ (fun _ hd => by cases hd; rfl)
          refine r_unwanted rfl ?_ (fun _ hd => by cases hd; rfl)
          refine r_unwanted rfl ?_ (fun _ hd => by cases hd; rfl)
          refine r_unwanted rfl ?_ (fun _ hd => by cases hd; rfl)
          refine r_p tabOk rfl rfl ?_
          refine r_nil ?_
          obtain rfl := someI hF
          exact r_cutgoal [(1, _), (6, _), (7, _), (9, _), (10, _), (18, _), (19, _), (20, _), (49, _)] ⟨rfl, rfl, rfl, rfl, rfl, rfl, rfl, rfl, rfl, trivial⟩ ⟨_, hK2, rfl, h⟩
        · replace hc10 := Bool.eq_false_iff.2 hc10
          replace hF := bifF hc10 hF
          refine r_setF hc10 (t := 41) rfl ?_
          refine r_wanted rfl ?_
          refine r_p tabOk rfl rfl ?_
          refine r_wanted rfl ?_
          refine r_p tabOk rfl rfl ?_
          refine r_wanted rfl ?_
          refine r_p tabOk rfl rfl ?_
          refine r_wanted rfl ?_
          refine r_v (v_ld tabOk (h.box 0 rfl) (j := 1) rfl rfl rfl) rfl ?_
          refine r_wanted rfl ?_
          obtain ⟨y6, hy6, hF⟩ := bindS hF
          have he8 := idx_some hy6
          obtain ⟨b9, o_8, q8, cs10, hp8, hq8, -, hr8, hc11⟩ := (h.sl 2 rfl).1.at hy6
          obtain rfl := hr8
          refine r_v (v_ix tabOk hp8 hq8 ⟨he8.1, lt_ln he8.2.1 (h.sl 2 rfl).2⟩ rfl rfl rfl rfl rfl rfl) rfl ?_
          refine r_wanted rfl ?_
          refine r_v (v_ld tabOk hc11 (j := 0) rfl rfl rfl) rfl ?_
          refine r_wanted rfl ?_
          refine r_p tabOk rfl rfl ?_
          refine r_p tabOk rfl rfl ?_
          refine r_nil ?_
          obtain rfl := someI hF
          exact r_cutgoal [(1, _), (6, _), (7, _), (9, _), (10, _), (18, _), (19, _), (20, _), (49, _)] ⟨rfl, rfl, rfl, rfl, rfl, rfl, rfl, rfl, rfl, trivial⟩ ⟨_, hK2, rfl, h⟩
      · rintro e3 w23 ⟨b3, hF, rfl, h⟩
        subst hKF1
        refine r_cond rfl (fun hc4 => ?_) (fun hc4 => ?_)
        · replace hF := bifT hc4 hF
          obtain ⟨y3, hy3, hF⟩ := bindS hF
          obtain ⟨y4, hy4, hF⟩ := bindS hF
          refine r_any [] (fun w' => SH w w' [Ch.box bb2 [.int .i64 y1.From, .int .i64 y1.To, .int .i64 y1.Delay, .int .i64 y1.Shift] 76]) rfl 11 rfl #[false, false, false, false, false, false, false, false, false, false, false] (by kernel_rfl) (fun w20 hb => ?_)
          replace h := h.ext hb
          clear hb
          refine a_take 0 rfl #[true, false, false, false, false, false, false, false, false, false, false] (by kernel_rfl) (by kernel_rfl) (fun w' hw => v_p tabOk rfl w') (h.pick [0] rfl) rfl ?_
          refine a_take 1 rfl #[true, true, false, false, false, false, false, false, false, false, false] (by kernel_rfl) (by kernel_rfl) (fun w' hw => v_p tabOk rfl w') (h.pick [0] rfl) rfl ?_
          refine a_take 2 rfl #[true, true, true, false, false, false, false, false, false, false, false] (by kernel_rfl) (by kernel_rfl) (fun w' hw => v_ld tabOk (hw.box 0 rfl) (j := 1) rfl rfl rfl) (h.pick [0] rfl) rfl ?_
          refine a_take 3 rfl #[true, true, true, true, false, false, false, false, false, false, false] (by kernel_rfl) (by kernel_rfl) (fun w' hw => v_p tabOk rfl w') (h.pick [0] rfl) rfl ?_
          refine a_take 4 rfl #[true, true, true, true, true, false, false, false, false, false, false] (by kernel_rfl) (by kernel_rfl) (fun w' hw => v_p tabOk rfl w') (h.pick [0] rfl) rfl ?_
          refine a_take 5 rfl #[true, true, true, true, true, true, false, false, false, false, false] (by kernel_rfl) (by kernel_rfl) (fun w' hw => v_ld tabOk (hw.box 0 rfl) (j := 1) rfl rfl rfl) (h.pick [0] rfl) rfl ?_
          refine a_take 6 rfl #[true, true, true, true, true, true, true, false, false, false, false] (by kernel_rfl) (by kernel_rfl) (fun w' hw => v_p tabOk rfl w') (h.pick [0] rfl) rfl ?_
          have he5 := idx_some hy3
          obtain ⟨b6, o_5, q5, cs7, hp5, hq5, -, hr5, hc7⟩ := (h.sl 2 rfl).1.at hy3
          obtain rfl := hr5
          refine a_take 7 rfl #[true, true, true, true, true, true, true, true, false, false, false] (by kernel_rfl) (by kernel_rfl) (fun w' hw => v_ix tabOk hp5 hq5 ⟨he5.1, lt_ln he5.2.1 (h.sl 2 rfl).2⟩ rfl rfl rfl rfl rfl rfl) (h.pick [0] rfl) rfl ?_
          refine a_only 8 rfl #[true, true, true, true, true, true, true, true, true, false, false] (by kernel_rfl) (by kernel_rfl) ?_
          refine r_stown tabOk 2 0 (W64 ((W64 (y2 + y1.Delay)) - y1.Shift)) h rfl hy3 hp5 hq5 rfl hc7 rfl rfl rfl rfl rfl rfl rfl ?_
          intro w21 h
          refine a_goal (fun _ => (h.pick [0] rfl)) ?_
          have he6 := idx_some hy4
          obtain ⟨b7, o_6, q6, cs8, hp6, hq6, -, hr6, hc8⟩ := (h.sl 1 rfl).1.at hy4
          obtain rfl := hr6
          refine a_take 9 rfl #[true, true, true, true, true, true, true, true, true, true, false] (by kernel_rfl) (by kernel_rfl) (fun w' hw => v_ix tabOk hp6 hq6 ⟨he6.1, lt_ln he6.2.1 (h.sl 1 rfl).2⟩ rfl rfl rfl rfl rfl rfl) (h.pick [0] rfl) rfl ?_
          refine a_only 10 rfl #[true, true, true, true, true, true, true, true, true, true, true] (by kernel_rfl) (by kernel_rfl) ?_
          refine r_stown tabOk 1 0 true h rfl hy4 hp6 hq6 rfl hc8 rfl rfl rfl rfl rfl rfl rfl ?_
          intro w22 h
          refine a_goal (fun _ => (h.pick [0] rfl)) ?_
          refine a_done (by kernel_rfl) ?_
          refine r_blk ?_
          refine r_region ?_
          refine r_p tabOk rfl rfl ?_
          refine r_p tabOk rfl rfl ?_
          refine r_nil ?_
          replace h := h.pick [1, 2] rfl
          exact r_back m1 [(1, _), (6, _), (7, _), (18, _), (19, _), (20, _)] (Nat.lt_succ_self m1) ⟨rfl, rfl, rfl, rfl, rfl, rfl, trivial⟩ ⟨_, _, _, hF, rfl, h⟩
        · replace hF := bifF hc4 hF
          refine r_skip ?_
          refine r_blk ?_
          refine r_region ?_
          refine r_p tabOk rfl rfl ?_
          refine r_p tabOk rfl rfl ?_
          refine r_nil ?_
          replace h := h.pick [1, 2] rfl
          exact r_back m1 [(1, _), (6, _), (7, _), (18, _), (19, _), (20, _)] (Nat.lt_succ_self m1) ⟨rfl, rfl, rfl, rfl, rfl, rfl, trivial⟩ ⟨_, _, _, hF, rfl, h⟩
    · replace hF := bifF hc1 hF
      refine r_exit rfl ?_
      obtain rfl := someI hF; replace hF := hK1
      refine r_seq ?_
      refine r_region ?_
      refine r_p tabOk rfl rfl ?_
      refine r_p tabOk rfl rfl ?_
      refine r_p tabOk rfl rfl ?_
      refine r_p tabOk rfl rfl ?_
      refine r_nil ?_
      obtain rfl := someI hF
      exact r_retV tabOk (ρ := ((List Int) × (List Bool))) [GoT.v (List Int) [.slice p11 ((times.length : Int).toNat) ((times.length : Int).toNat)], GoT.v (List Bool) [.slice p10 ((times.length : Int).toNat) ((times.length : Int).toNat)]] h ⟨rfl, rfl, trivial⟩ (PV.done h (pv_cons h (po_own 1 h rfl) (pv_one (po_own 0 h rfl)) (by rfl)))

end Go.Fw
