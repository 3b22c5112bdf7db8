/- By a program of mine (gen.py): for each function a plain function and the proof that the code computes it. -/
import Derived.Test.YthcphhbmdpepkaaGreatDoorB12
import Derived.Test.YthcphhbmdpepkaaGreatDoorB7
import Derived.Test.YthcphhbmdpepkaaGreatDoorFw33

namespace Go.Fw
open Go Go.Proofs
open Go.RowKit (Below)
set_option maxRecDepth 100000
def qfP (n : Nat) (b : qC) : Option Int :=
 (qcx n (⟨b.Design.Instances, b.Design.Nets, b.Design.Ports⟩ : qg)).bind fun r1 =>
 some (r1.length : Int)

theorem qkB {n : Nat} {w : World} {b : qC} {cs1 : List Value} (ha1 : GoT.R w (old w) b cs1) {r : Int} (hF : qfP n b = some r) : RetV Tryz.prog 48 [GoT.v qC cs1] w r := by
 obtain ⟨p1, k1, p2, k2, p3, k3, p4, k4, p5, k5, rfl, s1, s2, s3, s4, s5⟩ := qav ha1
 refine qe Tryz.func48 rfl (m := 7) rfl rfl (fun h => ?_)
 rw [qfP] at hF
 refine zSR (qO h rfl rfl ?_)
 intro w1 bb1 h
 refine zp1 rfl (zNSR (zp1 rfl (zl 0 1 h rfl ?_)))
 obtain ⟨r1, hr1, hF⟩ := qd hF
 refine qaz r1 h call93 (qei (qaW (⟨b.Design.Instances, b.Design.Nets, b.Design.Ports⟩ : qg) (h.oldS s2) (h.oldS s3) (h.oldS s4)) hr1) rfl rfl rfl rfl ?_
 intro w2 S1 p6 k6 h
 exact zp2 rfl (qb (qaP qc h hF ⟨rfl, trivial⟩))

def qdA (n : Nat) (b : qC) (place : Int) : Option ((List Int) × Int) :=
 (qgJ n b).bind fun r1 =>
 bif (!r1) then
  some ([], 1)
 else
  (qfP n b).bind fun r2 =>
  (qaE n place 0 (W64 (r2 - 1))).bind fun r3 =>
  bif (!r3) then
   some ([], 2)
  else
   (qfY n b place).bind fun r4 =>
   some (r4, 0)

theorem qiE {n : Nat} {w : World} {b : qC} {place : Int} {cs1 : List Value} (ha1 : GoT.R w (old w) b cs1) {r : ((List Int) × Int)} (hF : qdA n b place = some r) : RetV Tryz.prog 20 [GoT.v qC cs1, .int .i64 place] w r := by
 obtain ⟨p1, k1, p2, k2, p3, k3, p4, k4, p5, k5, rfl, s1, s2, s3, s4, s5⟩ := qav ha1
 refine qe Tryz.func20 rfl (m := 18) rfl rfl (fun h => ?_)
 rw [qdA] at hF
 refine zSR (qO h rfl rfl ?_)
 intro w1 bb1 h
 refine zp2 rfl (zNSSR (zl 0 0 h rfl ?_))
 obtain ⟨r1, hr1, hF⟩ := qd hF
 refine qq r1 h call33 (qkO (h.old ha1) hr1) rfl rfl rfl rfl ?_
 intro w2 h
 refine zp1 rfl (qb ?_)
 refine qt rfl hF ?_ ?_ <;> intro hF
 ·refine zSR (zp2 rfl (qb ?_))
  obtain rfl := qh hF
  exact qaf qc (ρ := ((List Int) × Int)) [GoT.v (List Int) [.slice none 0 0], GoT.v Int [.int .i64 1]] h ⟨rfl, rfl, trivial⟩ (PV.done h (qep h qi6 (qaj (qai (S := fun _ => False) rfl)) (by rfl)))
 refine zKSSR (zp1 rfl (zl 0 0 h rfl ?_))
 obtain ⟨r2, hr2, hF⟩ := qd hF
 refine qY r2 h call48 (qkB (h.old ha1) hr2) rfl rfl rfl rfl ?_
 intro w3 h
 refine zp1 rfl ?_
 obtain ⟨r3, hr3, hF⟩ := qd hF
 refine qq r3 h call35 (qao hr3) rfl rfl rfl rfl ?_
 intro w4 h
 refine zp1 rfl (qb ?_)
 refine qt rfl hF ?_ ?_ <;> intro hF
 ·refine zSR (zp2 rfl (qb ?_))
  obtain rfl := qh hF
  exact qaf qc (ρ := ((List Int) × Int)) [GoT.v (List Int) [.slice none 0 0], GoT.v Int [.int .i64 2]] h ⟨rfl, rfl, trivial⟩ (PV.done h (qep h qi6 (qaj (qai (S := fun _ => False) rfl)) (by rfl)))
 refine zKSR (zl 0 0 h rfl (zp1 rfl ?_))
 obtain ⟨r4, hr4, hF⟩ := qd hF
 refine qaz r4 h call50 (qkG (h.old ha1) hr4) rfl rfl rfl rfl ?_
 intro w5 S1 p6 k6 h
 refine zp2 rfl (qb ?_)
 obtain rfl := qh hF
 exact qaf qc (ρ := ((List Int) × Int)) [GoT.v (List Int) [.slice p6 r4.length k6], GoT.v Int [.int .i64 0]] h ⟨rfl, rfl, trivial⟩ (PV.done h (qep h (qad 0 h rfl) (qaj (qai (S := fun _ => False) rfl)) (by rfl)))

def qdE (_ : Nat) (list : (List Tplace)) : Option Int :=
 some (list.length : Int)

theorem qhX {n : Nat} {w : World} {list : (List Tplace)} {cs1 : List Value} (ha1 : GoT.R w (old w) list cs1) {r : Int} (hF : qdE n list = some r) : RetV Tryz.prog 83 [GoT.v (List Tplace) cs1] w r := by
 obtain ⟨p1, k1, rfl, s1⟩ := ha1
 refine qe Tryz.func83 rfl (m := 5) rfl rfl (fun h => ?_)
 rw [qdE] at hF
 exact zSR (zp1 rfl (zNSR (zp3 rfl (qb (qaP qc h hF ⟨rfl, trivial⟩)))))

def qfd (n : Nat) (v : (Option Tview)) (place : Int) : Option Bool :=
 (v).bind fun y1 =>
 (qdE n y1.places).bind fun r1 =>
 (qa9 n place 0 (W64 (r1 - 1))).bind fun r2 =>
 some r2

theorem qi2 {n : Nat} {w : World} {v : (Option Tview)} {place : Int} {cs1 : List Value} (ha1 : GoT.R w (old w) v cs1) {r : Bool} (hF : qfd n v place = some r) : RetV Tryz.prog 51 [GoT.v (Option Tview) cs1, .int .i64 place] w r := by
 obtain ⟨p1, rfl, s1⟩ := qj0 ha1
 refine qe Tryz.func51 rfl (m := 13) rfl rfl (fun h => ?_)
 rw [qfd] at hF
 refine zSR (zp1 rfl (zNSR (zp2 rfl ?_)))
 obtain ⟨y1, hy1, hF⟩ := qd hF
 obtain ⟨b1, o_1, cs2, rfl, -, hr1, hc1⟩ := PtR.get s1 hy1
 obtain ⟨p2, k1, p3, k2, p4, k3, p5, k4, p6, k5, p7, k6, p8, k7, p9, k8, p10, k9, p11, k10, rfl, s2, s3, s4, s5, s6, s7, s8, s9, s10, s11⟩ := qjS hr1
 refine zp2 rfl (zc 5 (hc1.below h.below) rfl ?_)
 obtain ⟨r1, hr2, hF⟩ := qd hF
 refine qY r1 h call83 (qhX ⟨_, _, rfl, (h.oldS s7)⟩ hr2) rfl rfl rfl rfl ?_
 intro w1 h
 refine zp1 rfl ?_
 obtain ⟨r2, hr3, hF⟩ := qd hF
 refine qq r2 h call100 (qaR hr3) rfl rfl rfl rfl ?_
 intro w2 h
 exact zp1 rfl (qb (qx qc h hF ⟨rfl, trivial⟩))

def qcJ (n : Nat) (b : qC) (place : Int) : Option ((List Int) × Int) :=
 (qgw n b).bind fun r1 =>
 bif (!r1) then
  some ([], 1)
 else
  (qgy n b).bind fun r2 =>
  (qfd n r2 place).bind fun r3 =>
  bif (!r3) then
   some ([], 2)
  else
   (qdi n r2 place).bind fun r4 =>
   some (r4, 0)

theorem qgL {n : Nat} {w : World} {b : qC} {place : Int} {cs1 : List Value} (ha1 : GoT.R w (old w) b cs1) {r : ((List Int) × Int)} (hF : qcJ n b place = some r) : RetV Tryz.prog 21 [GoT.v qC cs1, .int .i64 place] w r := by
 obtain ⟨p1, k1, p2, k2, p3, k3, p4, k4, p5, k5, rfl, s1, s2, s3, s4, s5⟩ := qav ha1
 refine qe Tryz.func21 rfl (m := 19) rfl rfl (fun h => ?_)
 rw [qcJ] at hF
 refine zSR (qO h rfl rfl ?_)
 intro w1 bb1 h
 refine zp2 rfl (zNSSR (zl 0 0 h rfl ?_))
 obtain ⟨r1, hr1, hF⟩ := qd hF
 refine qq r1 h call39 (qk7 (h.old ha1) hr1) rfl rfl rfl rfl ?_
 intro w2 h
 refine zp1 rfl (qb ?_)
 refine qt rfl hF ?_ ?_ <;> intro hF
 ·refine zSR (zp2 rfl (qb ?_))
  obtain rfl := qh hF
  exact qaf qc (ρ := ((List Int) × Int)) [GoT.v (List Int) [.slice none 0 0], GoT.v Int [.int .i64 1]] h ⟨rfl, rfl, trivial⟩ (PV.done h (qep h qi6 (qaj (qai (S := fun _ => False) rfl)) (by rfl)))
 refine zKSR (zl 0 0 h rfl ?_)
 have hg1 : Rg (old w) w (old w) w := .start (fun _ h => h)
 obtain ⟨r2, hr2, hF⟩ := qd hF
 refine qqB r2 hg1 h call40 (qk9 (hg1.regOld h) (hg1.inR h ha1) hr2) rfl rfl rfl rfl ?_
 intro w3 us1 B1 hg2 hu1 hz1 hv1
 have hb1 := h.below.trans (hu1.below.mono h.below.size)
 replace h := hz1
 obtain ⟨cs2, rfl, hr3⟩ := qlr hv1
 obtain ⟨p6, rfl, s6⟩ := qj0 hr3
 refine zp1 rfl (zNSSR (zp2 rfl ?_))
 obtain ⟨r3, hr4, hF⟩ := qd hF
 refine qq r3 h call51 (qi2 (h.old (GoT.mono s6 hg2.old)) hr4) rfl rfl rfl rfl ?_
 intro w4 h
 refine zp1 rfl (qb ?_)
 refine qt rfl hF ?_ ?_ <;> intro hF
 ·refine zSR (zp2 rfl (qb ?_))
  replace h := h.unbase hg2.below (show NoD [] from trivial)
  obtain rfl := qh hF
  exact qaf qc (ρ := ((List Int) × Int)) [GoT.v (List Int) [.slice none 0 0], GoT.v Int [.int .i64 2]] h ⟨rfl, rfl, trivial⟩ (PV.done h (qep h qi6 (qaj (qai (S := fun _ => False) rfl)) (by rfl)))
 refine zKSR (zp2 rfl ?_)
 obtain ⟨r4, hr5, hF⟩ := qd hF
 refine qaz r4 h call53 (qio (h.old (GoT.mono s6 hg2.old)) hr5) rfl rfl rfl rfl ?_
 intro w5 S1 p7 k6 h
 refine zp2 rfl (qb ?_)
 replace h := h.unbase hg2.below ⟨fun _ h => h, trivial⟩
 obtain rfl := qh hF
 exact qaf qc (ρ := ((List Int) × Int)) [GoT.v (List Int) [.slice p7 r4.length k6], GoT.v Int [.int .i64 0]] h ⟨rfl, rfl, trivial⟩ (PV.done h (qep h (qad 0 h rfl) (qaj (qai (S := fun _ => False) rfl)) (by rfl)))

def qbm (a : (List Int)) : Nat → (List Int) → Int → Int → Option ((List Int) × Int × Int)
 | 0, _, _, _ => none
 | n + 1, x1, i1, i2 =>
  bif decide (i2 < (a.length : Int)) then
   (idx x1 i2).bind fun _ =>
   qbm a n (setS x1 i2 i1) (W64 (i1 + 1)) (W64 (i2 + 1))
  else
   some (x1, i1, i2)

def qaF (n : Nat) (a : (List Int)) (k : Int) : Option (Int × (List Int)) :=
 (qbm a n a k 0).bind fun o => match o with
 | (x1, i1, _) =>
  some (i1, x1)

theorem qa1 {n : Nat} {w0 w : World} {F : List Ch} {a : (List Int)} {k : Int} {S1 : Nat → Prop} {p1 : Option Addr} {ln1 k1 : Nat} (h : SH w0 w (Ch.own S1 (a : List Int) [.slice p1 ln1 k1] :: F)) {r : (Int × (List Int))} (hF : qaF n a k = some r) : RetN Tryz.prog 24 [.slice p1 ln1 k1, .int .i64 k] w (fun w' => ∃ Z0 : Nat → Prop, SH w0 w' (Ch.own Z0 (r.2 : List Int) [.slice p1 ln1 k1] :: F)) r.1 := by
 refine qcO Tryz.func24 rfl (m := 19) rfl rfl ?_
 rw [qaF] at hF
 obtain rfl := (h.sl 0 rfl).2
 refine zSR (zp1 rfl (zNSSR (zp1 rfl (qb ?_))))
 obtain ⟨o1, hF, hK1⟩ := qd hF
 refine qw (qS [(0, _), (1, _), (5, _)] ⟨rfl, rfl, rfl, trivial⟩ ?_)
 refine qF (fun m e w' => ∃ (x1 : (List Int)) (i1 : Int) (i2 : Int), qbm a m x1 i1 i2 = some o1 ∧ e = [(0, .slice p1 a.length k1), (1, .int .i64 i1), (5, .int .i64 i2)] ∧ SH w0 w' (Ch.own S1 (x1 : List Int) [.slice p1 a.length k1] :: F)) n ⟨_, _, _, hF, rfl, h⟩ ?_
 rintro m1 e1 w1 ⟨x1, i1, i2, hF, rfl, h⟩
 rcases m1 with _ | m1
 ·rw [qbm] at hF
  cases hF
 rw [qbm] at hF
 refine zSSR (zp4 rfl (qb ?_))
 refine qt rfl hF ?_ ?_ <;> intro hF
 ·refine zKSBSR (zp3 rfl ?_)
  obtain ⟨y1, hy1, hF⟩ := qd hF
  have he1 := qf hy1
  obtain ⟨b1, o_1, q1, cs1, hp1, hq1, -, hr1, hc2⟩ := (h.sl 0 rfl).1.at hy1
  obtain rfl := hr1
  refine zx hp1 hq1 ⟨he1.1, qaa he1.2.1 (h.sl 0 rfl).2⟩ rfl (qcD qc 0 0 i1 h rfl hy1 hp1 hq1 rfl hc2 rfl rfl rfl rfl rfl rfl rfl ?_)
  intro w2 h
  refine qb (qB (zp3 rfl (zNER (zp3 rfl (qb ?_)))))
  exact qz m1 [(0, _), (1, _), (5, _)] (Nat.lt_succ_self m1) ⟨rfl, rfl, rfl, trivial⟩ ⟨_, _, _, hF, rfl, h⟩
 refine qG rfl ?_
 obtain rfl := qh hF; replace hF := hK1
 refine zSR (zp2 rfl (qb ?_))
 obtain rfl := qh hF
 exact qhv qc ⟨_, h⟩ ⟨rfl, trivial⟩

def qc4 : Nat → Int → ByteArray → Option (Int × ByteArray)
 | 0, _, _ => none
 | n + 1, i1, z1 =>
  bif decide (i1 > 0) then
   (catB (strOf ([(⟨IntKind.wrap .u8 (W64 (48 + (i1.tmod 10)))⟩ : IntK .u8)] : List (IntK .u8))) z1).bind fun z2 =>
   qc4 n (W64 (i1.tdiv 10)) z2
  else
   some (i1, z1)

def qc5 (n : Nat) (k : Int) : Option ByteArray :=
 bif decide (k ≤ 0) then
  some (⟨#[109, 48]⟩ : ByteArray)
 else
  (qc4 n k (⟨#[]⟩ : ByteArray)).bind fun o => match o with
  | (_, z1) =>
   (catB (⟨#[109]⟩ : ByteArray) z1).bind fun z3 =>
   some z3

theorem qet {n : Nat} {w : World} {k : Int}  {r : ByteArray} (hF : qc5 n k = some r) : RetV Tryz.prog 143 [.int .i64 k] w r := by
 refine qe Tryz.func143 rfl (m := 20) rfl rfl (fun h => ?_)
 rw [qc5] at hF
 refine zSR (zp1 rfl (zNSSR (zp2 rfl (qb ?_))))
 refine qt rfl hF ?_ ?_ <;> intro hF
 ·refine zSR (zp1 rfl (qb ?_))
  obtain rfl := qh hF
  exact qaf qc (ρ := ByteArray) [_] h ⟨rfl, trivial⟩ (qon _ _)
 refine zKSR (zp1 rfl (zNS ?_))
 obtain ⟨o1, hF, hK1⟩ := qd hF
 refine qw (qS [(0, _), (3, _)] ⟨rfl, rfl, trivial⟩ ?_)
 refine qF (fun m e w' => ∃ (i1 : Int) (z1 : ByteArray), qc4 m i1 z1 = some o1 ∧ e = [(0, .int .i64 i1), (3, .string z1)] ∧ SH w w' []) n ⟨_, _, hF, rfl, h⟩ ?_
 rintro m1 e1 w1 ⟨i1, z1, hF, rfl, h⟩
 rcases m1 with _ | m1
 ·rw [qc4] at hF
  cases hF
 rw [qc4] at hF
 refine zSSR (zp2 rfl (qb ?_))
 refine qt rfl hF ?_ ?_ <;> intro hF
 ·refine zKB (zSR (zp4 rfl (qaI qc [.tmp 11] _ ([(⟨IntKind.wrap .u8 (W64 (48 + (i1.tmod 10)))⟩ : IntK .u8)] : List (IntK .u8)) h rfl rfl rfl rfl rfl rfl rfl rfl rfl ⟨rfl, trivial⟩ rfl ?_)))
  intro w2 p1 S1 h
  refine r_v (qqk qc (h.sl 0 rfl).1 (h.sl 0 rfl).2 rfl ⟨rfl, rfl⟩ ⟨rfl, rfl⟩ rfl rfl) rfl (zp1 rfl ?_)
  obtain ⟨z2, hx1, hF⟩ := qd hF
  obtain ⟨g1, hx1⟩ := qmI hx1
  refine r_v (qqH g1 rfl rfl) rfl ?_
  rw [hx1]
  refine zp1 rfl (qb (qB (zp3 rfl (zNE ?_))))
  replace h := h.pick [] rfl
  exact qz m1 [(0, _), (3, _)] (Nat.lt_succ_self m1) ⟨rfl, rfl, trivial⟩ ⟨_, _, hF, rfl, h⟩
 refine qG rfl ?_
 obtain rfl := qh hF; replace hF := hK1
 refine zSR (zp1 rfl ?_)
 obtain ⟨z3, hx2, hF⟩ := qd hF
 obtain ⟨g2, hx2⟩ := qmI hx2
 refine r_v (qqH g2 rfl rfl) rfl ?_
 rw [hx2]
 refine zp1 rfl (qb ?_)
 obtain rfl := qh hF
 exact qaf qc (ρ := ByteArray) [_] h ⟨rfl, trivial⟩ (qon _ _)

def qcn (a : (List qae)) : Nat → (List qae) → Int → Int → Option ((List qae) × Int × Int)
 | 0, _, _, _ => none
 | n + 1, x1, i1, i2 =>
  bif decide (i2 < (a.length : Int)) then
   (qc5 n i1).bind fun r1 =>
   (idx x1 i2).bind fun y1 =>
   (idx (setS x1 i2 ({ y1 with Name := r1 })) i2).bind fun y2 =>
   (idx (setS (setS x1 i2 ({ y1 with Name := r1 })) i2 ({ y2 with Dir := W64 (i1 + 1) })) i2).bind fun y3 =>
   (idx (setS (setS (setS x1 i2 ({ y1 with Name := r1 })) i2 ({ y2 with Dir := W64 (i1 + 1) })) i2 ({ y3 with Cap := W64 ((W64 (i1 + 1)) + 1) })) i2).bind fun y4 =>
   qcn a n (setS (setS (setS (setS x1 i2 ({ y1 with Name := r1 })) i2 ({ y2 with Dir := W64 (i1 + 1) })) i2 ({ y3 with Cap := W64 ((W64 (i1 + 1)) + 1) })) i2 ({ y4 with Clock := (((W64 ((W64 ((W64 (i1 + 1)) + 1)) + 1)).tmod 3) == 0) })) (W64 ((W64 ((W64 ((W64 (i1 + 1)) + 1)) + 1)) + 1)) (W64 (i2 + 1))
  else
   some (x1, i1, i2)

def qg9 (n : Nat) (a : (List qae)) (k : Int) : Option (Int × (List qae)) :=
 (qcn a n a k 0).bind fun o => match o with
 | (x1, i1, _) =>
  some (i1, x1)

theorem qj8 {n : Nat} {w0 w : World} {F : List Ch} {a : (List qae)} {k : Int} {S1 : Nat → Prop} {p1 : Option Addr} {ln1 k1 : Nat} (h : SH w0 w (Ch.own S1 (a : List qae) [.slice p1 ln1 k1] :: F)) {r : (Int × (List qae))} (hF : qg9 n a k = some r) : RetN Tryz.prog 144 [.slice p1 ln1 k1, .int .i64 k] w (fun w' => ∃ Z0 : Nat → Prop, SH w0 w' (Ch.own Z0 (r.2 : List qae) [.slice p1 ln1 k1] :: F)) r.1 := by
 refine qcO Tryz.func144 rfl (m := 44) rfl rfl ?_
 rw [qg9] at hF
 obtain rfl := (h.sl 0 rfl).2
 refine zSR (zp1 rfl (zNSSR (zp1 rfl (qb ?_))))
 obtain ⟨o1, hF, hK1⟩ := qd hF
 refine qw (qS [(0, _), (1, _), (5, _)] ⟨rfl, rfl, rfl, trivial⟩ ?_)
 refine qF (fun m e w' => ∃ (x1 : (List qae)) (i1 : Int) (i2 : Int), qcn a m x1 i1 i2 = some o1 ∧ e = [(0, .slice p1 a.length k1), (1, .int .i64 i1), (5, .int .i64 i2)] ∧ SH w0 w' (Ch.own S1 (x1 : List qae) [.slice p1 a.length k1] :: F)) n ⟨_, _, _, hF, rfl, h⟩ ?_
 rintro m1 e1 w1 ⟨x1, i1, i2, hF, rfl, h⟩
 rcases m1 with _ | m1
 ·rw [qcn] at hF
  cases hF
 rw [qcn] at hF
 refine zSSR (zp4 rfl (qb ?_))
 refine qt rfl hF ?_ ?_ <;> intro hF
 ·refine zKSBSR (zp3 rfl ?_)
  obtain ⟨r1, hr1, hF⟩ := qd hF
  refine qjq r1 h call143 (qet hr1) rfl rfl rfl rfl ?_
  intro w2 h
  obtain ⟨y1, hy1, hF⟩ := qd hF
  have he1 := qf hy1
  obtain ⟨b1, o_1, q1, cs1, hp1, hq1, -, hr2, hc2⟩ := (h.sl 0 rfl).1.at hy1
  obtain rfl := qaO hr2
  refine zx hp1 hq1 ⟨he1.1, qaa he1.2.1 (h.sl 0 rfl).2⟩ rfl (zp1 rfl (qcD qc 0 0 ({ y1 with Name := r1 }) h rfl hy1 hp1 hq1 (qdz y1) hc2 rfl rfl rfl (qdz ({ y1 with Name := r1 })) rfl rfl rfl ?_))
  intro w3 h
  refine zNSR (zp3 rfl (zNSR (zp3 rfl ?_)))
  obtain ⟨y2, hy2, hF⟩ := qd hF
  have he2 := qf hy2
  obtain ⟨b2, o_2, q2, cs2, hp2, hq2, -, hr3, hc3⟩ := (h.sl 0 rfl).1.at hy2
  obtain rfl := qaO hr3
  refine zx hp2 hq2 ⟨he2.1, qaa he2.2.1 (h.sl 0 rfl).2⟩ rfl (zp1 rfl (qcD qc 0 1 ({ y2 with Dir := W64 (i1 + 1) }) h rfl hy2 hp2 hq2 (qdz y2) hc3 rfl rfl rfl (qdz ({ y2 with Dir := W64 (i1 + 1) })) rfl rfl rfl ?_))
  intro w4 h
  refine zNSR (zp3 rfl (zNSR (zp3 rfl ?_)))
  obtain ⟨y3, hy3, hF⟩ := qd hF
  have he3 := qf hy3
  obtain ⟨b3, o_3, q3, cs3, hp3, hq3, -, hr4, hc4⟩ := (h.sl 0 rfl).1.at hy3
  obtain rfl := qaO hr4
  refine zx hp3 hq3 ⟨he3.1, qaa he3.2.1 (h.sl 0 rfl).2⟩ rfl (zp1 rfl (qcD qc 0 2 ({ y3 with Cap := W64 ((W64 (i1 + 1)) + 1) }) h rfl hy3 hp3 hq3 (qdz y3) hc4 rfl rfl rfl (qdz ({ y3 with Cap := W64 ((W64 (i1 + 1)) + 1) })) rfl rfl rfl ?_))
  intro w5 h
  refine zNSR (zp3 rfl (zNSR (zp3 rfl ?_)))
  refine zp2 rfl ?_
  obtain ⟨y4, hy4, hF⟩ := qd hF
  have he4 := qf hy4
  obtain ⟨b4, o_4, q4, cs4, hp4, hq4, -, hr5, hc5⟩ := (h.sl 0 rfl).1.at hy4
  obtain rfl := qaO hr5
  refine zx hp4 hq4 ⟨he4.1, qaa he4.2.1 (h.sl 0 rfl).2⟩ rfl (zp1 rfl (qcD qc 0 3 ({ y4 with Clock := (((W64 ((W64 ((W64 (i1 + 1)) + 1)) + 1)).tmod 3) == 0) }) h rfl hy4 hp4 hq4 (qdz y4) hc5 rfl rfl rfl (qdz ({ y4 with Clock := (((W64 ((W64 ((W64 (i1 + 1)) + 1)) + 1)).tmod 3) == 0) })) rfl rfl rfl ?_))
  intro w6 h
  refine qb (qB (zp3 rfl (zNER (zp3 rfl (qb ?_)))))
  exact qz m1 [(0, _), (1, _), (5, _)] (Nat.lt_succ_self m1) ⟨rfl, rfl, rfl, trivial⟩ ⟨_, _, _, hF, rfl, h⟩
 refine qG rfl ?_
 obtain rfl := qh hF; replace hF := hK1
 refine zSR (zp2 rfl (qb ?_))
 obtain rfl := qh hF
 exact qhv qc ⟨_, h⟩ ⟨rfl, trivial⟩

def qbI (a : (List qA)) : Nat → (List qA) → Int → Int → Option ((List qA) × Int × Int)
 | 0, _, _, _ => none
 | n + 1, x1, i1, i2 =>
  bif decide (i2 < (a.length : Int)) then
   (idx x1 i2).bind fun y1 =>
   (qaF n y1.Slews i1).bind fun o => match o with
    | (r1, x2) =>
     (qaF n y1.Loads r1).bind fun o => match o with
      | (r2, x3) =>
       (qaF n y1.Values r2).bind fun o => match o with
        | (r3, x4) =>
         qbI a n (setS x1 i2 (⟨x2, x3, x4⟩ : qA)) r3 (W64 (i2 + 1))
  else
   some (x1, i1, i2)

def qeX (n : Nat) (a : (List qA)) (k : Int) : Option (Int × (List qA)) :=
 (qbI a n a k 0).bind fun o => match o with
 | (x1, i1, _) =>
  some (i1, x1)

theorem qhw {n : Nat} {w0 w : World} {F : List Ch} {a : (List qA)} {k : Int} {S1 : Nat → Prop} {p1 : Option Addr} {ln1 k1 : Nat} (h : SH w0 w (Ch.own S1 (a : List qA) [.slice p1 ln1 k1] :: F)) {r : (Int × (List qA))} (hF : qeX n a k = some r) : RetN Tryz.prog 162 [.slice p1 ln1 k1, .int .i64 k] w (fun w' => ∃ Z0 : Nat → Prop, SH w0 w' (Ch.own Z0 (r.2 : List qA) [.slice p1 ln1 k1] :: F)) r.1 := by
 refine qcO Tryz.func162 rfl (m := 34) rfl rfl ?_
 rw [qeX] at hF
 obtain rfl := (h.sl 0 rfl).2
 refine zSR (zp1 rfl (zNSSR (zp1 rfl (qb ?_))))
 obtain ⟨o1, hF, hK1⟩ := qd hF
 refine qw (qS [(0, _), (1, _), (5, _)] ⟨rfl, rfl, rfl, trivial⟩ ?_)
 refine qF (fun m e w' => ∃ (S2 : Nat → Prop) (x1 : (List qA)) (i1 : Int) (i2 : Int), qbI a m x1 i1 i2 = some o1 ∧ e = [(0, .slice p1 a.length k1), (1, .int .i64 i1), (5, .int .i64 i2)] ∧ SH w0 w' (Ch.own S2 (x1 : List qA) [.slice p1 a.length k1] :: F)) n ⟨_, _, _, _, hF, rfl, h⟩ ?_
 rintro m1 e1 w1 ⟨S2, x1, i1, i2, hF, rfl, h⟩
 rcases m1 with _ | m1
 ·rw [qbI] at hF
  cases hF
 rw [qbI] at hF
 refine zSSR (zp4 rfl (qb ?_))
 refine qt rfl hF ?_ ?_ <;> intro hF
 ·refine zKSBSR (zp2 rfl ?_)
  obtain ⟨y1, hy1, hF⟩ := qd hF
  have he1 := qf hy1
  obtain ⟨S3, S4, cs1, h⟩ := h.take hy1
  obtain ⟨p2, k2, p3, k3, p4, k4, rfl, -, -, -⟩ := qbf (h.own 0 rfl)
  obtain ⟨S5, S6, S7, h⟩ := qmU h
  obtain ⟨b1, hp1, -, -, hl2⟩ := h.holeAt 3 rfl
  obtain ⟨q1, hq1⟩ : ∃ q, q = 0 + (i2).toNat * GoT.k qA := ⟨_, rfl⟩
  refine zx hp1 hq1 ⟨he1.1, qaa he1.2.1 hl2⟩ rfl (zp1 rfl (zc 0 (qcB h 3 rfl hp1 hq1) rfl (zp1 rfl ?_)))
  replace h := h.pickT 4 [2, 0, 1, 3] rfl
  obtain ⟨o2, hr1, hF⟩ := qd hF
  obtain ⟨r1, x2⟩ := o2
  refine qcW r1 call24 (qa1 h hr1) rfl rfl rfl rfl ?_
  rintro w2 ⟨S8, h⟩
  refine zp1 rfl (zNSR (zp2 rfl ?_))
  obtain ⟨b2, hp2, -, -, hl4⟩ := h.holeAt 3 rfl
  obtain ⟨q2, hq2⟩ : ∃ q, q = 0 + (i2).toNat * GoT.k qA := ⟨_, rfl⟩
  refine zx hp2 hq2 ⟨he1.1, qaa he1.2.1 hl4⟩ rfl (zp1 rfl (zc 1 (qcB h 3 rfl hp2 hq2) rfl (zp1 rfl ?_)))
  replace h := h.pickT 4 [2, 0, 1, 3] rfl
  obtain ⟨o3, hr2, hF⟩ := qd hF
  obtain ⟨r2, x3⟩ := o3
  refine qcW r2 call24 (qa1 h hr2) rfl rfl rfl rfl ?_
  rintro w3 ⟨S9, h⟩
  refine zp1 rfl (qb (qB (zp2 rfl ?_)))
  obtain ⟨b3, hp3, -, -, hl6⟩ := h.holeAt 3 rfl
  obtain ⟨q3, hq3⟩ : ∃ q, q = 0 + (i2).toNat * GoT.k qA := ⟨_, rfl⟩
  refine zx hp3 hq3 ⟨he1.1, qaa he1.2.1 hl6⟩ rfl (zp1 rfl (zc 2 (qcB h 3 rfl hp3 hq3) rfl (zp1 rfl ?_)))
  replace h := h.pickT 4 [2, 0, 1, 3] rfl
  obtain ⟨o4, hr3, hF⟩ := qd hF
  obtain ⟨r3, x4⟩ := o4
  refine qcW r3 call24 (qa1 h hr3) rfl rfl rfl rfl ?_
  rintro w4 ⟨S10, h⟩
  refine zp1 rfl (zNER (zp3 rfl (qb ?_)))
  obtain ⟨S11, h⟩ := h.gatherT 4 [3] (qmD (⟨x2, x3, x4⟩ : qA) h (qad 2 h rfl) (qad 1 h rfl) (qad 0 h rfl) (by rfl) (by rfl)) rfl
  replace h := h.put
  obtain ⟨S12, h⟩ := qkm (S := _) h
  exact qz m1 [(0, _), (1, _), (5, _)] (Nat.lt_succ_self m1) ⟨rfl, rfl, rfl, trivial⟩ ⟨_, _, _, _, hF, rfl, h⟩
 refine qG rfl ?_
 obtain rfl := qh hF; replace hF := hK1
 refine zSR (zp2 rfl (qb ?_))
 obtain rfl := qh hF
 exact qhv qc ⟨_, h⟩ ⟨rfl, trivial⟩

def qck (a : (List qT)) : Nat → (List qT) → Int → Int → Option ((List qT) × Int × Int)
 | 0, _, _, _ => none
 | n + 1, x1, i1, i2 =>
  bif decide (i2 < (a.length : Int)) then
   (idx x1 i2).bind fun y1 =>
   (qeX n y1.Delay (W64 ((W64 ((W64 ((W64 (i1 + 1)) + 1)) + 1)) + 1))).bind fun o => match o with
    | (r1, x2) =>
     (qeX n y1.Slew r1).bind fun o => match o with
      | (r2, x3) =>
       qck a n (setS x1 i2 (⟨i1, W64 (i1 + 1), W64 ((W64 (i1 + 1)) + 1), W64 ((W64 ((W64 (i1 + 1)) + 1)) + 1), x2, x3⟩ : qT)) r2 (W64 (i2 + 1))
  else
   some (x1, i1, i2)

def qha (n : Nat) (a : (List qT)) (k : Int) : Option (Int × (List qT)) :=
 (qck a n a k 0).bind fun o => match o with
 | (x1, i1, _) =>
  some (i1, x1)

theorem qkh {n : Nat} {w0 w : World} {F : List Ch} {a : (List qT)} {k : Int} {S1 : Nat → Prop} {p1 : Option Addr} {ln1 k1 : Nat} (h : SH w0 w (Ch.own S1 (a : List qT) [.slice p1 ln1 k1] :: F)) {r : (Int × (List qT))} (hF : qha n a k = some r) : RetN Tryz.prog 145 [.slice p1 ln1 k1, .int .i64 k] w (fun w' => ∃ Z0 : Nat → Prop, SH w0 w' (Ch.own Z0 (r.2 : List qT) [.slice p1 ln1 k1] :: F)) r.1 := by
 refine qcO Tryz.func145 rfl (m := 55) rfl rfl ?_
 rw [qha] at hF
 obtain rfl := (h.sl 0 rfl).2
 refine zSR (zp1 rfl (zNSSR (zp1 rfl (qb ?_))))
 obtain ⟨o1, hF, hK1⟩ := qd hF
 refine qw (qS [(0, _), (1, _), (5, _)] ⟨rfl, rfl, rfl, trivial⟩ ?_)
 refine qF (fun m e w' => ∃ (S2 : Nat → Prop) (x1 : (List qT)) (i1 : Int) (i2 : Int), qck a m x1 i1 i2 = some o1 ∧ e = [(0, .slice p1 a.length k1), (1, .int .i64 i1), (5, .int .i64 i2)] ∧ SH w0 w' (Ch.own S2 (x1 : List qT) [.slice p1 a.length k1] :: F)) n ⟨_, _, _, _, hF, rfl, h⟩ ?_
 rintro m1 e1 w1 ⟨S2, x1, i1, i2, hF, rfl, h⟩
 rcases m1 with _ | m1
 ·rw [qck] at hF
  cases hF
 rw [qck] at hF
 refine zSSR (zp4 rfl (qb ?_))
 refine qt rfl hF ?_ ?_ <;> intro hF
 ·refine zKSBSR (zp3 rfl ?_)
  obtain ⟨y1, hy1, hF⟩ := qd hF
  have he1 := qf hy1
  obtain ⟨S3, S4, cs1, h⟩ := h.take hy1
  obtain ⟨p2, k2, p3, k3, rfl, -, -⟩ := qan (h.own 0 rfl)
  obtain ⟨S5, S6, h⟩ := qnR h
  obtain ⟨b1, hp1, -, -, hl2⟩ := h.holeAt 2 rfl
  obtain ⟨q1, hq1⟩ : ∃ q, q = 0 + (i2).toNat * GoT.k qT := ⟨_, rfl⟩
  refine zx hp1 hq1 ⟨he1.1, qaa he1.2.1 hl2⟩ rfl (zp1 rfl (qfk qc 2 0 h rfl hp1 hq1 rfl rfl rfl rfl rfl rfl ?_))
  intro w2 h
  refine zNSR (zp3 rfl (zNSR (zp3 rfl ?_)))
  obtain ⟨b2, hp2, -, -, hl4⟩ := h.holeAt 2 rfl
  obtain ⟨q2, hq2⟩ : ∃ q, q = 0 + (i2).toNat * GoT.k qT := ⟨_, rfl⟩
  refine zx hp2 hq2 ⟨he1.1, qaa he1.2.1 hl4⟩ rfl (zp1 rfl (qfk qc 2 1 h rfl hp2 hq2 rfl rfl rfl rfl rfl rfl ?_))
  intro w3 h
  replace h : SH _ _ (Ch.own S6 (y1.Slew : List qA) [.slice p3 y1.Slew.length k3] :: Ch.own S5 (y1.Delay : List qA) [.slice p2 y1.Delay.length k2] :: Ch.hole S4 (x1 : List qT) p1 a.length k1 (i2).toNat [.int .i64 i1, .int .i64 (W64 (i1 + 1)), .int .i64 y1.To, .int .i64 y1.Sense, .slice p2 y1.Delay.length k2, .slice p3 y1.Slew.length k3] :: F) := h
  refine zNSR (zp3 rfl (zNSR (zp3 rfl ?_)))
  obtain ⟨b3, hp3, -, -, hl6⟩ := h.holeAt 2 rfl
  obtain ⟨q3, hq3⟩ : ∃ q, q = 0 + (i2).toNat * GoT.k qT := ⟨_, rfl⟩
  refine zx hp3 hq3 ⟨he1.1, qaa he1.2.1 hl6⟩ rfl (zp1 rfl (qfk qc 2 2 h rfl hp3 hq3 rfl rfl rfl rfl rfl rfl ?_))
  intro w4 h
  refine zNSR (zp3 rfl (zNSR (zp3 rfl ?_)))
  obtain ⟨b4, hp4, -, -, hl8⟩ := h.holeAt 2 rfl
  obtain ⟨q4, hq4⟩ : ∃ q, q = 0 + (i2).toNat * GoT.k qT := ⟨_, rfl⟩
  refine zx hp4 hq4 ⟨he1.1, qaa he1.2.1 hl8⟩ rfl (zp1 rfl (qfk qc 2 3 h rfl hp4 hq4 rfl rfl rfl rfl rfl rfl ?_))
  intro w5 h
  replace h : SH _ _ (Ch.own S6 (y1.Slew : List qA) [.slice p3 y1.Slew.length k3] :: Ch.own S5 (y1.Delay : List qA) [.slice p2 y1.Delay.length k2] :: Ch.hole S4 (x1 : List qT) p1 a.length k1 (i2).toNat [.int .i64 i1, .int .i64 (W64 (i1 + 1)), .int .i64 (W64 ((W64 (i1 + 1)) + 1)), .int .i64 (W64 ((W64 ((W64 (i1 + 1)) + 1)) + 1)), .slice p2 y1.Delay.length k2, .slice p3 y1.Slew.length k3] :: F) := h
  refine zNSR (zp3 rfl (zNSR (zp2 rfl ?_)))
  obtain ⟨b5, hp5, -, -, hl10⟩ := h.holeAt 2 rfl
  obtain ⟨q5, hq5⟩ : ∃ q, q = 0 + (i2).toNat * GoT.k qT := ⟨_, rfl⟩
  refine zx hp5 hq5 ⟨he1.1, qaa he1.2.1 hl10⟩ rfl (zp1 rfl (zc 4 (qcB h 2 rfl hp5 hq5) rfl (zp1 rfl ?_)))
  replace h := h.pickT 3 [1, 0, 2] rfl
  obtain ⟨o2, hr1, hF⟩ := qd hF
  obtain ⟨r1, x2⟩ := o2
  refine qcW r1 call162 (qhw h hr1) rfl rfl rfl rfl ?_
  rintro w6 ⟨S7, h⟩
  refine zp1 rfl (qb (qB (zp2 rfl ?_)))
  obtain ⟨b6, hp6, -, -, hl12⟩ := h.holeAt 2 rfl
  obtain ⟨q6, hq6⟩ : ∃ q, q = 0 + (i2).toNat * GoT.k qT := ⟨_, rfl⟩
  refine zx hp6 hq6 ⟨he1.1, qaa he1.2.1 hl12⟩ rfl (zp1 rfl (zc 5 (qcB h 2 rfl hp6 hq6) rfl (zp1 rfl ?_)))
  replace h := h.pickT 3 [1, 0, 2] rfl
  obtain ⟨o3, hr2, hF⟩ := qd hF
  obtain ⟨r2, x3⟩ := o3
  refine qcW r2 call162 (qhw h hr2) rfl rfl rfl rfl ?_
  rintro w7 ⟨S8, h⟩
  refine zp1 rfl (zNER (zp3 rfl (qb ?_)))
  obtain ⟨S9, h⟩ := h.gatherT 3 [2] (qox (⟨i1, W64 (i1 + 1), W64 ((W64 (i1 + 1)) + 1), W64 ((W64 ((W64 (i1 + 1)) + 1)) + 1), x2, x3⟩ : qT) h (qai (S := fun _ => False) rfl) (qai (S := fun _ => False) rfl) (qai (S := fun _ => False) rfl) (qai (S := fun _ => False) rfl) (qad 1 h rfl) (qad 0 h rfl) (by rfl) (by rfl) (by rfl) (by rfl) (by rfl)) rfl
  replace h := h.put
  obtain ⟨S10, h⟩ := qkm (S := _) h
  exact qz m1 [(0, _), (1, _), (5, _)] (Nat.lt_succ_self m1) ⟨rfl, rfl, rfl, trivial⟩ ⟨_, _, _, _, hF, rfl, h⟩
 refine qG rfl ?_
 obtain rfl := qh hF; replace hF := hK1
 refine zSR (zp2 rfl (qb ?_))
 obtain rfl := qh hF
 exact qhv qc ⟨_, h⟩ ⟨rfl, trivial⟩

def qb4 (a : (List qv)) : Nat → (List qv) → Int → Int → Option ((List qv) × Int × Int)
 | 0, _, _, _ => none
 | n + 1, x1, i1, i2 =>
  bif decide (i2 < (a.length : Int)) then
   (qc5 n i1).bind fun r1 =>
   (idx x1 i2).bind fun y1 =>
   (qg9 n y1.Pins (W64 ((W64 (i1 + 1)) + 1))).bind fun o => match o with
    | (r2, x2) =>
     (qha n y1.Arcs r2).bind fun o => match o with
      | (r3, x3) =>
       (qaF n y1.Truth r3).bind fun o => match o with
        | (r4, x4) =>
         qb4 a n (setS x1 i2 (⟨r1, W64 (i1 + 1), x2, x3, x4, r4, W64 (r4 + 1)⟩ : qv)) (W64 ((W64 (r4 + 1)) + 1)) (W64 (i2 + 1))
  else
   some (x1, i1, i2)

def qgs (n : Nat) (a : (List qv)) (k : Int) : Option (Int × (List qv)) :=
 (qb4 a n a k 0).bind fun o => match o with
 | (x1, i1, _) =>
  some (i1, x1)

theorem qjQ {n : Nat} {w0 w : World} {F : List Ch} {a : (List qv)} {k : Int} {S1 : Nat → Prop} {p1 : Option Addr} {ln1 k1 : Nat} (h : SH w0 w (Ch.own S1 (a : List qv) [.slice p1 ln1 k1] :: F)) {r : (Int × (List qv))} (hF : qgs n a k = some r) : RetN Tryz.prog 107 [.slice p1 ln1 k1, .int .i64 k] w (fun w' => ∃ Z0 : Nat → Prop, SH w0 w' (Ch.own Z0 (r.2 : List qv) [.slice p1 ln1 k1] :: F)) r.1 := by
 refine qcO Tryz.func107 rfl (m := 63) rfl rfl ?_
 rw [qgs] at hF
 obtain rfl := (h.sl 0 rfl).2
 refine zSR (zp1 rfl (zNSSR (zp1 rfl (qb ?_))))
 obtain ⟨o1, hF, hK1⟩ := qd hF
 refine qw (qS [(0, _), (1, _), (5, _)] ⟨rfl, rfl, rfl, trivial⟩ ?_)
 refine qF (fun m e w' => ∃ (S2 : Nat → Prop) (x1 : (List qv)) (i1 : Int) (i2 : Int), qb4 a m x1 i1 i2 = some o1 ∧ e = [(0, .slice p1 a.length k1), (1, .int .i64 i1), (5, .int .i64 i2)] ∧ SH w0 w' (Ch.own S2 (x1 : List qv) [.slice p1 a.length k1] :: F)) n ⟨_, _, _, _, hF, rfl, h⟩ ?_
 rintro m1 e1 w1 ⟨S2, x1, i1, i2, hF, rfl, h⟩
 rcases m1 with _ | m1
 ·rw [qb4] at hF
  cases hF
 rw [qb4] at hF
 refine zSSR (zp4 rfl (qb ?_))
 refine qt rfl hF ?_ ?_ <;> intro hF
 ·refine zKSBSR (zp3 rfl ?_)
  obtain ⟨r1, hr1, hF⟩ := qd hF
  refine qjq r1 h call143 (qet hr1) rfl rfl rfl rfl ?_
  intro w2 h
  obtain ⟨y1, hy1, hF⟩ := qd hF
  have he1 := qf hy1
  obtain ⟨S3, S4, cs1, h⟩ := h.take hy1
  obtain ⟨p2, k2, p3, k3, p4, k4, rfl, -, -, -⟩ := qU (h.own 0 rfl)
  obtain ⟨S5, S6, S7, h⟩ := qm8 h
  obtain ⟨b1, hp1, -, -, hl2⟩ := h.holeAt 3 rfl
  obtain ⟨q1, hq1⟩ : ∃ q, q = 0 + (i2).toNat * GoT.k qv := ⟨_, rfl⟩
  refine zx hp1 hq1 ⟨he1.1, qaa he1.2.1 hl2⟩ rfl (zp1 rfl (qfk qc 3 0 h rfl hp1 hq1 rfl rfl rfl rfl rfl rfl ?_))
  intro w3 h
  refine zNSR (zp3 rfl (zNSR (zp3 rfl ?_)))
  obtain ⟨b2, hp2, -, -, hl4⟩ := h.holeAt 3 rfl
  obtain ⟨q2, hq2⟩ : ∃ q, q = 0 + (i2).toNat * GoT.k qv := ⟨_, rfl⟩
  refine zx hp2 hq2 ⟨he1.1, qaa he1.2.1 hl4⟩ rfl (zp1 rfl (qfk qc 3 1 h rfl hp2 hq2 rfl rfl rfl rfl rfl rfl ?_))
  intro w4 h
  replace h : SH _ _ (Ch.own S7 (y1.Truth : List Int) [.slice p4 y1.Truth.length k4] :: Ch.own S6 (y1.Arcs : List qT) [.slice p3 y1.Arcs.length k3] :: Ch.own S5 (y1.Pins : List qae) [.slice p2 y1.Pins.length k2] :: Ch.hole S4 (x1 : List qv) p1 a.length k1 (i2).toNat [.string r1, .int .i64 (W64 (i1 + 1)), .slice p2 y1.Pins.length k2, .slice p3 y1.Arcs.length k3, .slice p4 y1.Truth.length k4, .int .i64 y1.Leak, .int .i64 y1.Energy] :: F) := h
  refine zNSR (zp3 rfl (zNSR (zp2 rfl ?_)))
  obtain ⟨b3, hp3, -, -, hl6⟩ := h.holeAt 3 rfl
  obtain ⟨q3, hq3⟩ : ∃ q, q = 0 + (i2).toNat * GoT.k qv := ⟨_, rfl⟩
  refine zx hp3 hq3 ⟨he1.1, qaa he1.2.1 hl6⟩ rfl (zp1 rfl (zc 2 (qcB h 3 rfl hp3 hq3) rfl (zp1 rfl ?_)))
  replace h := h.pickT 4 [2, 0, 1, 3] rfl
  obtain ⟨o2, hr2, hF⟩ := qd hF
  obtain ⟨r2, x2⟩ := o2
  refine qcW r2 call144 (qj8 h hr2) rfl rfl rfl rfl ?_
  rintro w5 ⟨S8, h⟩
  refine zp1 rfl (zNSR (zp2 rfl ?_))
  obtain ⟨b4, hp4, -, -, hl8⟩ := h.holeAt 3 rfl
  obtain ⟨q4, hq4⟩ : ∃ q, q = 0 + (i2).toNat * GoT.k qv := ⟨_, rfl⟩
  refine zx hp4 hq4 ⟨he1.1, qaa he1.2.1 hl8⟩ rfl (zp1 rfl (zc 3 (qcB h 3 rfl hp4 hq4) rfl (zp1 rfl ?_)))
  replace h := h.pickT 4 [2, 0, 1, 3] rfl
  obtain ⟨o3, hr3, hF⟩ := qd hF
  obtain ⟨r3, x3⟩ := o3
  refine qcW r3 call145 (qkh h hr3) rfl rfl rfl rfl ?_
  rintro w6 ⟨S9, h⟩
  refine zp1 rfl (zNSR (zp2 rfl ?_))
  obtain ⟨b5, hp5, -, -, hl10⟩ := h.holeAt 3 rfl
  obtain ⟨q5, hq5⟩ : ∃ q, q = 0 + (i2).toNat * GoT.k qv := ⟨_, rfl⟩
  refine zx hp5 hq5 ⟨he1.1, qaa he1.2.1 hl10⟩ rfl (zp1 rfl (zc 4 (qcB h 3 rfl hp5 hq5) rfl (zp1 rfl ?_)))
  replace h := h.pickT 4 [2, 0, 1, 3] rfl
  obtain ⟨o4, hr4, hF⟩ := qd hF
  obtain ⟨r4, x4⟩ := o4
  refine qcW r4 call24 (qa1 h hr4) rfl rfl rfl rfl ?_
  rintro w7 ⟨S10, h⟩
  refine zp1 rfl (zNSR (zp3 rfl ?_))
  obtain ⟨b6, hp6, -, -, hl12⟩ := h.holeAt 3 rfl
  obtain ⟨q6, hq6⟩ : ∃ q, q = 0 + (i2).toNat * GoT.k qv := ⟨_, rfl⟩
  refine zx hp6 hq6 ⟨he1.1, qaa he1.2.1 hl12⟩ rfl (zp1 rfl (qfk qc 3 5 h rfl hp6 hq6 rfl rfl rfl rfl rfl rfl ?_))
  intro w8 h
  refine zNSR (zp3 rfl (zNSR (zp3 rfl ?_)))
  obtain ⟨b7, hp7, -, -, hl14⟩ := h.holeAt 3 rfl
  obtain ⟨q7, hq7⟩ : ∃ q, q = 0 + (i2).toNat * GoT.k qv := ⟨_, rfl⟩
  refine zx hp7 hq7 ⟨he1.1, qaa he1.2.1 hl14⟩ rfl (zp1 rfl (qfk qc 3 6 h rfl hp7 hq7 rfl rfl rfl rfl rfl rfl ?_))
  intro w9 h
  replace h : SH _ _ (Ch.own S10 (x4 : List Int) [.slice p4 y1.Truth.length k4] :: Ch.own S9 (x3 : List qT) [.slice p3 y1.Arcs.length k3] :: Ch.own S8 (x2 : List qae) [.slice p2 y1.Pins.length k2] :: Ch.hole S4 (x1 : List qv) p1 a.length k1 (i2).toNat [.string r1, .int .i64 (W64 (i1 + 1)), .slice p2 y1.Pins.length k2, .slice p3 y1.Arcs.length k3, .slice p4 y1.Truth.length k4, .int .i64 r4, .int .i64 (W64 (r4 + 1))] :: F) := h
  refine qb (qB (zp3 rfl (zNER (zp3 rfl (qb ?_)))))
  obtain ⟨S11, h⟩ := h.gatherT 4 [3] (qnb (⟨r1, W64 (i1 + 1), x2, x3, x4, r4, W64 (r4 + 1)⟩ : qv) h (qai (S := fun _ => False) rfl) (qai (S := fun _ => False) rfl) (qad 2 h rfl) (qad 1 h rfl) (qad 0 h rfl) (qai (S := fun _ => False) rfl) (qai (S := fun _ => False) rfl) (by rfl) (by rfl) (by rfl) (by rfl) (by rfl) (by rfl)) rfl
  replace h := h.put
  obtain ⟨S12, h⟩ := qkm (S := _) h
  exact qz m1 [(0, _), (1, _), (5, _)] (Nat.lt_succ_self m1) ⟨rfl, rfl, rfl, trivial⟩ ⟨_, _, _, _, hF, rfl, h⟩
 refine qG rfl ?_
 obtain rfl := qh hF; replace hF := hK1
 refine zSR (zp2 rfl (qb ?_))
 obtain rfl := qh hF
 exact qhv qc ⟨_, h⟩ ⟨rfl, trivial⟩

def qfD (n : Nat) (a : qn) (k : Int) : Option (Int × (List qv)) :=
 (qgs n a.Cells k).bind fun o => match o with
  | (r1, x1) =>
   some (r1, x1)

theorem qi0 {n : Nat} {w0 w : World} {F : List Ch} {a : qn} {k : Int} {S1 : Nat → Prop} {p1 : Option Addr} {ln1 k1 : Nat} (h : SH w0 w (Ch.own S1 (a.Cells : List qv) [.slice p1 ln1 k1] :: F)) {r : (Int × (List qv))} (hF : qfD n a k = some r) : RetN Tryz.prog 54 [.agg #[.slice p1 ln1 k1], .int .i64 k] w (fun w' => ∃ Z0 : Nat → Prop, SH w0 w' (Ch.own Z0 (r.2 : List qv) [.slice p1 ln1 k1] :: F)) r.1 := by
 refine qcO Tryz.func54 rfl (m := 10) rfl rfl ?_
 rw [qfD] at hF
 obtain rfl := (h.sl 0 rfl).2
 refine zSR (qO h rfl rfl ?_)
 intro w1 bb1 h
 refine zp1 rfl (zNSR (zp1 rfl (zl 0 0 h rfl (zp1 rfl ?_))))
 replace h := h.pickT 2 [1, 0] rfl
 obtain ⟨o1, hr1, hF⟩ := qd hF
 obtain ⟨r1, x1⟩ := o1
 refine qcW r1 call107 (qjQ h hr1) rfl rfl rfl rfl ?_
 rintro w2 ⟨S2, h⟩
 refine zp1 rfl (zNSR (zp2 rfl (qb ?_)))
 obtain rfl := qh hF
 replace h := h.pickT 2 [0] rfl
 exact qhv qc ⟨_, h⟩ ⟨rfl, trivial⟩

def qbb (a : (List ql)) : Nat → (List ql) → Int → Int → Option ((List ql) × Int × Int)
 | 0, _, _, _ => none
 | n + 1, x1, i1, i2 =>
  bif decide (i2 < (a.length : Int)) then
   (qc5 n i1).bind fun r1 =>
   (idx x1 i2).bind fun y1 =>
   (qaF n y1.Nets (W64 ((W64 (i1 + 1)) + 1))).bind fun o => match o with
    | (r2, x2) =>
     qbb a n (setS x1 i2 (⟨r1, W64 (i1 + 1), x2⟩ : ql)) r2 (W64 (i2 + 1))
  else
   some (x1, i1, i2)

def qeI (n : Nat) (a : (List ql)) (k : Int) : Option (Int × (List ql)) :=
 (qbb a n a k 0).bind fun o => match o with
 | (x1, i1, _) =>
  some (i1, x1)

theorem qiA {n : Nat} {w0 w : World} {F : List Ch} {a : (List ql)} {k : Int} {S1 : Nat → Prop} {p1 : Option Addr} {ln1 k1 : Nat} (h : SH w0 w (Ch.own S1 (a : List ql) [.slice p1 ln1 k1] :: F)) {r : (Int × (List ql))} (hF : qeI n a k = some r) : RetN Tryz.prog 108 [.slice p1 ln1 k1, .int .i64 k] w (fun w' => ∃ Z0 : Nat → Prop, SH w0 w' (Ch.own Z0 (r.2 : List ql) [.slice p1 ln1 k1] :: F)) r.1 := by
 refine qcO Tryz.func108 rfl (m := 35) rfl rfl ?_
 rw [qeI] at hF
 obtain rfl := (h.sl 0 rfl).2
 refine zSR (zp1 rfl (zNSSR (zp1 rfl (qb ?_))))
 obtain ⟨o1, hF, hK1⟩ := qd hF
 refine qw (qS [(0, _), (1, _), (5, _)] ⟨rfl, rfl, rfl, trivial⟩ ?_)
 refine qF (fun m e w' => ∃ (S2 : Nat → Prop) (x1 : (List ql)) (i1 : Int) (i2 : Int), qbb a m x1 i1 i2 = some o1 ∧ e = [(0, .slice p1 a.length k1), (1, .int .i64 i1), (5, .int .i64 i2)] ∧ SH w0 w' (Ch.own S2 (x1 : List ql) [.slice p1 a.length k1] :: F)) n ⟨_, _, _, _, hF, rfl, h⟩ ?_
 rintro m1 e1 w1 ⟨S2, x1, i1, i2, hF, rfl, h⟩
 rcases m1 with _ | m1
 ·rw [qbb] at hF
  cases hF
 rw [qbb] at hF
 refine zSSR (zp4 rfl (qb ?_))
 refine qt rfl hF ?_ ?_ <;> intro hF
 ·refine zKSBSR (zp3 rfl ?_)
  obtain ⟨r1, hr1, hF⟩ := qd hF
  refine qjq r1 h call143 (qet hr1) rfl rfl rfl rfl ?_
  intro w2 h
  obtain ⟨y1, hy1, hF⟩ := qd hF
  have he1 := qf hy1
  obtain ⟨S3, S4, cs1, h⟩ := h.take hy1
  obtain ⟨p2, k2, rfl, -⟩ := qV (h.own 0 rfl)
  obtain ⟨S5, h⟩ := qlb h
  obtain ⟨b1, hp1, -, -, hl2⟩ := h.holeAt 1 rfl
  obtain ⟨q1, hq1⟩ : ∃ q, q = 0 + (i2).toNat * GoT.k ql := ⟨_, rfl⟩
  refine zx hp1 hq1 ⟨he1.1, qaa he1.2.1 hl2⟩ rfl (zp1 rfl (qfk qc 1 0 h rfl hp1 hq1 rfl rfl rfl rfl rfl rfl ?_))
  intro w3 h
  refine zNSR (zp3 rfl (zNSR (zp3 rfl ?_)))
  obtain ⟨b2, hp2, -, -, hl4⟩ := h.holeAt 1 rfl
  obtain ⟨q2, hq2⟩ : ∃ q, q = 0 + (i2).toNat * GoT.k ql := ⟨_, rfl⟩
  refine zx hp2 hq2 ⟨he1.1, qaa he1.2.1 hl4⟩ rfl (zp1 rfl (qfk qc 1 1 h rfl hp2 hq2 rfl rfl rfl rfl rfl rfl ?_))
  intro w4 h
  replace h : SH _ _ (Ch.own S5 (y1.Nets : List Int) [.slice p2 y1.Nets.length k2] :: Ch.hole S4 (x1 : List ql) p1 a.length k1 (i2).toNat [.string r1, .int .i64 (W64 (i1 + 1)), .slice p2 y1.Nets.length k2] :: F) := h
  refine zNSR (zp3 rfl (qb (qB (zp2 rfl ?_))))
  obtain ⟨b3, hp3, -, -, hl6⟩ := h.holeAt 1 rfl
  obtain ⟨q3, hq3⟩ : ∃ q, q = 0 + (i2).toNat * GoT.k ql := ⟨_, rfl⟩
  refine zx hp3 hq3 ⟨he1.1, qaa he1.2.1 hl6⟩ rfl (zp1 rfl (zc 2 (qcB h 1 rfl hp3 hq3) rfl (zp1 rfl ?_)))
  obtain ⟨o2, hr2, hF⟩ := qd hF
  obtain ⟨r2, x2⟩ := o2
  refine qcW r2 call24 (qa1 h hr2) rfl rfl rfl rfl ?_
  rintro w5 ⟨S6, h⟩
  refine zp1 rfl (zNER (zp3 rfl (qb ?_)))
  obtain ⟨S7, h⟩ := h.gatherT 2 [1] (qka (⟨r1, W64 (i1 + 1), x2⟩ : ql) h (qai (S := fun _ => False) rfl) (qai (S := fun _ => False) rfl) (qad 0 h rfl) (by rfl) (by rfl)) rfl
  replace h := h.put
  obtain ⟨S8, h⟩ := qkm (S := _) h
  exact qz m1 [(0, _), (1, _), (5, _)] (Nat.lt_succ_self m1) ⟨rfl, rfl, rfl, trivial⟩ ⟨_, _, _, _, hF, rfl, h⟩
 refine qG rfl ?_
 obtain rfl := qh hF; replace hF := hK1
 refine zSR (zp2 rfl (qb ?_))
 obtain rfl := qh hF
 exact qhv qc ⟨_, h⟩ ⟨rfl, trivial⟩

def qbu (a : (List ByteArray)) : Nat → (List ByteArray) → Int → Int → Option ((List ByteArray) × Int × Int)
 | 0, _, _, _ => none
 | n + 1, x1, i1, i2 =>
  bif decide (i2 < (a.length : Int)) then
   (qc5 n i1).bind fun r1 =>
   (idx x1 i2).bind fun _ =>
   qbu a n (setS x1 i2 r1) (W64 (i1 + 1)) (W64 (i2 + 1))
  else
   some (x1, i1, i2)

def qfx (n : Nat) (a : (List ByteArray)) (k : Int) : Option (Int × (List ByteArray)) :=
 (qbu a n a k 0).bind fun o => match o with
 | (x1, i1, _) =>
  some (i1, x1)

theorem qjd {n : Nat} {w0 w : World} {F : List Ch} {a : (List ByteArray)} {k : Int} {S1 : Nat → Prop} {p1 : Option Addr} {ln1 k1 : Nat} (h : SH w0 w (Ch.own S1 (a : List ByteArray) [.slice p1 ln1 k1] :: F)) {r : (Int × (List ByteArray))} (hF : qfx n a k = some r) : RetN Tryz.prog 109 [.slice p1 ln1 k1, .int .i64 k] w (fun w' => ∃ Z0 : Nat → Prop, SH w0 w' (Ch.own Z0 (r.2 : List ByteArray) [.slice p1 ln1 k1] :: F)) r.1 := by
 refine qcO Tryz.func109 rfl (m := 20) rfl rfl ?_
 rw [qfx] at hF
 obtain rfl := (h.sl 0 rfl).2
 refine zSR (zp1 rfl (zNSSR (zp1 rfl (qb ?_))))
 obtain ⟨o1, hF, hK1⟩ := qd hF
 refine qw (qS [(0, _), (1, _), (5, _)] ⟨rfl, rfl, rfl, trivial⟩ ?_)
 refine qF (fun m e w' => ∃ (x1 : (List ByteArray)) (i1 : Int) (i2 : Int), qbu a m x1 i1 i2 = some o1 ∧ e = [(0, .slice p1 a.length k1), (1, .int .i64 i1), (5, .int .i64 i2)] ∧ SH w0 w' (Ch.own S1 (x1 : List ByteArray) [.slice p1 a.length k1] :: F)) n ⟨_, _, _, hF, rfl, h⟩ ?_
 rintro m1 e1 w1 ⟨x1, i1, i2, hF, rfl, h⟩
 rcases m1 with _ | m1
 ·rw [qbu] at hF
  cases hF
 rw [qbu] at hF
 refine zSSR (zp4 rfl (qb ?_))
 refine qt rfl hF ?_ ?_ <;> intro hF
 ·refine zKSBSR (zp3 rfl ?_)
  obtain ⟨r1, hr1, hF⟩ := qd hF
  refine qjq r1 h call143 (qet hr1) rfl rfl rfl rfl ?_
  intro w2 h
  obtain ⟨y1, hy1, hF⟩ := qd hF
  have he1 := qf hy1
  obtain ⟨b1, o_1, q1, cs1, hp1, hq1, -, hr2, hc2⟩ := (h.sl 0 rfl).1.at hy1
  obtain rfl := hr2
  refine zx hp1 hq1 ⟨he1.1, qaa he1.2.1 (h.sl 0 rfl).2⟩ rfl (qcD qc 0 0 r1 h rfl hy1 hp1 hq1 rfl hc2 rfl rfl rfl rfl rfl rfl rfl ?_)
  intro w3 h
  refine qb (qB (zp3 rfl (zNER (zp3 rfl (qb ?_)))))
  exact qz m1 [(0, _), (1, _), (5, _)] (Nat.lt_succ_self m1) ⟨rfl, rfl, rfl, trivial⟩ ⟨_, _, _, hF, rfl, h⟩
 refine qG rfl ?_
 obtain rfl := qh hF; replace hF := hK1
 refine zSR (zp2 rfl (qb ?_))
 obtain rfl := qh hF
 exact qhv qc ⟨_, h⟩ ⟨rfl, trivial⟩

def qb0 (a : (List qW)) : Nat → (List qW) → Int → Int → Option ((List qW) × Int × Int)
 | 0, _, _, _ => none
 | n + 1, x1, i1, i2 =>
  bif decide (i2 < (a.length : Int)) then
   (qc5 n i1).bind fun r1 =>
   (idx x1 i2).bind fun y1 =>
   (idx (setS x1 i2 ({ y1 with Name := r1 })) i2).bind fun y2 =>
   (idx (setS (setS x1 i2 ({ y1 with Name := r1 })) i2 ({ y2 with Dir := W64 (i1 + 1) })) i2).bind fun y3 =>
   qb0 a n (setS (setS (setS x1 i2 ({ y1 with Name := r1 })) i2 ({ y2 with Dir := W64 (i1 + 1) })) i2 ({ y3 with Net := W64 ((W64 (i1 + 1)) + 1) })) (W64 ((W64 ((W64 (i1 + 1)) + 1)) + 1)) (W64 (i2 + 1))
  else
   some (x1, i1, i2)

def qgE (n : Nat) (a : (List qW)) (k : Int) : Option (Int × (List qW)) :=
 (qb0 a n a k 0).bind fun o => match o with
 | (x1, i1, _) =>
  some (i1, x1)

theorem qjH {n : Nat} {w0 w : World} {F : List Ch} {a : (List qW)} {k : Int} {S1 : Nat → Prop} {p1 : Option Addr} {ln1 k1 : Nat} (h : SH w0 w (Ch.own S1 (a : List qW) [.slice p1 ln1 k1] :: F)) {r : (Int × (List qW))} (hF : qgE n a k = some r) : RetN Tryz.prog 110 [.slice p1 ln1 k1, .int .i64 k] w (fun w' => ∃ Z0 : Nat → Prop, SH w0 w' (Ch.own Z0 (r.2 : List qW) [.slice p1 ln1 k1] :: F)) r.1 := by
 refine qcO Tryz.func110 rfl (m := 35) rfl rfl ?_
 rw [qgE] at hF
 obtain rfl := (h.sl 0 rfl).2
 refine zSR (zp1 rfl (zNSSR (zp1 rfl (qb ?_))))
 obtain ⟨o1, hF, hK1⟩ := qd hF
 refine qw (qS [(0, _), (1, _), (5, _)] ⟨rfl, rfl, rfl, trivial⟩ ?_)
 refine qF (fun m e w' => ∃ (x1 : (List qW)) (i1 : Int) (i2 : Int), qb0 a m x1 i1 i2 = some o1 ∧ e = [(0, .slice p1 a.length k1), (1, .int .i64 i1), (5, .int .i64 i2)] ∧ SH w0 w' (Ch.own S1 (x1 : List qW) [.slice p1 a.length k1] :: F)) n ⟨_, _, _, hF, rfl, h⟩ ?_
 rintro m1 e1 w1 ⟨x1, i1, i2, hF, rfl, h⟩
 rcases m1 with _ | m1
 ·rw [qb0] at hF
  cases hF
 rw [qb0] at hF
 refine zSSR (zp4 rfl (qb ?_))
 refine qt rfl hF ?_ ?_ <;> intro hF
 ·refine zKSBSR (zp3 rfl ?_)
  obtain ⟨r1, hr1, hF⟩ := qd hF
  refine qjq r1 h call143 (qet hr1) rfl rfl rfl rfl ?_
  intro w2 h
  obtain ⟨y1, hy1, hF⟩ := qd hF
  have he1 := qf hy1
  obtain ⟨b1, o_1, q1, cs1, hp1, hq1, -, hr2, hc2⟩ := (h.sl 0 rfl).1.at hy1
  obtain rfl := qaS hr2
  refine zx hp1 hq1 ⟨he1.1, qaa he1.2.1 (h.sl 0 rfl).2⟩ rfl (zp1 rfl (qcD qc 0 0 ({ y1 with Name := r1 }) h rfl hy1 hp1 hq1 (qdH y1) hc2 rfl rfl rfl (qdH ({ y1 with Name := r1 })) rfl rfl rfl ?_))
  intro w3 h
  refine zNSR (zp3 rfl (zNSR (zp3 rfl ?_)))
  obtain ⟨y2, hy2, hF⟩ := qd hF
  have he2 := qf hy2
  obtain ⟨b2, o_2, q2, cs2, hp2, hq2, -, hr3, hc3⟩ := (h.sl 0 rfl).1.at hy2
  obtain rfl := qaS hr3
  refine zx hp2 hq2 ⟨he2.1, qaa he2.2.1 (h.sl 0 rfl).2⟩ rfl (zp1 rfl (qcD qc 0 1 ({ y2 with Dir := W64 (i1 + 1) }) h rfl hy2 hp2 hq2 (qdH y2) hc3 rfl rfl rfl (qdH ({ y2 with Dir := W64 (i1 + 1) })) rfl rfl rfl ?_))
  intro w4 h
  refine zNSR (zp3 rfl (zNSR (zp3 rfl ?_)))
  obtain ⟨y3, hy3, hF⟩ := qd hF
  have he3 := qf hy3
  obtain ⟨b3, o_3, q3, cs3, hp3, hq3, -, hr4, hc4⟩ := (h.sl 0 rfl).1.at hy3
  obtain rfl := qaS hr4
  refine zx hp3 hq3 ⟨he3.1, qaa he3.2.1 (h.sl 0 rfl).2⟩ rfl (zp1 rfl (qcD qc 0 2 ({ y3 with Net := W64 ((W64 (i1 + 1)) + 1) }) h rfl hy3 hp3 hq3 (qdH y3) hc4 rfl rfl rfl (qdH ({ y3 with Net := W64 ((W64 (i1 + 1)) + 1) })) rfl rfl rfl ?_))
  intro w5 h
  refine qb (qB (zp3 rfl (zNER (zp3 rfl (qb ?_)))))
  exact qz m1 [(0, _), (1, _), (5, _)] (Nat.lt_succ_self m1) ⟨rfl, rfl, rfl, trivial⟩ ⟨_, _, _, hF, rfl, h⟩
 refine qG rfl ?_
 obtain rfl := qh hF; replace hF := hK1
 refine zSR (zp2 rfl (qb ?_))
 obtain rfl := qh hF
 exact qhv qc ⟨_, h⟩ ⟨rfl, trivial⟩

def qf5 (n : Nat) (a : qg) (k : Int) : Option (Int × (List ql) × (List ByteArray) × (List qW)) :=
 (qeI n a.Instances k).bind fun o => match o with
  | (r1, x1) =>
   (qfx n a.Nets r1).bind fun o => match o with
    | (r2, x2) =>
     (qgE n a.Ports r2).bind fun o => match o with
      | (r3, x3) =>
       some (r3, x1, x2, x3)

theorem qjy {n : Nat} {w0 w : World} {F : List Ch} {a : qg} {k : Int} {S1 : Nat → Prop} {p1 : Option Addr} {ln1 k1 : Nat} {S2 : Nat → Prop} {p2 : Option Addr} {ln2 k2 : Nat} {S3 : Nat → Prop} {p3 : Option Addr} {ln3 k3 : Nat} (h : SH w0 w (Ch.own S3 (a.Ports : List qW) [.slice p3 ln3 k3] :: Ch.own S2 (a.Nets : List ByteArray) [.slice p2 ln2 k2] :: Ch.own S1 (a.Instances : List ql) [.slice p1 ln1 k1] :: F)) {r : (Int × (List ql) × (List ByteArray) × (List qW))} (hF : qf5 n a k = some r) : RetN Tryz.prog 55 [.agg #[.slice p1 ln1 k1, .slice p2 ln2 k2, .slice p3 ln3 k3], .int .i64 k] w (fun w' => ∃ Z0 Z1 Z2 : Nat → Prop, SH w0 w' (Ch.own Z2 (r.2.2.2 : List qW) [.slice p3 ln3 k3] :: Ch.own Z1 (r.2.2.1 : List ByteArray) [.slice p2 ln2 k2] :: Ch.own Z0 (r.2.1 : List ql) [.slice p1 ln1 k1] :: F)) r.1 := by
 refine qcO Tryz.func55 rfl (m := 18) rfl rfl ?_
 rw [qf5] at hF
 obtain rfl := (h.sl 0 rfl).2
 obtain rfl := (h.sl 1 rfl).2
 obtain rfl := (h.sl 2 rfl).2
 refine zSR (qO h rfl rfl ?_)
 intro w1 bb1 h
 refine zp1 rfl (zNSR (zp1 rfl (zl 0 0 h rfl (zp1 rfl ?_))))
 replace h := h.pickT 4 [3, 0, 1, 2] rfl
 obtain ⟨o1, hr1, hF⟩ := qd hF
 obtain ⟨r1, x1⟩ := o1
 refine qcW r1 call108 (qiA h hr1) rfl rfl rfl rfl ?_
 rintro w2 ⟨S4, h⟩
 refine zp1 rfl (zNSR (zp1 rfl (zl 1 1 h rfl (zp1 rfl ?_))))
 replace h := h.pickT 4 [3, 0, 1, 2] rfl
 obtain ⟨o2, hr2, hF⟩ := qd hF
 obtain ⟨r2, x2⟩ := o2
 refine qcW r2 call109 (qjd h hr2) rfl rfl rfl rfl ?_
 rintro w3 ⟨S5, h⟩
 refine zp1 rfl (zNSR (zp1 rfl (zl 2 2 h rfl (zp1 rfl ?_))))
 replace h := h.pickT 4 [3, 0, 1, 2] rfl
 obtain ⟨o3, hr3, hF⟩ := qd hF
 obtain ⟨r3, x3⟩ := o3
 refine qcW r3 call110 (qjH h hr3) rfl rfl rfl rfl ?_
 rintro w4 ⟨S6, h⟩
 refine zp1 rfl (zNSR (zp2 rfl (qb ?_)))
 obtain rfl := qh hF
 replace h := h.pickT 4 [0, 1, 2] rfl
 exact qhv qc ⟨_, _, _, h⟩ ⟨rfl, trivial⟩

def qbZ (a : (List qQ)) : Nat → (List qQ) → Int → Int → Option ((List qQ) × Int × Int)
 | 0, _, _, _ => none
 | n + 1, x1, i1, i2 =>
  bif decide (i2 < (a.length : Int)) then
   (idx x1 i2).bind fun y1 =>
   (qaF n y1.Parent i1).bind fun o => match o with
    | (r1, x2) =>
     (qaF n y1.Res r1).bind fun o => match o with
      | (r2, x3) =>
       (qaF n y1.Cap r2).bind fun o => match o with
        | (r3, x4) =>
         (qaF n y1.Sink r3).bind fun o => match o with
          | (r4, x5) =>
           qbZ a n (setS x1 i2 (⟨x2, x3, x4, x5⟩ : qQ)) r4 (W64 (i2 + 1))
  else
   some (x1, i1, i2)

def qgD (n : Nat) (a : (List qQ)) (k : Int) : Option (Int × (List qQ)) :=
 (qbZ a n a k 0).bind fun o => match o with
 | (x1, i1, _) =>
  some (i1, x1)

theorem qjG {n : Nat} {w0 w : World} {F : List Ch} {a : (List qQ)} {k : Int} {S1 : Nat → Prop} {p1 : Option Addr} {ln1 k1 : Nat} (h : SH w0 w (Ch.own S1 (a : List qQ) [.slice p1 ln1 k1] :: F)) {r : (Int × (List qQ))} (hF : qgD n a k = some r) : RetN Tryz.prog 56 [.slice p1 ln1 k1, .int .i64 k] w (fun w' => ∃ Z0 : Nat → Prop, SH w0 w' (Ch.own Z0 (r.2 : List qQ) [.slice p1 ln1 k1] :: F)) r.1 := by
 refine qcO Tryz.func56 rfl (m := 41) rfl rfl ?_
 rw [qgD] at hF
 obtain rfl := (h.sl 0 rfl).2
 refine zSR (zp1 rfl (zNSSR (zp1 rfl (qb ?_))))
 obtain ⟨o1, hF, hK1⟩ := qd hF
 refine qw (qS [(0, _), (1, _), (5, _)] ⟨rfl, rfl, rfl, trivial⟩ ?_)
 refine qF (fun m e w' => ∃ (S2 : Nat → Prop) (x1 : (List qQ)) (i1 : Int) (i2 : Int), qbZ a m x1 i1 i2 = some o1 ∧ e = [(0, .slice p1 a.length k1), (1, .int .i64 i1), (5, .int .i64 i2)] ∧ SH w0 w' (Ch.own S2 (x1 : List qQ) [.slice p1 a.length k1] :: F)) n ⟨_, _, _, _, hF, rfl, h⟩ ?_
 rintro m1 e1 w1 ⟨S2, x1, i1, i2, hF, rfl, h⟩
 rcases m1 with _ | m1
 ·rw [qbZ] at hF
  cases hF
 rw [qbZ] at hF
 refine zSSR (zp4 rfl (qb ?_))
 refine qt rfl hF ?_ ?_ <;> intro hF
 ·refine zKSBSR (zp2 rfl ?_)
  obtain ⟨y1, hy1, hF⟩ := qd hF
  have he1 := qf hy1
  obtain ⟨S3, S4, cs1, h⟩ := h.take hy1
  obtain ⟨p2, k2, p3, k3, p4, k4, p5, k5, rfl, -, -, -, -⟩ := qbl (h.own 0 rfl)
  obtain ⟨S5, S6, S7, S8, h⟩ := qnr h
  obtain ⟨b1, hp1, -, -, hl2⟩ := h.holeAt 4 rfl
  obtain ⟨q1, hq1⟩ : ∃ q, q = 0 + (i2).toNat * GoT.k qQ := ⟨_, rfl⟩
  refine zx hp1 hq1 ⟨he1.1, qaa he1.2.1 hl2⟩ rfl (zp1 rfl (zc 0 (qcB h 4 rfl hp1 hq1) rfl (zp1 rfl ?_)))
  replace h := h.pickT 5 [3, 0, 1, 2, 4] rfl
  obtain ⟨o2, hr1, hF⟩ := qd hF
  obtain ⟨r1, x2⟩ := o2
  refine qcW r1 call24 (qa1 h hr1) rfl rfl rfl rfl ?_
  rintro w2 ⟨S9, h⟩
  refine zp1 rfl (zNSR (zp2 rfl ?_))
  obtain ⟨b2, hp2, -, -, hl4⟩ := h.holeAt 4 rfl
  obtain ⟨q2, hq2⟩ : ∃ q, q = 0 + (i2).toNat * GoT.k qQ := ⟨_, rfl⟩
  refine zx hp2 hq2 ⟨he1.1, qaa he1.2.1 hl4⟩ rfl (zp1 rfl (zc 1 (qcB h 4 rfl hp2 hq2) rfl (zp1 rfl ?_)))
  replace h := h.pickT 5 [3, 0, 1, 2, 4] rfl
  obtain ⟨o3, hr2, hF⟩ := qd hF
  obtain ⟨r2, x3⟩ := o3
  refine qcW r2 call24 (qa1 h hr2) rfl rfl rfl rfl ?_
  rintro w3 ⟨S10, h⟩
  refine zp1 rfl (zNSR (zp2 rfl ?_))
  obtain ⟨b3, hp3, -, -, hl6⟩ := h.holeAt 4 rfl
  obtain ⟨q3, hq3⟩ : ∃ q, q = 0 + (i2).toNat * GoT.k qQ := ⟨_, rfl⟩
  refine zx hp3 hq3 ⟨he1.1, qaa he1.2.1 hl6⟩ rfl (zp1 rfl (zc 2 (qcB h 4 rfl hp3 hq3) rfl (zp1 rfl ?_)))
  replace h := h.pickT 5 [3, 0, 1, 2, 4] rfl
  obtain ⟨o4, hr3, hF⟩ := qd hF
  obtain ⟨r3, x4⟩ := o4
  refine qcW r3 call24 (qa1 h hr3) rfl rfl rfl rfl ?_
  rintro w4 ⟨S11, h⟩
  refine zp1 rfl (qb (qB (zp2 rfl ?_)))
  obtain ⟨b4, hp4, -, -, hl8⟩ := h.holeAt 4 rfl
  obtain ⟨q4, hq4⟩ : ∃ q, q = 0 + (i2).toNat * GoT.k qQ := ⟨_, rfl⟩
  refine zx hp4 hq4 ⟨he1.1, qaa he1.2.1 hl8⟩ rfl (zp1 rfl (zc 3 (qcB h 4 rfl hp4 hq4) rfl (zp1 rfl ?_)))
  replace h := h.pickT 5 [3, 0, 1, 2, 4] rfl
  obtain ⟨o5, hr4, hF⟩ := qd hF
  obtain ⟨r4, x5⟩ := o5
  refine qcW r4 call24 (qa1 h hr4) rfl rfl rfl rfl ?_
  rintro w5 ⟨S12, h⟩
  refine zp1 rfl (zNER (zp3 rfl (qb ?_)))
  obtain ⟨S13, h⟩ := h.gatherT 5 [4] (qnC (⟨x2, x3, x4, x5⟩ : qQ) h (qad 3 h rfl) (qad 2 h rfl) (qad 1 h rfl) (qad 0 h rfl) (by rfl) (by rfl) (by rfl)) rfl
  replace h := h.put
  obtain ⟨S14, h⟩ := qkm (S := _) h
  exact qz m1 [(0, _), (1, _), (5, _)] (Nat.lt_succ_self m1) ⟨rfl, rfl, rfl, trivial⟩ ⟨_, _, _, _, hF, rfl, h⟩
 refine qG rfl ?_
 obtain rfl := qh hF; replace hF := hK1
 refine zSR (zp2 rfl (qb ?_))
 obtain rfl := qh hF
 exact qhv qc ⟨_, h⟩ ⟨rfl, trivial⟩

def qfj (n : Nat) (a : qC) (k : Int) : Option (Int × (List qv) × (List ql) × (List ByteArray) × (List qW) × (List qQ)) :=
 (qfD n (⟨a.Library.Cells⟩ : qn) k).bind fun o => match o with
  | (r1, x1) =>
   (qf5 n (⟨a.Design.Instances, a.Design.Nets, a.Design.Ports⟩ : qg) r1).bind fun o => match o with
    | (r2, x2, x3, x4) =>
     (qgD n a.Wires r2).bind fun o => match o with
      | (r3, x5) =>
       some (r3, x1, x2, x3, x4, x5)

theorem qjV {n : Nat} {w0 w : World} {F : List Ch} {a : qC} {k : Int} {S1 : Nat → Prop} {p1 : Option Addr} {ln1 k1 : Nat} {S2 : Nat → Prop} {p2 : Option Addr} {ln2 k2 : Nat} {S3 : Nat → Prop} {p3 : Option Addr} {ln3 k3 : Nat} {S4 : Nat → Prop} {p4 : Option Addr} {ln4 k4 : Nat} {S5 : Nat → Prop} {p5 : Option Addr} {ln5 k5 : Nat} (h : SH w0 w (Ch.own S5 (a.Wires : List qQ) [.slice p5 ln5 k5] :: Ch.own S4 (a.Design.Ports : List qW) [.slice p4 ln4 k4] :: Ch.own S3 (a.Design.Nets : List ByteArray) [.slice p3 ln3 k3] :: Ch.own S2 (a.Design.Instances : List ql) [.slice p2 ln2 k2] :: Ch.own S1 (a.Library.Cells : List qv) [.slice p1 ln1 k1] :: F)) {r : (Int × (List qv) × (List ql) × (List ByteArray) × (List qW) × (List qQ))} (hF : qfj n a k = some r) : RetN Tryz.prog 23 [.agg #[.slice p1 ln1 k1, .slice p2 ln2 k2, .slice p3 ln3 k3, .slice p4 ln4 k4, .slice p5 ln5 k5], .int .i64 k] w (fun w' => ∃ Z0 Z1 Z2 Z3 Z4 : Nat → Prop, SH w0 w' (Ch.own Z4 (r.2.2.2.2.2 : List qQ) [.slice p5 ln5 k5] :: Ch.own Z3 (r.2.2.2.2.1 : List qW) [.slice p4 ln4 k4] :: Ch.own Z2 (r.2.2.2.1 : List ByteArray) [.slice p3 ln3 k3] :: Ch.own Z1 (r.2.2.1 : List ql) [.slice p2 ln2 k2] :: Ch.own Z0 (r.2.1 : List qv) [.slice p1 ln1 k1] :: F)) r.1 := by
 refine qcO Tryz.func23 rfl (m := 18) rfl rfl ?_
 rw [qfj] at hF
 obtain rfl := (h.sl 0 rfl).2
 obtain rfl := (h.sl 1 rfl).2
 obtain rfl := (h.sl 2 rfl).2
 obtain rfl := (h.sl 3 rfl).2
 obtain rfl := (h.sl 4 rfl).2
 refine zSR (qO h rfl rfl ?_)
 intro w1 bb1 h
 refine zp1 rfl (zNSR (zp1 rfl (zl 0 0 h rfl (zp1 rfl ?_))))
 replace h := h.pickT 6 [5, 0, 1, 2, 3, 4] rfl
 obtain ⟨o1, hr1, hF⟩ := qd hF
 obtain ⟨r1, x1⟩ := o1
 refine qcW r1 call54 (qi0 h hr1) rfl rfl rfl rfl ?_
 rintro w2 ⟨S6, h⟩
 refine zp1 rfl (zNSR (zp1 rfl (zl 1 1 h rfl (zp1 rfl ?_))))
 replace h := h.pickT 6 [3, 4, 5, 0, 1, 2] rfl
 obtain ⟨o2, hr2, hF⟩ := qd hF
 obtain ⟨r2, x2, x3, x4⟩ := o2
 refine qcW r2 call55 (qjy h hr2) rfl rfl rfl rfl ?_
 rintro w3 ⟨S7, S8, S9, h⟩
 refine zp1 rfl (zNSR (zp1 rfl (zl 4 4 h rfl (zp1 rfl ?_))))
 replace h := h.pickT 6 [5, 0, 1, 2, 3, 4] rfl
 obtain ⟨o3, hr3, hF⟩ := qd hF
 obtain ⟨r3, x5⟩ := o3
 refine qcW r3 call56 (qjG h hr3) rfl rfl rfl rfl ?_
 rintro w4 ⟨S10, h⟩
 refine zp1 rfl (zNSR (zp2 rfl (qb ?_)))
 obtain rfl := qh hF
 replace h := h.pickT 6 [0, 1, 2, 3, 4] rfl
 exact qhv qc ⟨_, _, _, _, _, h⟩ ⟨rfl, trivial⟩

def qbk (a : (List Int)) : Nat → Int → Int → Option (Flow Int (Int × Int))
 | 0, _, _ => none
 | n + 1, i1, i2 =>
  bif decide (i2 < (a.length : Int)) then
   (idx a i2).bind fun y1 =>
   bif (y1 != i1) then
    some (.ret (-1))
   else
    qbk a n (W64 (i1 + 1)) (W64 (i2 + 1))
  else
   some (.nxt (i1, i2))

def qd0 (n : Nat) (a : (List Int)) (k : Int) : Option Int :=
 (qbk a n k 0).bind fun o => match o with
 | .ret r => some r
 | .nxt (i1, _) =>
  some i1

theorem qhK {n : Nat} {w : World} {a : (List Int)} {k : Int} {cs1 : List Value} (ha1 : GoT.R w (old w) a cs1) {r : Int} (hF : qd0 n a k = some r) : RetV Tryz.prog 25 [GoT.v (List Int) cs1, .int .i64 k] w r := by
 obtain ⟨p1, k1, rfl, s1⟩ := ha1
 refine qe Tryz.func25 rfl (m := 21) rfl rfl (fun h => ?_)
 rw [qd0] at hF
 refine zSR (zp1 rfl (zNSSR (zp1 rfl (qb ?_))))
 obtain ⟨o1, hF, hK1⟩ := qd hF
 refine qw (qS [(0, _), (1, _), (5, _)] ⟨rfl, rfl, rfl, trivial⟩ ?_)
 refine qF (fun m e w' => ∃ (i1 : Int) (i2 : Int), qbk a m i1 i2 = some o1 ∧ e = [(0, .slice p1 a.length k1), (1, .int .i64 i1), (5, .int .i64 i2)] ∧ SH w w' []) n ⟨_, _, hF, rfl, h⟩ ?_
 rintro m1 e1 w1 ⟨i1, i2, hF, rfl, h⟩
 rcases m1 with _ | m1
 ·rw [qbk] at hF
  cases hF
 rw [qbk] at hF
 refine zSSR (zp4 rfl (qb ?_))
 refine qt rfl hF ?_ ?_ <;> intro hF
 ·refine zKSB (zSSR (zp2 rfl ?_))
  obtain ⟨y1, hy1, hF⟩ := qd hF
  have he1 := qf hy1
  obtain ⟨b1, o_1, q1, cs2, hp1, hq1, -, hr1, hc2⟩ := s1.at hy1
  obtain rfl := hr1
  refine zxe hp1 hq1 he1 rfl (zc 0 (hc2.below h.below) rfl (zp2 rfl (qb ?_)))
  refine qt rfl hF ?_ ?_ <;> intro hF
  ·refine zSR (zp1 rfl (qb ?_))
   obtain rfl := qh hF; replace hF := hK1
   exact qaP qc h hF ⟨rfl, trivial⟩
  refine qel (qB (zp3 rfl (zNER (zp3 rfl (qb ?_)))))
  exact qz m1 [(0, _), (1, _), (5, _)] (Nat.lt_succ_self m1) ⟨rfl, rfl, rfl, trivial⟩ ⟨_, _, hF, rfl, h⟩
 refine qG rfl ?_
 obtain rfl := qh hF; replace hF := hK1
 exact zSR (zp2 rfl (qb (qaP qc h hF ⟨rfl, trivial⟩)))

def qcu (n : Nat) (a_0 : qC) (a_1 : Int) : Option Bool :=
 (qgI n a_0 1048576).bind fun r1 =>
 bif decide (r1 < 0) then
  some true
 else
  (qea n a_0).bind fun r2 =>
  (qdA n r2 a_1).bind fun o => match o with
   | (r4, r5) =>
    (qea n a_0).bind fun r6 =>
    (qcJ n r6 a_1).bind fun o => match o with
     | (r8, r9) =>
      (
       (qaL n r8 r4).bind fun r22 =>
       bif (!r22) then
        some true
       else
        some (r9 != r5)).bind fun b1 =>
      bif b1 then
       some false
      else
       (qea n a_0).bind fun r10 =>
       (qgO n r6 r10).bind fun r11 =>
       bif (!r11) then
        some false
       else
        (qfj n (⟨(⟨r6.Library.Cells⟩ : qn), (⟨r6.Design.Instances, r6.Design.Nets, r6.Design.Ports⟩ : qg), r6.Wires⟩ : qC) 1).bind fun o => match o with
         | (r12, _, _, _, _, _) =>
          (
           bif decide (r12 < 0) then
            some true
           else
            (qaL n r8 r4).bind fun r21 =>
            bif (!r21) then
             some true
            else
             some (r9 != r5)).bind fun b2 =>
          bif b2 then
           some false
          else
           (qaF n r8 1).bind fun o => match o with
            | (r13, x6) =>
             (qd0 n x6 1).bind fun r14 =>
             bif decide (r14 < 0) then
              some false
             else
              bif (r14 != r13) then
               some false
              else
               (qea n (⟨(⟨a_0.Library.Cells⟩ : qn), (⟨a_0.Design.Instances, a_0.Design.Nets, a_0.Design.Ports⟩ : qg), a_0.Wires⟩ : qC)).bind fun r15 =>
               (qcJ n r15 a_1).bind fun o => match o with
                | (r17, r18) =>
                 (
                  (qaL n r17 r4).bind fun r20 =>
                  bif (!r20) then
                   some true
                  else
                   some (r18 != r5)).bind fun b3 =>
                 bif b3 then
                  some false
                 else
                  (qd0 n x6 1).bind fun r19 =>
                  bif decide (r19 < 0) then
                   some false
                  else
                   bif (r19 != r13) then
                    some false
                   else
                    some true

theorem qhr {n : Nat} {w : World} {a_0 : qC} {a_1 : Int} {cs1 : List Value} (ha1 : GoT.R w (old w) a_0 cs1) {r : Bool} (hF : qcu n a_0 a_1 = some r) : RetV Tryz.prog 6 [GoT.v qC cs1, .int .i64 a_1] w r := by
 obtain ⟨p1, k1, p2, k2, p3, k3, p4, k4, p5, k5, rfl, s1, s2, s3, s4, s5⟩ := qav ha1
 refine qe Tryz.func6 rfl (m := 101) rfl rfl (fun h => ?_)
 rw [qcu] at hF
 refine zSR (qO h rfl rfl ?_)
 intro w1 bb1 h
 refine zp1 rfl (zNSR (zp1 rfl (zNSR (zl 0 0 h rfl (zp1 rfl ?_)))))
 obtain ⟨r1, hr1, hF⟩ := qd hF
 refine qY r1 h call8 (qk8 (h.old ha1) hr1) rfl rfl rfl rfl ?_
 intro w2 h
 refine zp1 rfl (zNSSR (zp2 rfl (qb ?_)))
 refine qt rfl hF ?_ ?_ <;> intro hF
 ·exact zSR (zp1 rfl (qb (qx qc h hF ⟨rfl, trivial⟩)))
 refine zKSR (zl 0 0 h rfl ?_)
 obtain ⟨r2, hr2, hF⟩ := qd hF
 refine qfJ r2 h call11 (qf4 (h.old ha1) hr2) rfl rfl rfl rfl ?_
 intro w3 S1 cs2 h
 obtain ⟨p6, k6, p7, k7, p8, k8, p9, k9, p10, k10, rfl, -, -, -, -, -⟩ := qav (h.own 0 rfl)
 refine zp1 rfl ?_
 obtain ⟨r3, hr3, hF⟩ := qd hF
 obtain ⟨r4, r5⟩ := r3
 refine qg1 (r4, r5) h call20 (qiE (h.own 0 rfl) hr3) rfl rfl rfl rfl ?_
 intro w4 S2 us1 hv1 hr4
 obtain ⟨S3, S4, p11, k11, us2, rfl, hv2, hr5⟩ := hv1.consL hr4
 obtain ⟨rfl, h⟩ := hv2.lastI hr5
 refine zp5 rfl (zNSR (zl 2 0 h rfl ?_))
 obtain ⟨r6, hr7, hF⟩ := qd hF
 refine qfJ r6 h call11 (qf4 (h.old ha1) hr7) rfl rfl rfl rfl ?_
 intro w5 S6 cs3 h
 obtain ⟨p12, k12, p13, k13, p14, k14, p15, k15, p16, k16, rfl, -, -, -, -, -⟩ := qav (h.own 0 rfl)
 refine qX qc h rfl rfl rfl ?_
 intro w6 bb2 h
 refine zs 0 h rfl ?_
 intro w7 h
 refine zNSR (zl 0 0 h rfl (zp1 rfl ?_))
 obtain ⟨r7, hr8, hF⟩ := qd hF
 obtain ⟨r8, r9⟩ := r7
 refine qg1 (r8, r9) h call21 (qgL (h.own 1 rfl) hr8) rfl rfl rfl rfl ?_
 intro w8 S7 us3 hv4 hr9
 obtain ⟨S8, S9, p17, k17, us4, rfl, hv5, hr10⟩ := hv4.consL hr9
 obtain ⟨rfl, h⟩ := hv5.lastI hr10
 refine zp5 rfl (zNSS ?_)
 obtain ⟨KF3, hKF3, o5, hF, hK3⟩ := bindE hF
 refine qen (fun e w' => ∃ (b1 : Bool), KF3 b1 = some r ∧ e = [(1, .int .i64 a_1), (2, .pointer (some ⟨bb1, 0, none⟩)), (6, .slice p11 r4.length k11), (7, .int .i64 r5), (8, .pointer (some ⟨bb2, 0, none⟩)), (9, .slice p17 r8.length k17), (10, .int .i64 r9), (44, .bool b1)] ∧ SH w w' [Ch.own S8 (r8 : List Int) [.slice p17 r8.length k17], Ch.box bb2 [.slice p12 r6.Library.Cells.length k12, .slice p13 r6.Design.Instances.length k13, .slice p14 r6.Design.Nets.length k14, .slice p15 r6.Design.Ports.length k15, .slice p16 r6.Wires.length k16] 48, Ch.own S6 (r6 : qC) [.slice p12 r6.Library.Cells.length k12, .slice p13 r6.Design.Instances.length k13, .slice p14 r6.Design.Nets.length k14, .slice p15 r6.Design.Ports.length k15, .slice p16 r6.Wires.length k16], Ch.own S3 (r4 : List Int) [.slice p11 r4.length k11], Ch.box bb1 [.slice p1 a_0.Library.Cells.length k1, .slice p2 a_0.Design.Instances.length k2, .slice p3 a_0.Design.Nets.length k3, .slice p4 a_0.Design.Ports.length k4, .slice p5 a_0.Wires.length k5] 32]) ?_ ?_
 ·refine qB (zp2 rfl ?_)
  obtain ⟨r22, hr25, hF⟩ := qd hF
  refine qq r22 h call22 (qa4 (h.own 0 rfl) (h.own 3 rfl) hr25) rfl rfl rfl rfl ?_
  intro w22 h
  refine zp2 rfl ?_
  by_cases hc13 : (!r22) = true
  ·replace hF := bifT hc13 hF
   refine qE hc13 (t := 40) rfl (zn3 rfl (zp1 rfl (qb ?_)))
   replace h := h.pick [0, 1, 2, 3, 5] rfl
   obtain rfl := qh hF
   exact qy [(1, _), (2, _), (6, _), (7, _), (8, _), (9, _), (10, _), (44, _)] ⟨rfl, rfl, rfl, rfl, rfl, rfl, rfl, rfl, trivial⟩ ⟨_, hK3, rfl, h⟩
  replace hc13 := zb hc13
  replace hF := bifF hc13 hF
  refine qD hc13 (t := 40) rfl (qa rfl (zp1 rfl (qa rfl (zp1 rfl (qa rfl (zp2 rfl (qb ?_)))))))
  replace h := h.pick [0, 1, 2, 3, 5] rfl
  obtain rfl := qh hF
  exact qy [(1, _), (2, _), (6, _), (7, _), (8, _), (9, _), (10, _), (44, _)] ⟨rfl, rfl, rfl, rfl, rfl, rfl, rfl, rfl, trivial⟩ ⟨_, hK3, rfl, h⟩
 rintro e3 w23 ⟨b1, hF, rfl, h⟩
 subst hKF3
 refine qt rfl hF ?_ ?_ <;> intro hF
 ·exact zSR (zp1 rfl (qb (qx qc h hF ⟨rfl, trivial⟩)))
 refine zKSS ?_
 refine qfQ [] (fun w' => SH w w' [Ch.box bb2 [.slice p12 r6.Library.Cells.length k12, .slice p13 r6.Design.Instances.length k13, .slice p14 r6.Design.Nets.length k14, .slice p15 r6.Design.Ports.length k15, .slice p16 r6.Wires.length k16] 48, Ch.box bb1 [.slice p1 a_0.Library.Cells.length k1, .slice p2 a_0.Design.Instances.length k2, .slice p3 a_0.Design.Nets.length k3, .slice p4 a_0.Design.Ports.length k4, .slice p5 a_0.Wires.length k5] 32]) rfl 5 rfl #[ff, ff, ff, ff, ff] (by kernel_rfl) (fun w9 hb => ?_)
 replace h := h.ext hb
 clear hb
 refine qk 0 rfl #[tt, ff, ff, ff, ff] (by kernel_rfl) (by kernel_rfl) (fun w' hw => qbE qc (hw.box 0 rfl) (j := 0) rfl rfl rfl) (h.pick [1, 4] rfl) rfl ?_
 refine qk 1 rfl #[tt, tt, ff, ff, ff] (by kernel_rfl) (by kernel_rfl) (fun w' hw => qbE qc (hw.box 1 rfl) (j := 0) rfl rfl rfl) (h.pick [1, 4] rfl) rfl ?_
 refine qay 2 rfl #[tt, tt, tt, ff, ff] (by kernel_rfl) (by kernel_rfl) ?_
 obtain ⟨r10, hr12, hF⟩ := qd hF
 refine qfJ r10 h call11 (qf4 (h.old ha1) hr12) rfl rfl rfl rfl ?_
 intro w10 S11 cs4 h
 obtain ⟨p18, k18, p19, k19, p20, k20, p21, k21, p22, k22, rfl, -, -, -, -, -⟩ := qav (h.own 0 rfl)
 refine qaq (fun _ => (h.pick [2, 5] rfl)) ?_
 refine qay 3 rfl #[tt, tt, tt, tt, ff] (by kernel_rfl) (by kernel_rfl) ?_
 obtain ⟨r11, hr13, hF⟩ := qd hF
 refine qq r11 h call14 (qkX (h.own 3 rfl) (h.own 0 rfl) hr13) rfl rfl rfl rfl ?_
 intro w11 h
 refine qaq (fun _ => (h.pick [2, 5] rfl)) ?_
 refine qk 4 rfl #[tt, tt, tt, tt, tt] (by kernel_rfl) (by kernel_rfl) (fun w' hw => v_p qc rfl w') (h.pick [2, 5] rfl) rfl ?_
 refine qdW (by kernel_rfl) ?_
 refine qt rfl hF ?_ ?_ <;> intro hF
 ·exact zSR (zp1 rfl (qb (qx qc h hF ⟨rfl, trivial⟩)))
 refine zKSR (zp1 rfl (zNSR (zl 2 0 h rfl (zp1 rfl ?_))))
 replace h := h.pick [3, 0, 1, 2, 4, 5] rfl
 obtain ⟨S12, S13, S14, h⟩ := ql6 h
 replace h := h.pick [2, 0, 1, 3, 4, 5, 6, 7] rfl
 obtain ⟨S15, h⟩ := qlC h
 replace h := h.pick [2, 0, 1, 3, 4, 5, 6, 7] rfl
 obtain ⟨S16, S17, S18, h⟩ := qlU h
 replace h := h.pick [4, 0, 1, 2, 3, 5, 6, 7, 8, 9] rfl
 obtain ⟨o1, hr14, hF⟩ := qd hF
 obtain ⟨r12, x1, x2, x3, x4, x5⟩ := o1
 refine qcW r12 call23 (qjV h hr14) rfl rfl rfl rfl ?_
 rintro w12 ⟨S19, S20, S21, S22, S23, h⟩
 refine zp1 rfl (zNSS ?_)
 obtain ⟨KF2, hKF2, o4, hF, hK2⟩ := bindE hF
 refine qen (fun e w' => ∃ (b2 : Bool), KF2 b2 = some r ∧ e = [(1, .int .i64 a_1), (2, .pointer (some ⟨bb1, 0, none⟩)), (6, .slice p11 r4.length k11), (7, .int .i64 r5), (9, .slice p17 r8.length k17), (65, .bool b2)] ∧ SH w w' [Ch.own S8 (r8 : List Int) [.slice p17 r8.length k17], Ch.own S3 (r4 : List Int) [.slice p11 r4.length k11], Ch.box bb1 [.slice p1 a_0.Library.Cells.length k1, .slice p2 a_0.Design.Instances.length k2, .slice p3 a_0.Design.Nets.length k3, .slice p4 a_0.Design.Ports.length k4, .slice p5 a_0.Wires.length k5] 32]) ?_ ?_
 ·refine qB (zp3 rfl ?_)
  by_cases hc11 : (decide (r12 < 0)) = true
  ·replace hF := bifT hc11 hF
   refine qE hc11 (t := 55) rfl (zn4 rfl (zp2 rfl (zn3 rfl (zp1 rfl (qb ?_)))))
   replace h := h.pick [6, 8, 9] rfl
   obtain rfl := qh hF
   exact qy [(1, _), (2, _), (6, _), (7, _), (9, _), (65, _)] ⟨rfl, rfl, rfl, rfl, rfl, rfl, trivial⟩ ⟨_, hK2, rfl, h⟩
  replace hc11 := zb hc11
  replace hF := bifF hc11 hF
  refine qD hc11 (t := 55) rfl (qa rfl (zp1 rfl (qa rfl (zp1 rfl (qa rfl ?_)))))
  obtain ⟨r21, hr24, hF⟩ := qd hF
  refine qq r21 h call22 (qa4 (h.own 6 rfl) (h.own 8 rfl) hr24) rfl rfl rfl rfl ?_
  intro w20 h
  refine qa rfl (zp3 rfl ?_)
  by_cases hc12 : (!r21) = true
  ·replace hF := bifT hc12 hF
   refine qE hc12 (t := 61) rfl (zn3 rfl (zp1 rfl (qb ?_)))
   replace h := h.pick [6, 8, 9] rfl
   obtain rfl := qh hF
   exact qy [(1, _), (2, _), (6, _), (7, _), (9, _), (65, _)] ⟨rfl, rfl, rfl, rfl, rfl, rfl, trivial⟩ ⟨_, hK2, rfl, h⟩
  replace hc12 := zb hc12
  replace hF := bifF hc12 hF
  refine qD hc12 (t := 61) rfl (qa rfl (zp1 rfl (qa rfl (zp1 rfl (qa rfl (zp2 rfl (qb ?_)))))))
  replace h := h.pick [6, 8, 9] rfl
  obtain rfl := qh hF
  exact qy [(1, _), (2, _), (6, _), (7, _), (9, _), (65, _)] ⟨rfl, rfl, rfl, rfl, rfl, rfl, trivial⟩ ⟨_, hK2, rfl, h⟩
 rintro e2 w21 ⟨b2, hF, rfl, h⟩
 subst hKF2
 refine qt rfl hF ?_ ?_ <;> intro hF
 ·exact zSR (zp1 rfl (qb (qx qc h hF ⟨rfl, trivial⟩)))
 refine zKSR (zp1 rfl (zNSR (zp2 rfl ?_)))
 obtain ⟨o2, hr15, hF⟩ := qd hF
 obtain ⟨r13, x6⟩ := o2
 refine qcW r13 call24 (qa1 h hr15) rfl rfl rfl rfl ?_
 rintro w13 ⟨S24, h⟩
 refine zp1 rfl (zNSR (zp1 rfl (zNSR (zp2 rfl ?_))))
 obtain ⟨r14, hr16, hF⟩ := qd hF
 refine qY r14 h call25 (qhK (h.own 0 rfl) hr16) rfl rfl rfl rfl ?_
 intro w14 h
 refine zp1 rfl (zNSSR (zp2 rfl (qb ?_)))
 refine qt rfl hF ?_ ?_ <;> intro hF
 ·exact zSR (zp1 rfl (qb (qx qc h hF ⟨rfl, trivial⟩)))
 refine zKSSR (zp3 rfl (qb ?_))
 refine qt rfl hF ?_ ?_ <;> intro hF
 ·exact zSR (zp1 rfl (qb (qx qc h hF ⟨rfl, trivial⟩)))
 refine zKSR (zl 2 0 h rfl ?_)
 obtain ⟨r15, hr17, hF⟩ := qd hF
 refine qfJ r15 h call11 (qf4 (qjE (⟨(⟨a_0.Library.Cells⟩ : qn), (⟨a_0.Design.Instances, a_0.Design.Nets, a_0.Design.Ports⟩ : qg), a_0.Wires⟩ : qC) (h.oldS s1) (h.oldS s2) (h.oldS s3) (h.oldS s4) (h.oldS s5)) hr17) rfl rfl rfl rfl ?_
 intro w15 S25 cs5 h
 obtain ⟨p23, k23, p24, k24, p25, k25, p26, k26, p27, k27, rfl, -, -, -, -, -⟩ := qav (h.own 0 rfl)
 refine zp1 rfl ?_
 obtain ⟨r16, hr18, hF⟩ := qd hF
 obtain ⟨r17, r18⟩ := r16
 refine qg1 (r17, r18) h call21 (qgL (h.own 0 rfl) hr18) rfl rfl rfl rfl ?_
 intro w16 S26 us5 hv7 hr19
 obtain ⟨S27, S28, p28, k28, us6, rfl, hv8, hr20⟩ := hv7.consL hr19
 obtain ⟨rfl, h⟩ := hv8.lastI hr20
 refine zp5 rfl (zNSS ?_)
 obtain ⟨KF1, hKF1, o3, hF, hK1⟩ := bindE hF
 refine qen (fun e w' => ∃ (b3 : Bool), KF1 b3 = some r ∧ e = [(9, .slice p17 r8.length k17), (12, .int .i64 r13), (92, .bool b3)] ∧ SH w w' [Ch.own S24 (x6 : List Int) [.slice p17 r8.length k17]]) ?_ ?_
 ·refine qB (zp2 rfl ?_)
  obtain ⟨r20, hr23, hF⟩ := qd hF
  refine qq r20 h call22 (qa4 (h.own 0 rfl) (h.own 3 rfl) hr23) rfl rfl rfl rfl ?_
  intro w18 h
  refine zp2 rfl ?_
  by_cases hc10 : (!r20) = true
  ·replace hF := bifT hc10 hF
   refine qE hc10 (t := 88) rfl (zn3 rfl (zp1 rfl (qb ?_)))
   replace h := h.pick [2] rfl
   obtain rfl := qh hF
   exact qy [(9, _), (12, _), (92, _)] ⟨rfl, rfl, rfl, trivial⟩ ⟨_, hK1, rfl, h⟩
  replace hc10 := zb hc10
  replace hF := bifF hc10 hF
  refine qD hc10 (t := 88) rfl (qa rfl (zp1 rfl (qa rfl (zp1 rfl (qa rfl (zp2 rfl (qb ?_)))))))
  replace h := h.pick [2] rfl
  obtain rfl := qh hF
  exact qy [(9, _), (12, _), (92, _)] ⟨rfl, rfl, rfl, trivial⟩ ⟨_, hK1, rfl, h⟩
 rintro e1 w19 ⟨b3, hF, rfl, h⟩
 subst hKF1
 refine qt rfl hF ?_ ?_ <;> intro hF
 ·exact zSR (zp1 rfl (qb (qx qc h hF ⟨rfl, trivial⟩)))
 refine zKSR (zp1 rfl (zNSR (zp2 rfl ?_)))
 obtain ⟨r19, hr22, hF⟩ := qd hF
 refine qY r19 h call25 (qhK (h.own 0 rfl) hr22) rfl rfl rfl rfl ?_
 intro w17 h
 refine zp1 rfl (zNSSR (zp2 rfl (qb ?_)))
 refine qt rfl hF ?_ ?_ <;> intro hF
 ·exact zSR (zp1 rfl (qb (qx qc h hF ⟨rfl, trivial⟩)))
 refine zKSSR (zp3 rfl (qb ?_))
 refine qt rfl hF ?_ ?_ <;> intro hF
 ·exact zSR (zp1 rfl (qb (qx qc h hF ⟨rfl, trivial⟩)))
 exact zKSR (zp1 rfl (qb (qx qc h hF ⟨rfl, trivial⟩)))

end Go.Fw


namespace Go.Fw
open Go
set_option maxRecDepth 100000

/-- A marking: the counter grows, by no more than four for each thing. -/
def Mk {σ : Type} (F : Nat → Option (Int × σ)) (k : Int) (w : Nat) : Prop := ∃ k' x, Ev F (k', x) ∧ k ≤ k' ∧ k' ≤ k + 4 * (w : Int)

theorem qnK {α : Type} {t : List α} {j : Nat} {y : α} (h : j < t.length) : idx (setS t (j : Int) y) (j : Int) = some y := by
  rw [qfL (by rw [qhn]; exact h), qpa h]
theorem qmA {α : Type} {t : List α} {i : Int} {y z : α} : setS (setS t i y) i z = setS t i z := by
  unfold setS; rw [List.set_set]
theorem qlZ {α : Type} {a : List α} {wt : α → Nat} {j : Nat} (h : j < a.length) : ((a.take (j + 1)).map wt).sum = ((a.take j).map wt).sum + wt a[j] := by
  rw [List.take_succ_eq_append_getElem h, List.map_append, List.sum_append]; simp
theorem qm9 {α : Type} {a : List α} {wt : α → Nat} {j : Nat} : ((a.take j).map wt).sum ≤ (a.map wt).sum := by
  conv => rhs; rw [← List.take_append_drop j a]
  rw [List.map_append, List.sum_append]
  exact Nat.le_add_right _ _

theorem qgo {α : Type} {a : List α} {wt : α → Nat} {Lf : Nat → List α → Int → Int → Option (List α × Int × Int)} {F : Nat → Option (Int × List α)} {k : Int} (hk0 : 0 ≤ k) (hk1 : k + 4 * ((a.length + (a.map wt).sum : Nat) : Int) ≤ 1000000000000)
    (hend : ∀ n t k, Lf (n + 1) t k (a.length : Int) = some (t, k, (a.length : Int)))
    (hstep : ∀ x, x ∈ a → ∀ k : Int, 0 ≤ k → k + 4 * ((1 + wt x : Nat) : Int) ≤ 1000000000000 → ∃ y k', k ≤ k' ∧ k' ≤ k + 4 * ((1 + wt x : Nat) : Int) ∧
      ∀ (t : List α) (j : Nat), j < 9223372036854775807 → j < a.length → j < t.length → t[j]? = some x → ∀ X, Ev (fun n => Lf n (setS t (j : Int) y) k' ((j + 1 : Nat) : Int)) X → Ev (fun n => Lf (n + 1) t k (j : Int)) X)
    (hl : a.length ≤ 1048576)
    (hF : ∀ n, F n = (Lf n a k 0).bind fun o => match o with | (x1, i1, _) => some (i1, x1)) : Mk F k (a.length + (a.map wt).sum) := by
  obtain ⟨⟨t, k'⟩, ⟨_, _, h3, h4⟩, e⟩ := loopE (τ := List α × Int) (Lf := fun n t j => Lf n t.1 t.2 j) (fin := fun t => (t.1, t.2, (a.length : Int)))
    (fun j t => t.1.length = a.length ∧ (∀ i, j ≤ i → t.1[i]? = a[i]?) ∧ k ≤ t.2 ∧ t.2 ≤ k + 4 * ((j + ((a.take j).map wt).sum : Nat) : Int)) (len := a.length)
    (fun n t => hend n t.1 t.2)
    (fun j t hj ht => by
      obtain ⟨h1, h2, h3, h4⟩ := ht
      have hs := qlZ (wt := wt) hj
      have hs2 := qm9 (a := a) (wt := wt) (j := j + 1)
      obtain ⟨y, k', q1, q2, q3⟩ := hstep a[j] (List.getElem_mem hj) t.2 (by omega) (by omega)
      refine ⟨(setS t.1 (j : Int) y, k'), ⟨by rw [qhn]; exact h1, fun i hi => ?_, by show k ≤ k'; omega, ?_⟩, fun X hX => ?_⟩
      · show (t.1.set _ _)[i]? = _
        rw [List.getElem?_set_ne (by rw [Int.toNat_natCast]; omega)]
        exact h2 i (by omega)
      · show k' ≤ k + _
        rw [hs]
        omega
      · exact q3 t.1 j (by omega) hj (by omega) (by rw [h2 j (Nat.le_refl _), List.getElem?_eq_getElem hj]) X hX) 0 (Nat.zero_le _) (a, k) ⟨rfl, fun _ _ => rfl, Int.le_refl _, by show k ≤ k + _; omega⟩
  rw [List.take_length] at h4
  exact ⟨k', t, Ev.congr hF (Ev.bind e .done), h3, h4⟩

theorem qpy {α : Type} {pre a : List α} {j : Nat} {y : α} (hp : pre.length = j) (hj : j < a.length) : setS (pre ++ a.drop j) (j : Int) y = (pre ++ [y]) ++ a.drop (j + 1) := by
  show (pre ++ a.drop j).set j y = _
  rw [List.set_append, if_neg (by omega), hp, Nat.sub_self, List.drop_eq_getElem_cons hj, List.set_cons_zero, List.append_assoc]
  rfl

def marked (k : Int) (m : Nat) : List Int := (List.range m).map fun (i : Nat) => k + (i : Int)
theorem qll {a : List Int} {k : Int} (h0 : 0 ≤ k) (h1 : k ≤ 1000000000000) (hl : a.length ≤ 1048576) : Ev (fun n => qaF n a k) (k + (a.length : Int), marked k a.length) := by
  have hL : Ev (fun n => qbm a n a k 0) (marked k a.length, k + (a.length : Int), (a.length : Int)) := by
    have := loopF (τ := List Int × Int) (Lf := fun n t j => qbm a n t.1 t.2 j) (S := fun j => (marked k j ++ a.drop j, k + (j : Int))) (len := a.length) (fin := (marked k a.length, k + (a.length : Int), (a.length : Int))) (fun n => by
        simp only [qbm, qu (Nat.le_refl _), cond_false, List.drop_length, List.append_nil])
      (fun j hj X hX => by
        have hp : (marked k j).length = j := by simp [marked]
        have hlt : j < (marked k j ++ a.drop j).length := by rw [List.length_append, hp, List.length_drop]; omega
        have hm : marked k (j + 1) = marked k j ++ [k + (j : Int)] := by unfold marked; rw [List.range_succ, List.map_append]; rfl
        simp only [qbm, qr hj, cond_true, qfL hlt, Option.bind_some, qpy hp hj, qp (show j < 9223372036854775807 by omega), qbx (show -9223372036854775808 ≤ k + (j : Int) + 1 by omega) (by omega)]
        rw [← hm]
        rw [show k + (j : Int) + 1 = k + ((j + 1 : Nat) : Int) by omega]
        exact hX)
    simpa [marked] using this
  unfold qaF
  exact Ev.bind hL .done
theorem qeU {a : List Int} {k : Int} (h0 : 0 ≤ k) (h1 : k ≤ 1000000000000) (hl : qa2 a ≤ 1048576) : ∃ k' x, Ev (fun n => qaF n a k) (k', x) ∧ k ≤ k' ∧ k' ≤ k + 4 * (qa2 a : Int) :=
  ⟨_, _, qll h0 h1 hl, by omega, by unfold qa2; omega⟩
theorem qp4 {k : Int} {m : Nat} (h0 : 0 ≤ k) (h1 : k ≤ 1000000000000) (hl : m ≤ 1048576) : Ev (fun n => qd0 n (marked k m) k) (k + (m : Int)) := by
  have hlen : (marked k m).length = m := by simp [marked]
  have hL : Ev (fun n => qbk (marked k m) n k 0) (.nxt (k + (m : Int), (m : Int))) := by
    have := loopF (Lf := qbk (marked k m)) (S := fun j => k + (j : Int)) (len := m) (fin := .nxt (k + (m : Int), (m : Int))) (fun n => by
        simp only [qbk, hlen, qu (Nat.le_refl _), cond_false])
      (fun j hj X hX => by
        have e : idx (marked k m) (j : Int) = some (k + (j : Int)) := by
          rw [qfL (by rw [hlen]; exact hj)]; simp [marked]
        simp only [qbk, hlen, qr hj, cond_true, e, Option.bind_some, bne_self_eq_false, cond_false, qp (show j < 9223372036854775807 by omega), qbx (show -9223372036854775808 ≤ k + (j : Int) + 1 by omega) (by omega)]
        rw [show k + (j : Int) + 1 = k + ((j + 1 : Nat) : Int) by omega]
        exact hX)
    simpa using this
  unfold qd0
  exact Ev.bind hL .done

theorem qoF {a b : ByteArray} (h : a.size + b.size ≤ 1000000) : catB a b = some (a ++ b) := by
  unfold catB
  rw [if_pos]
  show ((a.size + b.size : Nat) : Int) ≤ 9223372036854775807
  omega
theorem qml {x : IntK .u8} : (strOf [x]).size = 1 := rfl
theorem qhl {k : Int} (hk : k ≤ 1000000000001000) : ∃ s, Ev (fun n => qc5 n k) s := by
  have main : ∀ m : Nat, ∀ i1 : Int, ∀ z : ByteArray, 0 ≤ i1 → i1 ≤ 9000000000000000000 → i1 < 10 ^ m → z.size + m ≤ 1000 → ∃ o : Int × ByteArray, o.2.size ≤ 1000 ∧ Ev (fun n => qc4 n i1 z) o := by
    intro m
    induction m with
    | zero =>
      intro i1 z h0 hb h1 hz
      have : i1 = 0 := by have : (10 : Int) ^ 0 = 1 := rfl; omega
      subst this
      exact ⟨(0, z), by show z.size ≤ 1000; omega, Ev.succ (Ev.ff (by decide) .done)⟩
    | succ m ih =>
      intro i1 z h0 hb h1 hz
      by_cases hp : i1 = 0
      · subst hp
        exact ⟨(0, z), by show z.size ≤ 1000; omega, Ev.succ (Ev.ff (by decide) .done)⟩
      · have hd : i1.tdiv 10 = i1 / 10 := Int.tdiv_eq_ediv_of_nonneg h0
        have h10 : (10 : Int) ^ (m + 1) = 10 ^ m * 10 := Int.pow_succ _ _
        have hc : catB (strOf ([(⟨IntKind.wrap .u8 (W64 (48 + (i1.tmod 10)))⟩ : IntK .u8)])) z = some (strOf ([(⟨IntKind.wrap .u8 (W64 (48 + (i1.tmod 10)))⟩ : IntK .u8)]) ++ z) := qoF (by rw [qml]; omega)
        obtain ⟨o, ho, e⟩ := ih (i1 / 10) (strOf ([(⟨IntKind.wrap .u8 (W64 (48 + (i1.tmod 10)))⟩ : IntK .u8)]) ++ z) (by omega) (by omega) (by omega) (by rw [ByteArray.size_append, qml]; omega)
        refine ⟨o, ho, Ev.succ ?_⟩
        simp only [qc4, show decide (i1 > 0) = true by simp; omega, cond_true, hc, Option.bind_some, hd, qbx (show -9223372036854775808 ≤ i1 / 10 by omega) (by omega)]
        exact e
  unfold qc5
  by_cases h0 : k ≤ 0
  · exact ⟨_, Ev.tt (by simpa using h0) .done⟩
  · obtain ⟨⟨o1, o2⟩, ho, e⟩ := main 16 k ⟨#[]⟩ (by omega) (by omega) (by have : (10 : Int) ^ 16 = 10000000000000000 := rfl; omega) (by decide)
    refine ⟨(⟨#[109]⟩ : ByteArray) ++ o2, Ev.ff (by simp; omega) (Ev.bind e ?_)⟩
    have ho : o2.size ≤ 1000 := ho
    show Ev (fun n => (catB ⟨#[109]⟩ o2).bind fun z3 => some z3) _
    rw [qoF (show (⟨#[109]⟩ : ByteArray).size + o2.size ≤ 1000000 by have : (⟨#[109]⟩ : ByteArray).size = 1 := rfl; omega)]
    exact .done

theorem qne {a : List qae} {k : Int} (h0 : 0 ≤ k) (h1 : k + 4 * (qfM a : Int) ≤ 1000000000000) (hw : qfM a ≤ 1048576) : Mk (fun n => qg9 n a k) k (qfM a) := by
  refine qgo (a := a) (wt := qiL) h0 h1 (Lf := qcn a) (fun n t k => by simp only [qcn, qu (Nat.le_refl _), cond_false]) (fun x hx k h0 h1 => ?_) (by simp only [qfM] at hw; omega) (fun _ => rfl)
  obtain ⟨s, es⟩ := qhl (k := k) (by omega)
  have e1 : W64 (k + 1) = k + 1 := qbx (by omega) (by omega)
  have e2 : W64 (k + 1 + 1) = k + 1 + 1 := qbx (by omega) (by omega)
  have e3 : W64 (k + 1 + 1 + 1) = k + 1 + 1 + 1 := qbx (by omega) (by omega)
  have e4 : W64 (k + 1 + 1 + 1 + 1) = k + 1 + 1 + 1 + 1 := qbx (by omega) (by omega)
  refine ⟨⟨s, k + 1, k + 1 + 1, ((k + 1 + 1 + 1).tmod 3) == 0⟩, k + 1 + 1 + 1 + 1, by omega, by omega, fun t j hb hj ht hx X hX => ?_⟩
  simp only [qcn, qr hj, cond_true, e1, e2, e3, e4, qp hb]
  refine Ev.bind es ?_
  simp only [qat hx, Option.bind_some, qnK ht, qmA]
  exact hX

theorem qlt {a : List ByteArray} {k : Int} (h0 : 0 ≤ k) (h1 : k + 4 * (qdI a : Int) ≤ 1000000000000) (hw : qdI a ≤ 1048576) : Mk (fun n => qfx n a k) k (qdI a) := by
  refine qgo (a := a) (wt := ByteArray.size) h0 h1 (Lf := qbu a) (fun n t k => by simp only [qbu, qu (Nat.le_refl _), cond_false]) (fun x hx k h0 h1 => ?_) (by simp only [qdI] at hw; omega) (fun _ => rfl)
  obtain ⟨s, es⟩ := qhl (k := k) (by omega)
  have e1 : W64 (k + 1) = k + 1 := qbx (by omega) (by omega)
  refine ⟨s, k + 1, by omega, by omega, fun t j hb hj ht hx X hX => ?_⟩
  simp only [qbu, qr hj, cond_true, e1, qp hb]
  refine Ev.bind es ?_
  simp only [qat hx, Option.bind_some]
  exact hX

theorem qmY {a : List qW} {k : Int} (h0 : 0 ≤ k) (h1 : k + 4 * (qeJ a : Int) ≤ 1000000000000) (hw : qeJ a ≤ 1048576) : Mk (fun n => qgE n a k) k (qeJ a) := by
  refine qgo (a := a) (wt := qht) h0 h1 (Lf := qb0 a) (fun n t k => by simp only [qb0, qu (Nat.le_refl _), cond_false]) (fun x hx k h0 h1 => ?_) (by simp only [qeJ] at hw; omega) (fun _ => rfl)
  obtain ⟨s, es⟩ := qhl (k := k) (by omega)
  have e1 : W64 (k + 1) = k + 1 := qbx (by omega) (by omega)
  have e2 : W64 (k + 1 + 1) = k + 1 + 1 := qbx (by omega) (by omega)
  have e3 : W64 (k + 1 + 1 + 1) = k + 1 + 1 + 1 := qbx (by omega) (by omega)
  refine ⟨⟨s, k + 1, k + 1 + 1⟩, k + 1 + 1 + 1, by omega, by omega, fun t j hb hj ht hx X hX => ?_⟩
  simp only [qb0, qr hj, cond_true, e1, e2, e3, qp hb]
  refine Ev.bind es ?_
  simp only [qat hx, Option.bind_some, qnK ht, qmA]
  exact hX

theorem qjC {a : List qA} {k : Int} (h0 : 0 ≤ k) (h1 : k + 4 * (qcX a : Int) ≤ 1000000000000) (hw : qcX a ≤ 1048576) : Mk (fun n => qeX n a k) k (qcX a) := by
  refine qgo (a := a) (wt := qdF) h0 h1 (Lf := qbI a) (fun n t k => by simp only [qbI, qu (Nat.le_refl _), cond_false]) (fun x hx k h0 h1 => ?_) (by simp only [qcX] at hw; omega) (fun _ => rfl)
  have hs := qcZ (wt := qdF) hx
  have ew : qdF x = qa2 x.Slews + qa2 x.Loads + qa2 x.Values := rfl
  have hw : a.length + (a.map qdF).sum ≤ 1048576 := hw
  obtain ⟨k1, x1, e1, l1, u1⟩ := qeU (a := x.Slews) (k := k) h0 (by omega) (by omega)
  obtain ⟨k2, x2, e2, l2, u2⟩ := qeU (a := x.Loads) (k := k1) (by omega) (by omega) (by omega)
  obtain ⟨k3, x3, e3, l3, u3⟩ := qeU (a := x.Values) (k := k2) (by omega) (by omega) (by omega)
  refine ⟨⟨x1, x2, x3⟩, k3, by omega, by omega, fun t j hb hj ht hx X hX => ?_⟩
  simp only [qbI, qr hj, cond_true, qat hx, Option.bind_some, qp hb]
  exact Ev.bind e1 (Ev.bind e2 (Ev.bind e3 hX))

theorem qnB {a : List qT} {k : Int} (h0 : 0 ≤ k) (h1 : k + 4 * (qfK a : Int) ≤ 1000000000000) (hw : qfK a ≤ 1048576) : Mk (fun n => qha n a k) k (qfK a) := by
  refine qgo (a := a) (wt := qgV) h0 h1 (Lf := qck a) (fun n t k => by simp only [qck, qu (Nat.le_refl _), cond_false]) (fun x hx k h0 h1 => ?_) (by simp only [qfK] at hw; omega) (fun _ => rfl)
  have hs := qcZ (wt := qgV) hx
  have ew : qgV x = qcX x.Delay + qcX x.Slew := rfl
  have hw : a.length + (a.map qgV).sum ≤ 1048576 := hw
  have e1 : W64 (k + 1) = k + 1 := qbx (by omega) (by omega)
  have e2 : W64 (k + 1 + 1) = k + 1 + 1 := qbx (by omega) (by omega)
  have e3 : W64 (k + 1 + 1 + 1) = k + 1 + 1 + 1 := qbx (by omega) (by omega)
  have e4 : W64 (k + 1 + 1 + 1 + 1) = k + 1 + 1 + 1 + 1 := qbx (by omega) (by omega)
  obtain ⟨k1, x1, q1, l1, u1⟩ := qjC (a := x.Delay) (k := k + 1 + 1 + 1 + 1) (by omega) (by omega) (by omega)
  obtain ⟨k2, x2, q2, l2, u2⟩ := qjC (a := x.Slew) (k := k1) (by omega) (by omega) (by omega)
  refine ⟨⟨k, k + 1, k + 1 + 1, k + 1 + 1 + 1, x1, x2⟩, k2, by omega, by omega, fun t j hb hj ht hx X hX => ?_⟩
  simp only [qck, qr hj, cond_true, qat hx, Option.bind_some, qp hb, e1, e2, e3, e4]
  exact Ev.bind q1 (Ev.bind q2 hX)

theorem qmL {a : List qv} {k : Int} (h0 : 0 ≤ k) (h1 : k + 4 * (qeL a : Int) ≤ 1000000000000) (hw : qeL a ≤ 1048576) : Mk (fun n => qgs n a k) k (qeL a) := by
  refine qgo (a := a) (wt := qeu) h0 h1 (Lf := qb4 a) (fun n t k => by simp only [qb4, qu (Nat.le_refl _), cond_false]) (fun x hx k h0 h1 => ?_) (by simp only [qeL] at hw; omega) (fun _ => rfl)
  have hs := qcZ (wt := qeu) hx
  have ew : qeu x = x.Name.size + qfM x.Pins + qfK x.Arcs + qa2 x.Truth := rfl
  have hw : a.length + (a.map qeu).sum ≤ 1048576 := hw
  obtain ⟨s, es⟩ := qhl (k := k) (by omega)
  have e1 : W64 (k + 1) = k + 1 := qbx (by omega) (by omega)
  have e2 : W64 (k + 1 + 1) = k + 1 + 1 := qbx (by omega) (by omega)
  obtain ⟨k1, x1, q1, l1, u1⟩ := qne (a := x.Pins) (k := k + 1 + 1) (by omega) (by omega) (by omega)
  obtain ⟨k2, x2, q2, l2, u2⟩ := qnB (a := x.Arcs) (k := k1) (by omega) (by omega) (by omega)
  obtain ⟨k3, x3, q3, l3, u3⟩ := qeU (a := x.Truth) (k := k2) (by omega) (by omega) (by omega)
  have e3 : W64 (k3 + 1) = k3 + 1 := qbx (by omega) (by omega)
  have e4 : W64 (k3 + 1 + 1) = k3 + 1 + 1 := qbx (by omega) (by omega)
  refine ⟨⟨s, k + 1, x1, x2, x3, k3, k3 + 1⟩, k3 + 1 + 1, by omega, by omega, fun t j hb hj ht hx X hX => ?_⟩
  simp only [qb4, qr hj, cond_true, qat hx, Option.bind_some, qp hb, e1, e2]
  refine Ev.bind es (Ev.bind q1 (Ev.bind q2 (Ev.bind q3 ?_)))
  simp only [e3, e4]
  exact hX

theorem qks {a : List ql} {k : Int} (h0 : 0 ≤ k) (h1 : k + 4 * (qbF a : Int) ≤ 1000000000000) (hw : qbF a ≤ 1048576) : Mk (fun n => qeI n a k) k (qbF a) := by
  refine qgo (a := a) (wt := qbw) h0 h1 (Lf := qbb a) (fun n t k => by simp only [qbb, qu (Nat.le_refl _), cond_false]) (fun x hx k h0 h1 => ?_) (by simp only [qbF] at hw; omega) (fun _ => rfl)
  have hs := qcZ (wt := qbw) hx
  have ew : qbw x = x.Name.size + qa2 x.Nets := rfl
  have hw : a.length + (a.map qbw).sum ≤ 1048576 := hw
  obtain ⟨s, es⟩ := qhl (k := k) (by omega)
  have e1 : W64 (k + 1) = k + 1 := qbx (by omega) (by omega)
  have e2 : W64 (k + 1 + 1) = k + 1 + 1 := qbx (by omega) (by omega)
  obtain ⟨k1, x1, q1, l1, u1⟩ := qeU (a := x.Nets) (k := k + 1 + 1) (by omega) (by omega) (by omega)
  refine ⟨⟨s, k + 1, x1⟩, k1, by omega, by omega, fun t j hb hj ht hx X hX => ?_⟩
  simp only [qbb, qr hj, cond_true, qat hx, Option.bind_some, qp hb, e1, e2]
  exact Ev.bind es (Ev.bind q1 hX)

theorem qm5 {a : List qQ} {k : Int} (h0 : 0 ≤ k) (h1 : k + 4 * (qeR a : Int) ≤ 1000000000000) (hw : qeR a ≤ 1048576) : Mk (fun n => qgD n a k) k (qeR a) := by
  refine qgo (a := a) (wt := qeC) h0 h1 (Lf := qbZ a) (fun n t k => by simp only [qbZ, qu (Nat.le_refl _), cond_false]) (fun x hx k h0 h1 => ?_) (by simp only [qeR] at hw; omega) (fun _ => rfl)
  have hs := qcZ (wt := qeC) hx
  have ew : qeC x = qa2 x.Parent + qa2 x.Res + qa2 x.Cap + qa2 x.Sink := rfl
  have hw : a.length + (a.map qeC).sum ≤ 1048576 := hw
  obtain ⟨k1, x1, q1, l1, u1⟩ := qeU (a := x.Parent) (k := k) h0 (by omega) (by omega)
  obtain ⟨k2, x2, q2, l2, u2⟩ := qeU (a := x.Res) (k := k1) (by omega) (by omega) (by omega)
  obtain ⟨k3, x3, q3, l3, u3⟩ := qeU (a := x.Cap) (k := k2) (by omega) (by omega) (by omega)
  obtain ⟨k4, x4, q4, l4, u4⟩ := qeU (a := x.Sink) (k := k3) (by omega) (by omega) (by omega)
  refine ⟨⟨x1, x2, x3, x4⟩, k4, by omega, by omega, fun t j hb hj ht hx X hX => ?_⟩
  simp only [qbZ, qr hj, cond_true, qat hx, Option.bind_some, qp hb]
  exact Ev.bind q1 (Ev.bind q2 (Ev.bind q3 (Ev.bind q4 hX)))

theorem qm0 {a : qC} {k : Int} (h0 : 0 ≤ k) (h1 : k ≤ 1000000) (hw : qe9 a ≤ 1048576) : Mk (fun n => qfj n a k) k (qe9 a) := by
  simp only [qe9, qe1, qeY] at hw ⊢
  obtain ⟨k1, x1, q1, l1, u1⟩ := qmL (a := a.Library.Cells) (k := k) h0 (by omega) (by omega)
  obtain ⟨k2, x2, q2, l2, u2⟩ := qks (a := a.Design.Instances) (k := k1) (by omega) (by omega) (by omega)
  obtain ⟨k3, x3, q3, l3, u3⟩ := qlt (a := a.Design.Nets) (k := k2) (by omega) (by omega) (by omega)
  obtain ⟨k4, x4, q4, l4, u4⟩ := qmY (a := a.Design.Ports) (k := k3) (by omega) (by omega) (by omega)
  obtain ⟨k5, x5, q5, l5, u5⟩ := qm5 (a := a.Wires) (k := k4) (by omega) (by omega) (by omega)
  refine ⟨k5, (x1, x2, x3, x4, x5), ?_, by omega, by omega⟩
  unfold qfj qfD qf5
  exact Ev.bind (b := (k1, x1)) (Ev.bind q1 .done) (Ev.bind (b := (k4, x2, x3, x4)) (Ev.bind q2 (Ev.bind q3 (Ev.bind q4 .done))) (Ev.bind q5 .done))
end Go.Fw


namespace Go.Fw
open Go
set_option maxRecDepth 100000

theorem qm6 {b : qC} (h : blockB b = true) : Ev (fun n => qfP n b) ((places b.Design).length : Int) := by
  unfold qfP
  exact Ev.bind (qhL (qba (qbW h))) (Ev.now (by rw [List.length_map]))

def dsR (b : qC) (p : Int) : List Int × Int := bif blockB b then (bif inPl b p then (succL b p.toNat, 0) else ([], 2)) else ([], 1)
theorem qjL {b : qC} {p : Int} (hok : qgU b) : Ev (fun n => qdA n b p) (dsR b p) := by
  unfold qdA dsR
  refine Ev.chk1 (qni hok) fun h => Ev.bind (qm6 h) ?_
  have hl := qcw (qba (qbW h))
  simp only [qeD, Option.bind_some, qdm (show (places b.Design).length ≤ 9223372036854775807 by omega), qb6]
  refine Ev.okP1 (a := inPl b p) fun hp => ?_
  have hq := hp
  unfold inPl at hq
  rw [qcE] at hq
  have e := qng hok h (j := p.toNat) (by omega)
  rw [← qjJ hq.1] at e
  exact Ev.bind e .done
theorem qh1 {b : qC} {p : Int} (hok : qgU b) : Ev (fun n => qcJ n b p) (dsR b p) := by
  unfold qcJ dsR
  refine Ev.chk1 (qop hok) fun h => ?_
  obtain ⟨ls, lo, de, e⟩ := qoh h
  have hl := qcw (qba (qbW h))
  refine Ev.bind e ?_
  simp only [qfd, qdE, qdY, Option.bind_some, qdm (show (places b.Design).length ≤ 9223372036854775807 by omega), qb6]
  refine Ev.okP1 (a := inPl b p) fun hp => ?_
  have hq := hp
  unfold inPl at hq
  rw [qcE] at hq
  have e := qmf (V := ⟨b, places b.Design, ls, lo, de, []⟩) h rfl rfl (j := p.toNat) (by omega)
  rw [← qjJ hq.1] at e
  exact Ev.bind e .done

theorem qjW {b : qC} {p : Int} (hb : qjr b) (_ : rngI p) : Ev (fun n => qcu n b p) true := by
  unfold qcu
  obtain ⟨r1, e1, q1⟩ := qpn (a := b) (left := 1048576) hb (by omega) (by omega)
  refine Ev.bind e1 ?_
  rcases q1 with q1 | ⟨p1, q1⟩
  · exact Ev.tt (by simpa using q1) .done
  · refine Ev.ff (by simp; omega) ?_
    have wb : qe9 b ≤ 1048576 := by omega
    have hok := qov hb wb
    have hlen : qa2 (dsR b p).1 ≤ 1048576 := by
      unfold dsR qa2
      cases h : blockB b
      · exact Nat.zero_le _
      · cases inPl b p
        · exact Nat.zero_le _
        · exact Nat.le_trans (qo3 h) (by omega)
    obtain ⟨k', x, mk, l1, _⟩ := qm0 (a := b) (k := 1) (by omega) (by omega) wb
    have ee : Ev (fun n => (qaL n (dsR b p).1 (dsR b p).1).bind fun r => bif (!r) then some true else some ((dsR b p).2 != (dsR b p).2)) false :=
      Ev.bind (qe2 hlen) (Ev.ff rfl (Ev.now (by simp)))
    have hh := qp4 (k := 1) (m := (dsR b p).1.length) (by omega) (by omega) hlen
    refine Ev.bind (qj7 wb) (Ev.bind (qjL hok) (Ev.bind (qj7 wb) (Ev.bind (qh1 hok) (Ev.bind ee (Ev.ff rfl (Ev.bind (qj7 wb) (Ev.bind (qpT wb) (Ev.ff rfl (Ev.bind mk ?_)))))))))
    refine Ev.bind (Ev.ff (by simp; omega) ee) (Ev.ff rfl (Ev.bind (qll (by omega) (by omega) hlen) (Ev.bind hh (Ev.ff (by simp; omega) (Ev.ff qb2 (Ev.bind (qj7 wb) (Ev.bind (qh1 hok) (Ev.bind ee (Ev.ff rfl (Ev.bind hh (Ev.ff (by simp; omega) (Ev.ff qb2 .done))))))))))))
end Go.Fw
