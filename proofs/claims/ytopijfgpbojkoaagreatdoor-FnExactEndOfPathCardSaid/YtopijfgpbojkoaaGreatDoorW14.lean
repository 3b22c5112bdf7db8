/- Plain laws: the specification's links; live links. -/
import Derived.Test.YtopijfgpbojkoaaGreatDoorW7
import Derived.Test.YtopijfgpbojkoaaGreatDoorB6
open Option renaming bind_some → ja
open Nat renaming le_refl → jb, mul_le_mul_right → jj, le_of_ble_eq_true → jq, lt_of_lt_of_le → js, succ_mul → jE, zero_add → jU
open Bool renaming and_eq_true → jc, eq_iff_iff → jh, true_and → jw, not_eq_true' → jD, not_true → jW
open Go.Result renaming andThen_ok → jd
open List renaming length_append → je, getElem?_eq_getElem → jf, length_singleton → jk, append_assoc → jm, mem_cons_of_mem → jo, getElem_mem → jp, getElem?_append_left → jr, mem_cons_self → jt, take_succ_eq_append_getElem → ju, length_map → jv, getElem?_take → jx, getElem?_append_right → jy, getD_eq_getElem?_getD → jz, getElem?_toArray → jA, take_length → jB, eq_nil_of_length_eq_zero → jC, not_mem_nil → jF, length_replicate → jG, size_toArray → jH, all_eq_true → jL, drop_eq_getElem_cons → jM, getElem_of_mem → jN, map_append → jO, mem_cons → jQ, length_take → jS, ext_getElem → jT
open Go.Sem renaming run_bind → jg, run_pure → ji
open Int renaming toNat_natCast → jn, tdiv_eq_ediv_of_nonneg → jJ, mul_nonneg → jK, mul_assoc → jP, mul_le_mul → jR, le_refl → jV
open Array renaming getElem?_append_left → jI

namespace Go.Fw
open Go
set_option maxRecDepth 100000
theorem qrV {b : qf} {k : Int} (h : blockB b = true) {j : Nat} (hj : j < (places b.Ab).length) (hk : (gt (places b.Ab) j).net = k) (hdr : (gt (places b.Ab) j).drives = true) : Ev (fun n => qhK n b.Ab k) (j : Int) := by
 have hd := qaE h
 have hs := qaj hd
 have hl := qbH hs
 have e : ixL (fun q : Tl05Place => (q.net == k) && q.drives) ((places b.Ab).map toSp) = (j : Int) := by
  refine qvt (by simpa using hj) ?_ (fun i hi hq => ?_)
  ·rw [qon hj]
   show (((gt (places b.Ab) j).net == k) && (gt (places b.Ab) j).drives) = true
   rw [hk, hdr]; simp
  ·have hi' : i < (places b.Ab).length := by simpa using hi
   rw [qon hi'] at hq
   have hq' : (((gt (places b.Ab) i).net == k) && (gt (places b.Ab) i).drives) = true := hq
   simp only [jc, beq_iff_eq] at hq'
   exact qs1 hd hi' hj (by rw [hq'.1, hk]) hq'.2 hdr
 unfold qhK
 refine Ev.bind (qht hs) ?_
 rw [← e]
 exact qfb (fin := (((places b.Ab).map toSp).length : Int)) (Lf := qcr k ((places b.Ab).map toSp)) (xs := (places b.Ab).map toSp) (pf := fun _ (q : Tl05Place) => some ((q.net == k) && q.drives)) (fun _ _ => .done)
  (fun n => by simp only [qcr, qk (jb _), cond_false])
  (fun n j x hx => by
   have hj := (List.getElem?_eq_some_iff.1 hx).1
   have hj' : j < (places b.Ab).length := by simpa using hj
   simp only [qcr, qj hj, cond_true, qaw hx, ja, wS j]
   cases (x.net == k) <;> cases x.drives <;> rfl)
  (fun n => by congr 1; funext o; cases o <;> rfl)
theorem qqf {b : qf} {i k : Nat} (h : blockB b = true) (hi : i < b.Ab.Aa.length) (hk : k < (gt b.Ab.Aa i).Am.length) : Ev (fun n => qh7 n b.Ab (i : Int) (k : Int)) ((off b.Ab i + k : Nat) : Int) := by
 have hd := qaE h
 have hs := qaj hd
 have hl := qbH hs
 obtain ⟨hj, ej⟩ := qjN hi hk
 have e : ixL (fun q : Tl05Place => (q.instance_ == (i : Int)) && (q.pin == (k : Int))) ((places b.Ab).map toSp) = ((off b.Ab i + k : Nat) : Int) := by
  refine qvt (by simpa using hj) ?_ (fun m hm hq => ?_)
  ·rw [qon hj, ej]
   unfold place1 toSp
   simp
  ·have hm' : m < (places b.Ab).length := by simpa using hm
   rw [qon hm'] at hq
   rcases qkM hm' with ⟨i', k', hi', hk', em, e'⟩ | ⟨i', hi', em, e'⟩
   ·rw [e'] at hq
    unfold place1 toSp at hq
    simp only [jc, beq_iff_eq] at hq
    obtain rfl : i' = i := by omega
    obtain rfl : k' = k := by omega
    exact em
   ·rw [e'] at hq
    unfold place2 toSp at hq
    simp only [jc, beq_iff_eq] at hq
    omega
 unfold qh7
 refine Ev.bind (qht hs) ?_
 rw [← e]
 exact qfb (fin := (((places b.Ab).map toSp).length : Int)) (Lf := qdy (i : Int) (k : Int) ((places b.Ab).map toSp)) (xs := (places b.Ab).map toSp) (pf := fun _ (q : Tl05Place) => some ((q.instance_ == (i : Int)) && (q.pin == (k : Int)))) (fun _ _ => .done)
  (fun n => by simp only [qdy, qk (jb _), cond_false])
  (fun n j x hx => by
   have hj := (List.getElem?_eq_some_iff.1 hx).1
   have hj' : j < (places b.Ab).length := by simpa using hj
   simp only [qdy, qj hj, cond_true, qaw hx, ja, wS j]
   cases (x.instance_ == (i : Int)) <;> cases (x.pin == (k : Int)) <;> rfl)
  (fun n => by congr 1; funext o; cases o <;> rfl)
theorem qrN {n : Nat} {xs : List qq} {f t a c k i : Int} (hx : xs.length ≤ 1000000) (f0 : 0 ≤ f) (f1 : f ≤ 1000000) (t0 : 0 ≤ t) (t1 : t ≤ 1000000) (ha : b01 a) (hc : b01 c) : qeu n xs f t a c k i = some (xs ++ [⟨2 * f + a, 2 * t + c, k, i⟩]) := by
 have ha' : 0 ≤ a ∧ a ≤ 1 := by rcases ha with e | e <;> omega
 have hc' : 0 ≤ c ∧ c ≤ 1 := by rcases hc with e | e <;> omega
 unfold qeu
 rw [wO (2 * f), wO (2 * t), wO (2 * f + a), wO (2 * t + c), qcO (by rw [jk]; omega)]
 rfl
def fitB (a : qO) (i j : Int) : Bool := bif a.Be == 1 then (bif a.Bn == 3 then true else (a.Bn == 1) == (i == j)) else bif a.Be == 2 then i == 0 else bif a.Be == 3 then i == 1 else false
def pcL (a : qO) (f t k i j : Int) : List qq := bif fitB a i j then [⟨2 * f + i, 2 * t + j, 1, k⟩] else []
theorem arcStep {arc : qO} {xs : List qq} {f t k i j : Int} {X : List qq × Int} (hx : xs.length ≤ 1000000) (f0 : 0 ≤ f) (f1 : f ≤ 1000000) (t0 : 0 ≤ t) (t1 : t ≤ 1000000) (hi : b01 i) (hj : b01 j)
  (h : Ev (fun n => qaW arc f t k i n (xs ++ pcL arc f t k i j) (j + 1)) X) : Ev (fun n => qaW arc f t k i n xs j) X := by
 have hj' : 0 ≤ j ∧ j ≤ 1 := by rcases hj with e | e <;> omega
 have hp := fun n => qrN (n := n) (k := 1) (i := k) hx f0 f1 t0 t1 hi hj
 refine Ev.succ ?_
 simp only [qaW, hp, ja, wO (j + 1)]
 refine Ev.tt (decide_eq_true hj'.2) ?_
 unfold pcL fitB at h
 cases h1 : arc.Be == 1
 ·cases h2 : arc.Be == 2
  ·cases h3 : arc.Be == 3
   ·rw [h1, h2, h3] at h; simpa using h
   ·rw [h1, h2, h3] at h
    cases h4 : i == 1
    ·rw [h4] at h; simpa using h
    ·rw [h4] at h; simpa using h
  ·rw [h1, h2] at h
   cases h4 : i == 0
   ·rw [h4] at h; simpa using h
   ·rw [h4] at h; simpa using h
 ·rw [h1] at h
  cases h2 : arc.Bn == 3
  ·rw [h2] at h
   cases h4 : (arc.Bn == 1) == (i == j)
   ·rw [h4] at h; simpa [h4] using h
   ·rw [h4] at h; simpa [h4] using h
  ·rw [h2] at h; simpa using h
theorem qxQ {arc : qO} {xs : List qq} {f t k : Int} (hx : xs.length ≤ 900000) (f0 : 0 ≤ f) (f1 : f ≤ 1000000) (t0 : 0 ≤ t) (t1 : t ≤ 1000000) :
  Ev (fun n => qkF n xs arc f t k) (xs ++ pcL arc f t k 0 0 ++ pcL arc f t k 0 1 ++ pcL arc f t k 1 0 ++ pcL arc f t k 1 1) := by
 have hl : ∀ i j, (pcL arc f t k i j).length ≤ 1 := fun i j => by unfold pcL; cases fitB arc i j <;> simp
 have h00 := hl 0 0
 have h01 := hl 0 1
 have h10 := hl 1 0
 have h11 := hl 1 1
 have row : ∀ (i : Int) (ys : List qq), b01 i → ys.length ≤ 900010 → Ev (fun n => qaW arc f t k i n ys 0) (ys ++ pcL arc f t k i 0 ++ pcL arc f t k i 1, 2) := by
  intro i ys hi hy
  have hli := hl i 0
  refine arcStep (by omega) f0 f1 t0 t1 hi (.inl rfl) (arcStep (j := 0 + 1) (by rw [je]; omega) f0 f1 t0 t1 hi (.inr rfl) (Ev.succ ?_))
  simp only [qaW]
  exact Ev.ff rfl .done
 have hL : Ev (fun n => qd3 arc f t k n xs 0) (xs ++ pcL arc f t k 0 0 ++ pcL arc f t k 0 1 ++ pcL arc f t k 1 0 ++ pcL arc f t k 1 1, 2) := by
  refine Ev.succ ?_
  simp only [qd3]
  refine Ev.tt rfl (Ev.bind (row 0 xs (.inl rfl) (by omega)) ?_)
  refine Ev.succ ?_
  simp only [qd3]
  refine Ev.tt rfl (Ev.bind (row 1 _ (.inr rfl) (by simp only [je]; omega)) ?_)
  refine Ev.succ ?_
  simp only [qd3]
  exact Ev.ff rfl .done
 unfold qkF
 exact Ev.bind hL .done
theorem qt8 {ps : List qap} {a : qO} (h : arcS ps a = true) (h3 : a.Be ≤ 3) (h1 : 1 ≤ a.Be) : (a.Be = 1 ∧ (a.Bn = 1 ∨ a.Bn = 2 ∨ a.Bn = 3)) ∨ a.Be = 2 ∨ a.Be = 3 := by
 rcases (by omega : a.Be = 1 ∨ a.Be = 2 ∨ a.Be = 3) with e | e | e
 ·refine .inl ⟨e, ?_⟩
  unfold arcS at h
  rw [e] at h
  simp only [beq_self_eq_true, cond_true, jc, qa0] at h
  have := h.2.2.2.1
  omega
 ·exact .inr (.inl e)
 ·exact .inr (.inr e)
theorem qvU {ps : List qap} {a : qO} {first : Int} {k : Nat} (h : arcS ps a = true) (h3 : a.Be ≤ 3) (h1 : 1 ≤ a.Be) :
  pcL a (first + a.Bk) (first + a.To) (k : Int) 0 0 ++ pcL a (first + a.Bk) (first + a.To) (k : Int) 0 1 ++ pcL a (first + a.Bk) (first + a.To) (k : Int) 1 0 ++ pcL a (first + a.Bk) (first + a.To) (k : Int) 1 1 = arcLs first k a := by
 unfold arcLs transL pcL fitB
 rcases qt8 h h3 h1 with ⟨e, e2 | e2 | e2⟩ | e | e
 ·rw [e, e2]; rfl
 ·rw [e, e2]; rfl
 ·rw [e, e2]; rfl
 ·rw [e]; rfl
 ·rw [e]; rfl
theorem qoZ {a : qO} {first : Int} {k : Nat} (h : 3 < a.Be) : arcLs first k a = [] := by
 unfold arcLs transL
 rw [show (a.Be == 2) = false from beq_eq_false_iff_ne.2 (by omega), show (a.Be == 3) = false from beq_eq_false_iff_ne.2 (by omega), show (a.Be != 1) = true from bne_iff_ne.2 (by omega)]
 rfl
theorem qiZ {b : qf} (h : blockB b = true) : Ev (fun n => qeS n b) (linksL b) := by
 have hd := qaE h
 have hs := qaj hd
 have hl := qbH hs
 have hni := hs.ni
 have hnn := hs.nn
 have hwl := qlJ h
 have hd0 : (⟨b.Ab.Aa, b.Ab.Am, b.Ab.Aj⟩ : qd) = b.Ab := rfl
 have e1 : Ev (fun n => qcZ b n ([] : List qq) 0) (instLs b b.Ab.Aa.length, (b.Ab.Aa.length : Int)) := by
  refine loopF (Lf := qcZ b) (S := instLs b) (len := b.Ab.Aa.length) (fun n => ?_) (fun j hj X hX => ?_)
  ·simp only [qcZ, qk (jb _), cond_false]
  ·obtain ⟨⟨c0, c1⟩, hnl, hcb⟩ := qgx hd hj
   have ha := qnr hcb
   have hpb := (qgr (qiB hcb)).1
   have hil := qiA h (show j ≤ b.Ab.Aa.length by omega)
   have hoff := qjT (d := b.Ab) (i := j)
   have hof : off b.Ab (j + 1) ≤ 78 := by
    rw [qgn] at hl
    have := qtu (d := b.Ab) (show j + 1 ≤ b.Ab.Aa.length by omega)
    omega
   have hcA : cellAt b (j : Int) = gt b.Av.Aq (gt b.Ab.Aa j).Bs.toNat := rfl
   simp only [qcZ, qj hj, cond_true, qB hj, qdd c0 c1, ja, wS j]
   have hL2 : Ev (fun n => qck b (j : Int) (cellAt b (j : Int)) n (instLs b j) 0) (instLs b (j + 1), ((cellAt b (j : Int)).Ar.length : Int)) := by
    rw [show instLs b (j + 1) = instLs b j ++ cellLs (cellAt b (j : Int)) (off b.Ab j : Int) (cellAt b (j : Int)).Ar.length from qjw]
    rw [← hcA] at hcb hnl ha hpb
    generalize cellAt b (j : Int) = c at hcb hnl ha hpb ⊢
    have := loopF (Lf := qck b (j : Int) c) (S := fun k => instLs b j ++ cellLs c (off b.Ab j : Int) k) (len := c.Ar.length) (fin := (instLs b j ++ cellLs c (off b.Ab j : Int) c.Ar.length, (c.Ar.length : Int))) (fun n => by simp only [qck, qk (jb _), cond_false])
     (fun k hk X hX => by
      obtain ⟨⟨k1, k5⟩, hf, ht, hA⟩ := qmo hcb hk
      have hcl : (cellLs c (off b.Ab j : Int) k).length ≤ 4 * k := qom fun _ _ => qod
      have es : cellLs c (off b.Ab j : Int) (k + 1) = cellLs c (off b.Ab j : Int) k ++ arcLs (off b.Ab j : Int) k (gt c.Ar k) := qjw
      rw [es] at hX
      simp only [qck, qj hk, cond_true, qB hk, ja, wS k, hd0]
      by_cases h3 : (gt c.Ar k).Be ≤ 3
      ·refine Ev.tt (decide_eq_true h3) ?_
       have f1 := qqf h hj (k := (gt c.Ar k).Bk.toNat) (by omega)
       have f2 := qqf h hj (k := (gt c.Ar k).To.toNat) (by omega)
       rw [← qfZ hf.1] at f1
       rw [← qfZ ht.1] at f2
       refine Ev.bind f1 (Ev.bind f2 (Ev.bind (qxQ (by rw [je]; omega) (by omega) (by omega) (by omega) (by omega)) ?_))
       have e3 : ∀ x : Int, 0 ≤ x → ((off b.Ab j + x.toNat : Nat) : Int) = (off b.Ab j : Int) + x := fun x hx => by omega
       rw [e3 _ hf.1, e3 _ ht.1, jm, jm, jm, ← jm (pcL _ _ _ _ _ _), ← jm (pcL _ _ _ _ _ _ ++ _), qvU hA h3 k1, jm]
       exact hX
      ·refine Ev.ff (decide_eq_false h3) ?_
       rw [qoZ (by omega), List.append_nil] at hX
       exact hX)
    simpa [cellLs, fm] using this
   exact Ev.bind hL2 hX
 have hL4 : ∀ (i : Nat) (t : List qq), i < b.Ac.length → t.length ≤ 900000 → Ev (fun n => qcW (dvN b.Ab i : Int) (skL b i) n t 0) (t ++ wlN b i (skL b i).length, ((skL b i).length : Int)) := by
  intro i t hi ht
  have hsm := qgK h (i := i)
  have hdv := (qjb hd (k := i) (by omega)).1
  have := loopF (Lf := qcW (dvN b.Ab i : Int) (skL b i)) (S := fun k => t ++ wlN b i k) (len := (skL b i).length) (fin := (t ++ wlN b i (skL b i).length, ((skL b i).length : Int))) (fun n => by simp only [qcW, qk (jb _), cond_false])
   (fun k hk X hX => by
    obtain ⟨y, hy, ey, _⟩ := qop hk
    have hwn := qr7 (b := b) (i := i) (j := k)
    have p1 := fun n => qrN (n := n) (xs := t ++ wlN b i k) (f := (dvN b.Ab i : Int)) (t := at0 (skL b i) k) (a := 0) (c := 0) (k := 2) (i := (k : Int)) (by rw [je]; omega) (by omega) (by omega) (by omega) (by omega) (.inl rfl) (.inl rfl)
    have p2 := fun n => qrN (n := n) (xs := t ++ wlN b i k ++ [⟨2 * (dvN b.Ab i : Int) + 0, 2 * at0 (skL b i) k + 0, 2, (k : Int)⟩]) (f := (dvN b.Ab i : Int)) (t := at0 (skL b i) k) (a := 1) (c := 1) (k := 2) (i := (k : Int)) (by rw [je, je, jk]; omega) (by omega) (by omega) (by omega) (by omega) (.inr rfl) (.inr rfl)
    simp only [qcW, qj hk, cond_true, qaf hk, ja, p1, p2, wS k]
    have es : wlN b i (k + 1) = wlN b i k ++ wl1 (dvN b.Ab i) (at0 (skL b i) k) k := qjw
    rw [es] at hX
    rw [Int.add_zero, Int.add_zero, jm, jm]
    exact hX)
  simpa [wlN, fm] using this
 have e3 : Ev (fun n => qc0 b n (instLs b b.Ab.Aa.length) 0) (linksL b, (b.Ab.Am.length : Int)) := by
  have hil := qiA h (jb _)
  have := loopF (Lf := qc0 b) (S := fun j => instLs b b.Ab.Aa.length ++ wireLs b j) (len := b.Ab.Am.length) (fin := (linksL b, (b.Ab.Am.length : Int))) (fun n => by
    simp only [qc0, qk (jb _), cond_false]
    rw [← hwl]; rfl)
   (fun j hj X hX => by
    have hwl2 := qnk h (j := j)
    obtain ⟨d1, d2⟩ := qjb hd hj
    obtain ⟨d3, d4⟩ := qnV.1 d2
    simp only [qc0, qj hj, cond_true, wS j, hd0]
    refine Ev.bind (qrV h d1 d3 d4) (Ev.bind (qmg hs) (Ev.bind (hL4 j _ (by omega) (by rw [je]; omega)) ?_))
    rw [jm, show wireLs b j ++ wlN b j (skL b j).length = wireLs b (j + 1) from qjw.symm]
    exact hX)
  simpa [wireLs, fm] using this
 unfold qeS
 exact Ev.bind e1 (Ev.bind e3 .done)
def lvB (br : List Int) (m : Nat) : List Bool := pre (fun k => !br.any fun y => y == (k : Int)) m
theorem qpJ {br : List Int} {m : Nat} : (lvB br m).length = m := qmX
theorem quA {br : List Int} {x : Int} (hl : br.length ≤ 1048576) : Ev (fun n => qkN n br x) (br.any fun y => y == x) := by
 have hL : Ev (fun n => qd6 br x n 0) (bif br.any (fun y => y == x) then .ret true else .nxt (br.length : Int)) := by
  have := qd1 (Lf := qd6 br x) (len := br.length) (f := fun j => !(gt br j == x)) (bad := true) (fin := .nxt (br.length : Int)) (Ev.succ (by simp only [qd6, qk (jb _), cond_false]; exact .done))
   (fun j hj X hX => Ev.succ (by
    simp only [qd6, qj hj, cond_true, qB hj, ja, wS j]
    cases gt br j == x
    ·exact hX
    ·exact .done))
  rw [qtf]
  refine this.cast ?_
  cases allN (fun j => !(gt br j == x)) br.length <;> rfl
 unfold qkN
 refine Ev.bind hL ?_
 cases br.any (fun y => y == x) <;> exact .done
theorem qnv {ls : List qq} {br : List Int} (h1 : ls.length ≤ 10000) (h2 : br.length ≤ 1048576) : Ev (fun n => qgA n ls br) (lvB br ls.length) := by
 have hL : Ev (fun n => qds ls br n ([] : List Bool) 0) (lvB br ls.length, (ls.length : Int)) := by
  refine loopF (Lf := qds ls br) (S := fun j => lvB br j) (len := ls.length) (fun n => ?_) (fun j hj X hX => ?_)
  ·simp only [qds, qk (jb _), cond_false]
  ·simp only [qds, qj hj, cond_true, wS j]
   refine Ev.bind (quA h2) ?_
   have e : appS (lvB br j) [!br.any fun y => y == (j : Int)] = some (lvB br (j + 1)) := qpw (f := fun k : Nat => !br.any fun y => y == (k : Int)) (by omega)
   rw [e]
   exact hX
 unfold qgA
 exact Ev.bind hL .done
def brB (br : List Int) (m : Nat) : Bool := (br.all fun x => inI x 0 ((m : Int) - 1)) && incB br
theorem qtD {v : Tview} {br : List Int} (h1 : v.links.length ≤ 10000) (hb : brB br v.links.length = true) : Ev (fun n => qf7 n (some v) br) (some ⟨some v, lvB br v.links.length⟩) := by
 unfold brB at hb
 rw [jc, qhQ, qag] at hb
 have hm : mkS (v.links.length : Int) false = some (pre (fun _ => false) v.links.length) := qou (by omega)
 generalize hM : v.links.length = M at h1 hb hm ⊢
 have hinc : ∀ j i, i < j → j < br.length → gt br i < gt br j := by
  intro j
  induction j with
  | zero => intro i hi _; omega
  | succ j ih =>
   intro i hi hj
   have hs := hb.2
   unfold incB at hs
   rw [qag] at hs
   have hs := hs (j + 1) hj
   unfold stepB at hs
   simp only [Bool.or_eq_true, decide_eq_true_eq, Nat.add_sub_cancel] at hs
   have hs' : gt br j < gt br (j + 1) := by
    rcases hs with hs | hs
    ·omega
    ·exact hs
   by_cases hij : i = j
   ·rw [hij]; exact hs'
   ·have := ih i (by omega) (by omega); omega
 have hlen : ∀ j, j < br.length → (j : Int) ≤ gt br j := by
  intro j
  induction j with
  | zero =>
   intro hj
   have := hb.1 0 hj
   rw [qa0] at this
   omega
  | succ j ih =>
   intro hj
   have := ih (by omega)
   have := hinc (j + 1) j (by omega) hj
   omega
 have hbl : br.length ≤ M := by
  by_cases h0 : br.length = 0
  ·omega
  ·have h2 := hlen (br.length - 1) (by omega)
   have h3 := hb.1 (br.length - 1) (by omega)
   rw [qa0] at h3
   omega
 have e1 : Ev (fun n => qbE (pre (fun _ => false) M) n (pre (fun _ => false) M) 0) (pre (fun _ => true) M, (M : Int)) := by
  have := loopF (Lf := qbE (pre (fun _ => false) M)) (S := fun j => pre (fun k => decide (k < j)) M) (len := M) (fin := (pre (fun _ => true) M, (M : Int))) (fun n => by
    simp only [qbE, qmX, qk (jb _), cond_false]
    rw [qgw (g := fun _ => true) fun k hk => decide_eq_true hk])
   (fun j hj X hX => by
    simp only [qbE, qmX, qj hj, cond_true, qhg (f := fun k => decide (k < j)) hj, ja, qnF, wS j]
    have : pre (fun k => decide (k < j + 1)) M = pre (fun k => if k = j then true else decide (k < j)) M := qgw fun k _ => by
     by_cases hk : k = j
     ·rw [if_pos hk, hk]; simp
     ·rw [if_neg hk, decide_eq_decide]; omega
    rw [this] at hX
    exact hX)
  simpa using this
 have e2 : Ev (fun n => qbG br n (pre (fun _ => true) M) 0) (lvB br M, (br.length : Int)) := by
  have := loopF (Lf := qbG br) (S := fun j => pre (fun k => !(br.take j).any fun y => y == (k : Int)) M) (len := br.length) (fin := (lvB br M, (br.length : Int))) (fun n => by
    simp only [qbG, qk (jb _), cond_false, jB]; rfl)
   (fun j hj X hX => by
    have hr := hb.1 j hj
    rw [qa0] at hr
    obtain ⟨a, ha⟩ : ∃ a : Nat, gt br j = (a : Int) := ⟨_, qfZ hr.1⟩
    have haM : a < M := by omega
    simp only [qbG, qj hj, cond_true, qB hj, ha, qhg (f := fun k => !(br.take j).any fun y => y == (k : Int)) haM, ja, qnF, wS j]
    have : pre (fun k => !(br.take (j + 1)).any fun y => y == (k : Int)) M = pre (fun k => if k = a then false else !(br.take j).any fun y => y == (k : Int)) M := qgw fun k _ => by
     rw [ju hj, List.any_append, ← qeU hj, ha]
     by_cases hk : k = a
     ·rw [if_pos hk, hk]; simp
     ·rw [if_neg hk]
      have : ((a : Int) == (k : Int)) = false := by simp; omega
      simp [this]
    rw [this] at hX
    exact hX)
  simpa using this
 unfold qf7
 simp only [ja, hM, hm]
 exact Ev.bind e1 (Ev.bind e2 .done)
theorem qu3 {br : List Int} {m : Nat} (hl : br.length ≤ 1048576) (hm : m ≤ 10000) : Ev (fun n => qh3 n br (m : Int)) (brB br m) := by
 have hL : Ev (fun n => qb1 br (m : Int) n 0) (bif allN (fun j => inI (gt br j) 0 ((m : Int) - 1) && stepB br j) br.length then .nxt (br.length : Int) else .ret false) := by
  refine qd1 (Lf := qb1 br (m : Int)) (len := br.length) (Ev.succ (by simp only [qb1, qk (jb _), cond_false]; exact .done)) (fun j hj X hX => Ev.succ ?_)
  simp only [qb1, qj hj, cond_true, qB hj, ja, qcA, wS j, wO ((m : Int) - 1)]
  cases h1 : inI (gt br j) 0 ((m : Int) - 1)
  ·exact .done
  ·refine Ev.ff rfl ?_
   by_cases h0 : j = 0
   ·subst h0
    exact Ev.ff rfl hX
   ·refine Ev.tt (decide_eq_true (by omega)) ?_
    rw [show (j : Int) - 1 = ((j - 1 : Nat) : Int) by omega, qav (by omega) (by omega), qB (show j - 1 < br.length by omega)]
    simp only [ja]
    have es : stepB br j = decide (gt br (j - 1) < gt br j) := by
     unfold stepB
     rw [decide_eq_false h0, Bool.false_or]
     rfl
    rw [es]
    by_cases hlt : gt br (j - 1) < gt br j
    ·rw [decide_eq_true hlt]
     exact Ev.ff (decide_eq_false (by omega)) hX
    ·rw [decide_eq_false hlt]
     exact Ev.tt (decide_eq_true (by omega)) .done
 unfold qh3
 refine Ev.bind hL ?_
 unfold brB incB
 rw [qhQ, ← qlm]
 cases allN (fun j => inI (gt br j) 0 ((m : Int) - 1) && stepB br j) br.length <;> exact .done
theorem qsC {v : Tview} {br : List Int} (hl : br.length ≤ 1048576) (hm : v.links.length ≤ 10000) : Ev (fun n => qea n (some v) br) (brB br v.links.length) := by
 unfold qea qcR brB
 simp only [ja, wO ((v.links.length : Int) - 1)]
 exact Ev.and (qeG hl) fun _ => Ev.last (ql1 hl)
theorem qtx {b : qf} {br : List Int} (hok : qlb b) (h : blockB b = true) (hl : br.length ≤ 1048576) : Ev (fun n => qgJ n b br) (bif brB br (linksL b).length then 0 else 2) := by
 unfold qgJ
 refine Ev.bind (qoR hok) (Ev.ff (by rw [h]; rfl) (Ev.bind (qiZ h) (Ev.bind (qu3 hl (qhw h)) ?_)))
 cases brB br (linksL b).length <;> exact .done
end Go.Fw


namespace Go.Fw
open Go
set_option maxRecDepth 100000
theorem qrZ {α : Type} {f : Nat → List α} {n : Nat} {x : α} (h : x ∈ fm f n) : ∃ j, j < n ∧ x ∈ f j := by
 unfold fm at h
 obtain ⟨j, h1, h2⟩ := List.mem_flatMap.1 h
 exact ⟨j, List.mem_range.1 h1, h2⟩
theorem qt3 {x : Int} {j : Nat} {t : Int} (ht : b01 t) (hj : j ≤ 100000) (e : x = 2 * (j : Int) + t) : W64 (x.tdiv 2) = (j : Int) ∧ x.tmod 2 = t := by
 have ht' : 0 ≤ t ∧ t ≤ 1 := by rcases ht with e | e <;> omega
 have hx : 0 ≤ x := by omega
 rw [jJ hx, Int.tmod_eq_emod_of_nonneg hx, qav (by omega) (by omega)]
 omega
structure CLk (b : qf) (x : qq) (i j m net a : Nat) : Prop where
 kind : x.Be = 1
 il : i < b.Ab.Aa.length
 jl : j < (places b.Ab).length
 inst : (gt (places b.Ab) j).instance_ = (i : Int)
 net_ : (gt (places b.Ab) j).net = (net : Int)
 nl : net < b.Ac.length
 half : W64 (x.To.tdiv 2) = (j : Int)
 mod : x.To.tmod 2 = (m : Int)
 ml : m < 2
 ix : x.Bz = (a : Int)
 al : a < (cellAt b (i : Int)).Ar.length
 d2 : (gt (cellAt b (i : Int)).Ar a).Bp.length = 2
 s2 : (gt (cellAt b (i : Int)).Ar a).Bd.length = 2
 dt : ∀ t, t ∈ (gt (cellAt b (i : Int)).Ar a).Bp → TbOk t ∧ ∀ k, 0 ≤ at0 t.Bh k
 st : ∀ t, t ∈ (gt (cellAt b (i : Int)).Ar a).Bd → TbOk t ∧ ∀ k, 0 ≤ at0 t.Bh k
structure WLk (b : qf) (x : qq) (j net k : Nat) : Prop where
 kind : x.Be = 2
 jl : j < (places b.Ab).length
 net_ : (gt (places b.Ab) j).net = (net : Int)
 nl : net < b.Ac.length
 half : W64 (x.To.tdiv 2) = (j : Int)
 ix : x.Bz = (k : Int)
 kl : k < (gt b.Ac net).Bl.length
theorem qx1 {xs : List Int} (h : 0 ≤ mnL xs) (k : Nat) : 0 ≤ at0 xs k := by
 have fold : ∀ (ys : List Int) (a : Int), (ys.foldl (fun (m y : Int) => if y < m then y else m) a ≤ a) ∧ ∀ y, y ∈ ys → ys.foldl (fun (m y : Int) => if y < m then y else m) a ≤ y := by
  intro ys
  induction ys with
  | nil => intro a; exact ⟨jV _, fun y hy => by cases hy⟩
  | cons z ys ih =>
   intro a
   rw [List.foldl_cons]
   obtain ⟨h1, h2⟩ := ih (if z < a then z else a)
   refine ⟨?_, fun y hy => ?_⟩
   ·split at h1 <;> split <;> omega
   ·rcases List.mem_cons.1 hy with e | e
    ·subst e; split at h1 <;> split <;> omega
    ·exact h2 y e
 by_cases hk : k < xs.length
 ·have hm : xs[k] ∈ xs.drop 1 ∨ k = 0 := by
   by_cases h0 : k = 0
   ·exact .inr h0
   ·refine .inl ?_
    have : xs[k] = (xs.drop 1)[k - 1]'(by rw [List.length_drop]; omega) := by
     rw [List.getElem_drop]
     congr 1; omega
    rw [this]
    exact jp _
  rw [qkg hk]
  unfold mnL at h
  rcases hm with hm | h0
  ·exact Int.le_trans h ((fold _ _).2 _ hm)
  ·subst h0
   have := (fold (xs.drop 1) (at0 xs 0)).1
   rw [← qkg hk]
   exact Int.le_trans h this
 ·rw [qt1 hk]; exact jV _
theorem qqm {ts : List qv} (h : tablesB ts true = true) : ts.length = 2 ∧ ∀ t, t ∈ ts → TbOk t ∧ ∀ k, 0 ≤ at0 t.Bh k := by
 unfold tablesB at h
 rw [jc, decide_eq_true_eq, jL] at h
 refine ⟨h.1, fun t ht => ?_⟩
 have := h.2 t ht
 unfold tabB at this
 simp only [jW, Bool.false_or, jc, decide_eq_true_eq] at this
 exact ⟨quL this.1, qx1 this.2⟩
theorem qtd {ps : List qap} {a : qO} (h : arcS ps a = true) (h3 : a.Be ≤ 3) (h1 : 1 ≤ a.Be) : a.To = (ps.length : Int) - 1 ∧ tablesB a.Bp true = true ∧ tablesB a.Bd true = true := by
 unfold arcS at h
 rcases (by omega : a.Be = 1 ∨ a.Be = 2 ∨ a.Be = 3) with e | e | e
 ·rw [e] at h
  simp only [beq_self_eq_true, cond_true, jc, beq_iff_eq] at h
  exact ⟨h.2.2.1, h.2.2.2.2⟩
 ·rw [e] at h
  simp only [show ((2 : Int) == 1) = false from rfl, cond_false, beq_self_eq_true, Bool.true_or, cond_true, jc, beq_iff_eq] at h
  exact ⟨h.2.2.1, h.2.2.2.2⟩
 ·rw [e] at h
  simp only [show ((3 : Int) == 1) = false from rfl, cond_false, beq_self_eq_true, Bool.or_true, cond_true, jc, beq_iff_eq] at h
  exact ⟨h.2.2.1, h.2.2.2.2⟩
theorem qsz {a : qO} {t : qH} (h : t ∈ transL a) : 1 ≤ a.Be ∧ a.Be ≤ 3 := by
 refine ⟨?_, ?_⟩ <;> refine Int.le_of_not_gt fun hg => ?_
 ·have : arcLs 0 0 a = [] := by
   unfold arcLs transL
   rw [show (a.Be == 2) = false from beq_eq_false_iff_ne.2 (by omega), show (a.Be == 3) = false from beq_eq_false_iff_ne.2 (by omega), show (a.Be != 1) = true from bne_iff_ne.2 (by omega)]
   rfl
  unfold arcLs at this
  rw [List.map_eq_nil_iff] at this
  rw [this] at h; cases h
 ·have : arcLs 0 0 a = [] := qoZ hg
  unfold arcLs at this
  rw [List.map_eq_nil_iff] at this
  rw [this] at h; cases h
theorem qjX {b : qf} (h : blockB b = true) {x : qq} (hx : x ∈ linksL b) : ((∃ i j m net a, CLk b x i j m net a) ∨ ∃ j net k, WLk b x j net k) ∧ (0 ≤ x.Bk ∧ x.Bk < 2 * ((places b.Ab).length : Int)) ∧ (0 ≤ x.To ∧ x.To < 2 * ((places b.Ab).length : Int)) := by
 have hd := qaE h
 have hs := qaj hd
 have hl := qbH hs
 have hwl := qlJ h
 unfold linksL at hx
 rcases List.mem_append.1 hx with hx | hx
 ·obtain ⟨i, hi, hx⟩ := qrZ hx
  obtain ⟨a, ha, hx⟩ := qrZ hx
  unfold arcLs at hx
  obtain ⟨t, ht, rfl⟩ := List.mem_map.1 hx
  obtain ⟨⟨c0, c1⟩, hnl, hcb⟩ := qgx hd hi
  have hcA : cellAt b (i : Int) = gt b.Av.Aq (gt b.Ab.Aa i).Bs.toNat := rfl
  rw [← hcA] at hnl hcb
  obtain ⟨⟨k1, k5⟩, hf, hto, hA⟩ := qmo hcb ha
  obtain ⟨g1, g3⟩ := qsz ht
  obtain ⟨t0, t1⟩ := qrm ht
  obtain ⟨eT, tD, tS⟩ := qtd hA g3 g1
  obtain ⟨d2, dt⟩ := qqm tD
  obtain ⟨s2, st⟩ := qqm tS
  have hpb := (qgr (qiB hcb)).1
  have hk : (cellAt b (i : Int)).Bc.length - 1 < (gt b.Ab.Aa i).Am.length := by omega
  obtain ⟨hj, ej⟩ := qjN hi hk
  obtain ⟨n0, n1⟩ := qlx hd hj
  have e1 : (al1 (off b.Ab i : Int) a (gt (cellAt b (i : Int)).Ar a) t).To = 2 * ((off b.Ab i + ((cellAt b (i : Int)).Bc.length - 1) : Nat) : Int) + t.e1 := by
   show 2 * ((off b.Ab i : Int) + (gt (cellAt b (i : Int)).Ar a).To) + t.e1 = _
   rw [eT]; omega
  obtain ⟨hh, hm⟩ := qt3 t1 (by omega) e1
  obtain ⟨m, em⟩ : ∃ m : Nat, t.e1 = (m : Int) := ⟨t.e1.toNat, by rcases t1 with e | e <;> omega⟩
  have hfr : off b.Ab i + (gt (cellAt b (i : Int)).Ar a).Bk.toNat < (places b.Ab).length := (qjN hi (k := (gt (cellAt b (i : Int)).Ar a).Bk.toNat) (by omega)).1
  have e2 : (al1 (off b.Ab i : Int) a (gt (cellAt b (i : Int)).Ar a) t).Bk = 2 * ((off b.Ab i : Int) + (gt (cellAt b (i : Int)).Ar a).Bk) + t.e0 := rfl
  refine ⟨.inl ⟨i, _, m, (gt (places b.Ab) (off b.Ab i + ((cellAt b (i : Int)).Bc.length - 1))).net.toNat, a, ⟨rfl, hi, hj, by rw [ej]; rfl, qfZ n0, by omega, hh, by rw [hm, em], by rcases t1 with e | e <;> omega, rfl, ha, d2, s2, dt, st⟩⟩, ?_, ?_⟩
  ·rw [e2]
   rcases t0 with e | e <;> rw [e] <;> omega
  ·rw [e1]
   rcases t1 with e | e <;> rw [e] <;> omega
 ·obtain ⟨i, hi, hx⟩ := qrZ hx
  obtain ⟨k, hk, hx⟩ := qrZ hx
  obtain ⟨y, hy, ey, hq⟩ := qop hk
  have hdv := (qjb hd (k := i) (by omega)).1
  have hw := qbl h hi
  have hq' : (gt (places b.Ab) y).net = (i : Int) := by
   unfold snkQ at hq
   simp only [jc, beq_iff_eq] at hq
   exact hq.1
  have main : ∀ t : Int, b01 t → x = ⟨2 * (dvN b.Ab i : Int) + t, 2 * at0 (skL b i) k + t, 2, (k : Int)⟩ → ((∃ i j m net a, CLk b x i j m net a) ∨ ∃ j net k, WLk b x j net k) ∧ (0 ≤ x.Bk ∧ x.Bk < 2 * ((places b.Ab).length : Int)) ∧ (0 ≤ x.To ∧ x.To < 2 * ((places b.Ab).length : Int)) := by
   intro t ht e
   have e1 : x.To = 2 * (y : Int) + t := by rw [e, ey]
   have e2 : x.Bk = 2 * (dvN b.Ab i : Int) + t := by rw [e]
   obtain ⟨hh, hm⟩ := qt3 ht (by omega) e1
   refine ⟨.inr ⟨y, i, k, ⟨by rw [e], hy, hq', hi, hh, by rw [e], by rw [hw.snk]; exact hk⟩⟩, ?_, ?_⟩
   ·rw [e2]
    rcases ht with e | e <;> rw [e] <;> omega
   ·rw [e1]
    rcases ht with e | e <;> rw [e] <;> omega
  unfold wl1 at hx
  simp only [jQ, jF, or_false] at hx
  rcases hx with hx | hx
  ·exact main 0 (.inl rfl) (by rw [hx, Int.add_zero, Int.add_zero])
  ·exact main 1 (.inr rfl) hx
theorem qny {α : Type} [Inhabited α] {xs : List α} {k : Nat} (h : k < xs.length) : gt xs k ∈ xs := by rw [qeU h]; exact jp h
theorem qmP {b : qf} (h : blockB b = true) : LkOk (linksL b) (2 * (places b.Ab).length) where
 len := qhw h
 nodes := by have := qbH (qaj (qaE h)); omega
 fr0 := fun x hx => (qjX h (qny hx)).2.1.1
 fr1 := fun x hx => by have := (qjX h (qny hx)).2.1.2; omega
 to0 := fun x hx => (qjX h (qny hx)).2.2.1
 to1 := fun x hx => by have := (qjX h (qny hx)).2.2.2; omega
theorem qq9 {c : qu} (h : cornerB c = true) {kind mode : Int} : ∃ f : Int, 100 ≤ f ∧ f ≤ 5000 ∧ (∀ n, qgg n c kind mode = some f) ∧ ∀ n, qd8 n c kind mode = some f := by
 unfold cornerB at h
 simp only [jc, qa0, decide_eq_true_eq] at h
 obtain ⟨⟨h1, h2, h3, h4⟩, _⟩ := h
 unfold qgg qd8
 cases kind == 1
 ·cases mode == 0
  ·exact ⟨_, h4.1, h4.2, fun _ => rfl, fun _ => rfl⟩
  ·exact ⟨_, h3.1, h3.2, fun _ => rfl, fun _ => rfl⟩
 ·cases mode == 0
  ·exact ⟨_, h2.1, h2.2, fun _ => rfl, fun _ => rfl⟩
  ·exact ⟨_, h1.1, h1.2, fun _ => rfl, fun _ => rfl⟩
theorem qsh {p f mode : Int} (p0 : 0 ≤ p) (p1 : p ≤ 400000000000) (f0 : 0 ≤ f) (f1 : f ≤ 5000) : (∀ n, qcc n (W64 (p * f)) 1000 mode = some (divI (p * f) 1000 mode)) ∧ ∀ n, qj8 n p f mode = some (divI (p * f) 1000 mode) := by
 have h0 := jK p0 f0
 have h1 : p * f ≤ 400000000000 * 5000 := jR p1 f1 f0 (by omega)
 have e : W64 (p * f) = p * f := qav (by omega) (by omega)
 have hd := fun n => qkc (n := n) (a := p * f) (b := 1000) (mode := mode) (by omega) (by omega) (by omega)
 refine ⟨fun n => by rw [e]; exact hd n, fun n => ?_⟩
 unfold qj8
 rw [e, qrH (m := 0), hd 0]
 rfl
theorem qv3 {l h H : Int} (h0 : 0 ≤ l) (h1 : l < h) (h2 : h ≤ H) (hH : H ≤ 3000000000) : W64 (W64 (W64 (l + h) + 1) |>.tdiv 2) = (l + h + 1) / 2 ∧ W64 ((l + h + 1) / 2 * ((l + h + 1) / 2)) = (l + h + 1) / 2 * ((l + h + 1) / 2) ∧ W64 ((l + h + 1) / 2 - 1) = (l + h + 1) / 2 - 1 := by
 have hm : 0 ≤ (l + h + 1) / 2 ∧ (l + h + 1) / 2 ≤ 3000000000 := by omega
 have hq : (l + h + 1) / 2 * ((l + h + 1) / 2) ≤ 3000000000 * 3000000000 := jR hm.2 hm.2 hm.1 (by omega)
 have hq0 := jK hm.1 hm.1
 rw [wO (l + h), wO (l + h + 1), jJ (by omega), wO ((l + h + 1) / 2), wO ((l + h + 1) / 2 - 1)]
 exact ⟨rfl, qav (by omega) (by omega), rfl⟩
theorem qvN {y mode : Int} (h0 : 0 ≤ y) (h1 : y ≤ 4000000000000000000) : ∃ v, IsRoot y v ∧ v ≤ 2000000000 ∧ Ev (fun n => qil n y mode) (if mode = 1 ∧ v * v < y then v + 1 else v) := by
 obtain ⟨v, r1, r2, r3⟩ := qra (Lf := fun n l h => qdp y n l h) (fin := fun l => (l, l)) (x := y) (H := 2000000000) h0 (by omega) (by omega)
  (fun n l _ _ => by simp only [qdp, show decide (l < l) = false from decide_eq_false (Int.lt_irrefl l), cond_false])
  (fun n l h hl hlt hh => by
   obtain ⟨e1, e2, e3⟩ := qv3 hl hlt hh (by omega)
   simp only [qdp, decide_eq_true hlt, cond_true, e1, e2, e3])
 refine ⟨v, r1, r2, ?_⟩
 unfold qil
 refine Ev.bind r3 ?_
 have hv := r1.pos
 have hq : v * v ≤ 2000000000 * 2000000000 := jR r2 r2 hv (by omega)
 have hq0 := jK hv hv
 simp only [wO (v * v), wO (v + 1)]
 by_cases hm : mode = 1
 ·refine Ev.tt (by simpa using hm) ?_
  by_cases hl : v * v < y
  ·rw [if_pos ⟨hm, hl⟩]; exact Ev.tt (decide_eq_true hl) .done
  ·rw [if_neg fun h => hl h.2]; exact Ev.ff (decide_eq_false hl) .done
 ·rw [if_neg fun h => hm h.1]
  exact Ev.ff (by simpa using hm) .done
theorem qvS {y : Int} (h0 : 0 ≤ y) (h1 : y ≤ 4000000000000000000) : ∃ v, IsRoot y v ∧ v ≤ 3000000000 ∧ Ev (fun n => qm3 n y) v := by
 obtain ⟨v, r1, r2, r3⟩ := qra (Lf := fun n l h => qfq y n l h) (fin := fun l => (l, l)) (x := y) (H := 3000000000) h0 (by omega) (by omega)
  (fun n l _ _ => by simp only [qfq, show decide (l < l) = false from decide_eq_false (Int.lt_irrefl l), cond_false])
  (fun n l h hl hlt hh => by
   obtain ⟨e1, e2, e3⟩ := qv3 hl hlt hh (by omega)
   simp only [qfq, decide_eq_true hlt, cond_true, e1, e2, e3])
 refine ⟨v, r1, r2, ?_⟩
 unfold qm3
 exact Ev.bind r3 .done
theorem qus {sl d mode : Int} (s0 : 0 ≤ sl) (s1 : sl ≤ 1000000) (d0 : 0 ≤ d) (d1 : d ≤ 344000000) (hm : mode = 0 ∨ mode = 1) : ∃ r : Int, 0 ≤ r ∧
  Ev (fun n => (qil n (W64 (W64 (W64 (1000000 * sl) * sl) + W64 (W64 (4 * d) * d))) mode).bind fun r2 => (qcc n r2 1000 mode).bind fun r3 => some r3) r ∧ Ev (fun n => qiM n sl d mode) r := by
 have q1 := jK s0 s0
 have q2 : sl * sl ≤ 1000000 * 1000000 := jR s1 s1 s0 (by omega)
 have q3 := jK d0 d0
 have q4 : d * d ≤ 344000000 * 344000000 := jR d1 d1 d0 (by omega)
 have e1 : W64 (W64 (W64 (1000000 * sl) * sl) + W64 (W64 (4 * d) * d)) = 4 * (250000 * (sl * sl) + d * d) := by
  rw [wO (1000000 * sl), wO (4 * d), jP 1000000, jP 4, wO (1000000 * (sl * sl)), wO (4 * (d * d)), qav (by omega) (by omega)]
  omega
 have e2 : W64 (W64 (W64 (W64 (500 * sl) * 500) * sl) + W64 (d * d)) = 250000 * (sl * sl) + d * d := by
  rw [wO (500 * sl), wO (500 * sl * 500), show 500 * sl * 500 * sl = 250000 * (sl * sl) by rw [← jP]; congr 1; omega, wO (250000 * (sl * sl)), wO (d * d), qav (by omega) (by omega)]
 obtain ⟨v, v1, v2, v3⟩ := qvN (mode := mode) (y := 4 * (250000 * (sl * sl) + d * d)) (by omega) (by omega)
 obtain ⟨w, w1, w2, w3⟩ := qvS (y := 250000 * (sl * sl) + d * d) (by omega) (by omega)
 have hr := qtj w1 v1 hm
 have hv := v1.pos
 have hw := w1.pos
 have hv1 : 0 ≤ (if mode = 1 ∧ v * v < 4 * (250000 * (sl * sl) + d * d) then v + 1 else v) ∧ (if mode = 1 ∧ v * v < 4 * (250000 * (sl * sl) + d * d) then v + 1 else v) ≤ 1000 * 3000000 := by split <;> omega
 refine ⟨_, (qr0 (b := 1000) (mode := mode) (M := 3000000) (by omega) hv1.1 hv1.2).1, ?_, ?_⟩
 ·rw [e1]
  exact Ev.bind v3 (Ev.bind ⟨0, fun n _ => qkc (by omega) (by omega) (by omega)⟩ .done)
 ·rw [hr]
  unfold qiM
  rw [e2]
  refine Ev.bind w3 ?_
  have hq : w * w ≤ 3000000000 * 3000000000 := jR w2 w2 hw (by omega)
  have hq0 := jK hw hw
  have ed : (fun n => qes n w 500 mode) = fun _ => some (divI w 500 mode) := by
   funext n
   rw [qrH (m := 0), qkc (by omega) (by omega) (by omega)]
  have hdv := congrFun ed
  simp only [wO (w * w), jJ hw, wO (w / 500), wO (w / 500 + 1), hdv, ja]
  rcases hm with rfl | rfl
  ·rw [if_neg (by omega)]
   exact .done
  ·by_cases hl : w * w < 250000 * (sl * sl) + d * d
   ·rw [if_pos ⟨rfl, hl⟩, decide_eq_true hl]; exact .done
   ·rw [if_neg fun h => hl h.2, decide_eq_false hl]; exact .done
theorem qsL {t : qv} (h : TbOk t ∧ ∀ k, 0 ≤ at0 t.Bh k) (sl ld mode : Int) : ∃ r : Int, 0 ≤ r ∧ r ≤ 1000000 ∧ Ev (fun n => qgE n t sl ld mode) r ∧ Ev (fun n => qdl n t sl ld mode) r := by
 obtain ⟨S, D, D0, S1, _, _, _, S0, hev⟩ := qwT h.1 sl ld
 obtain ⟨r0, r1⟩ := qr0 (mode := mode) D0 (S0 h.2) S1
 exact ⟨_, r0, r1, hev mode⟩
theorem qvZ {b : qf} {x : qq} {j net : Nat} (jl : j < (places b.Ab).length) (hn : (gt (places b.Ab) j).net = (net : Int)) (hh : W64 (x.To.tdiv 2) = (j : Int)) (n : Nat) : qen n (some (viewV b)) x = some (net : Int) := by
 unfold qen
 show (idx (places b.Ab) (W64 (x.To.tdiv 2))).bind _ = _
 rw [hh, qB jl]
 exact congrArg some hn
theorem qvr {b : qf} (h : blockB b = true) {x : qq} {i j m net a : Nat} (hx : CLk b x i j m net a) (n : Nat) : qfG n (some (viewV b)) x = some (gt (cellAt b (i : Int)).Ar a) := by
 obtain ⟨⟨c0, c1⟩, _, _⟩ := qgx (qaE h) hx.il
 unfold qfG
 show (idx (places b.Ab) (W64 (x.To.tdiv 2))).bind (fun y2 => (idx b.Ab.Aa y2.instance_).bind fun y3 => (idx b.Av.Aq y3.Bs).bind fun y4 => (idx y4.Ar x.Bz).bind fun y5 => some y5) = _
 rw [hx.half, qB hx.jl, ja, hx.inst, qB hx.il, ja, qdd c0 c1, ja, hx.ix]
 show (idx (cellAt b (i : Int)).Ar (a : Int)).bind _ = _
 rw [qB hx.al]; rfl
theorem qrb {b : qf} (h : blockB b = true) {x : qq} {i j m net a : Nat} (hx : CLk b x i j m net a) : Ev (fun n => qiV n b x) (gt (cellAt b (i : Int)).Ar a, load0 b net) := by
 have hd := qaE h
 have hs := qaj hd
 obtain ⟨⟨c0, c1⟩, _, _⟩ := qgx hd hx.il
 have hp : idx ((places b.Ab).map toSp) (j : Int) = some (toSp (gt (places b.Ab) j)) := by
  refine qaw ?_
  rw [List.getElem?_map, jf hx.jl, qeU hx.jl]; rfl
 have hll := qlF h hx.nl
 have hlo := (qbl h hx.nl).lo
 have h1 : (toSp (gt (places b.Ab) j)).instance_ = (i : Int) := hx.inst
 have h2 : (toSp (gt (places b.Ab) j)).net = (net : Int) := hx.net_
 have h3 : idx (gt b.Av.Aq (gt b.Ab.Aa i).Bs.toNat).Ar (a : Int) = some (gt (cellAt b (i : Int)).Ar a) := qB hx.al
 unfold qiV
 refine Ev.bind (qht hs) ?_
 simp only [hx.half, hp, ja, h1, h2, qB hx.il, qdd c0 c1, hx.ix, h3]
 refine Ev.bind (qoV h hx.nl) ?_
 rw [show idx (loadsL b net) (0 : Int) = some (load0 b net) from qB (j := 0) (by omega)]
 exact .done
theorem qrk {b : qf} (h : blockB b = true) {x : qq} {j net k : Nat} (hx : WLk b x j net k) : Ev (fun n => qja n b x) (net : Int) := by
 have hs := qaj (qaE h)
 have hp : idx ((places b.Ab).map toSp) (j : Int) = some (toSp (gt (places b.Ab) j)) := by
  refine qaw ?_
  rw [List.getElem?_map, jf hx.jl, qeU hx.jl]; rfl
 have h2 : (toSp (gt (places b.Ab) j)).net = (net : Int) := hx.net_
 unfold qja
 refine Ev.bind (qht hs) ?_
 simp only [hx.half, hp, ja, h2]
 exact .done
theorem qpA {b : qf} {c : qu} (h : blockB b = true) (hc : cornerB c = true) {k : Nat} (hk : k < (linksL b).length) {sl mode : Int} (s0 : 0 ≤ sl) (s1 : sl ≤ 1000000) (hm : mode = 0 ∨ mode = 1) :
  (∃ D : Int, Ev (fun n => qdN n b c (gt (linksL b) k) sl mode) D ∧ Ev (fun n => qcI n (some (viewV b)) c (k : Int) sl mode) D) ∧
  ∃ S : Int, 0 ≤ S ∧ S ≤ 1000000 ∧ Ev (fun n => qeI n b (gt (linksL b) k) sl mode) S ∧ Ev (fun n => qdb n (some (viewV b)) (k : Int) sl mode) S := by
 have hv : idx (viewV b).links (k : Int) = some (gt (linksL b) k) := qB hk
 obtain ⟨hx, _⟩ := qjX h (qny hk)
 generalize gt (linksL b) k = x at hx hv
 rcases hx with ⟨i, j, m, net, a, hx⟩ | ⟨j, net, q, hx⟩
 ·have hnet := qvZ hx.jl hx.net_ hx.half
  have harc := qvr h hx
  have hld : idx (viewV b).loads (net : Int) = some (load0 b net) := qhg (f := load0 b) hx.nl
  obtain ⟨f, f0, f1, sF, iF⟩ := qq9 hc (kind := x.Be) (mode := mode)
  have dl : m < (gt (cellAt b (i : Int)).Ar a).Bp.length := by rw [hx.d2]; exact hx.ml
  have sL : m < (gt (cellAt b (i : Int)).Ar a).Bd.length := by rw [hx.s2]; exact hx.ml
  obtain ⟨r, r0, r1, rs, ri⟩ := qsL (hx.dt _ (qny dl)) sl (load0 b net) mode
  obtain ⟨u, u0, u1, us, ui⟩ := qsL (hx.st _ (qny sL)) sl (load0 b net) mode
  obtain ⟨c1, c2⟩ := qsh (mode := mode) r0 (by omega) (show 0 ≤ f by omega) f1
  have hk1 : (x.Be == 1) = true := by rw [hx.kind]; rfl
  refine ⟨⟨divI (r * f) 1000 mode, ?_, ?_⟩, ⟨u, u0, u1, ?_, ?_⟩⟩
  ·unfold qdN
   refine Ev.tt hk1 (Ev.bind (qrb h hx) ?_)
   simp only [hx.mod, qB dl, ja, sF]
   exact Ev.bind rs (Ev.bind ⟨0, fun n _ => c1 n⟩ .done)
  ·unfold qcI
   simp only [ja, hv, hnet, hld, harc, hx.mod, qB dl, iF]
   exact Ev.tt hk1 (Ev.bind ri (Ev.bind ⟨0, fun n _ => c2 n⟩ .done))
  ·unfold qeI
   refine Ev.tt hk1 (Ev.bind (qrb h hx) ?_)
   simp only [hx.mod, qB sL, ja]
   exact Ev.bind us .done
  ·unfold qdb
   simp only [ja, hv, hnet, hld, harc, hx.mod, qB sL]
   refine Ev.tt hk1 (Ev.bind ui (Ev.now ?_))
   rw [if_neg (by omega)]
 ·have hnet := qvZ hx.jl hx.net_ hx.half
  have hde : idx (viewV b).delays (net : Int) = some (exactL b net) := qhg (f := exactL b) hx.nl
  have hel : (exactL b net).length = (gt b.Ac net).Bl.length := by unfold exactL; rw [jv]
  have hq : q < (exactL b net).length := by rw [hel]; exact hx.kl
  obtain ⟨x0, x1⟩ := qqn h hx.nl hx.kl
  obtain ⟨f, f0, f1, sF, iF⟩ := qq9 hc (kind := x.Be) (mode := mode)
  have dd := fun n => qkc (n := n) (a := gt (exactL b net) q) (b := 1000) (mode := mode) (by omega) (by omega) (by omega)
  obtain ⟨p0, p1⟩ := qr0 (a := gt (exactL b net) q) (b := 1000) (mode := mode) (M := 344000) (by omega) x0 (by omega)
  obtain ⟨c1, c2⟩ := qsh (mode := mode) p0 (by omega) (show 0 ≤ f by omega) f1
  have hk1 : (x.Be == 1) = false := by rw [hx.kind]; rfl
  have hi : idx ((exactL b net).map fun x => divI x 1000 mode) (q : Int) = some (divI (gt (exactL b net) q) 1000 mode) := by
   rw [qB (by rw [jv]; exact hq), qon hq]
  obtain ⟨u, u0, us, ui⟩ := qus s0 s1 x0 x1 hm
  refine ⟨⟨divI (divI (gt (exactL b net) q) 1000 mode * f) 1000 mode, ?_, ?_⟩, ⟨if u < 1000000 then u else 1000000, by split <;> omega, by split <;> omega, ?_, ?_⟩⟩
  ·unfold qdN
   refine Ev.ff hk1 (Ev.bind (qrk h hx) (Ev.bind (qoz h hx.nl) ?_))
   simp only [hx.ix, hi, ja, sF]
   exact Ev.bind ⟨0, fun n _ => c1 n⟩ .done
  ·unfold qcI
   simp only [ja, hv, hnet, hde, hx.ix, qB hq, iF]
   refine Ev.ff hk1 (Ev.bind (b := divI (gt (exactL b net) q) 1000 mode) ⟨0, fun n _ => (qrH (m := 0)).trans (dd 0)⟩ (Ev.bind ⟨0, fun n _ => c2 n⟩ .done))
  ·have hw := qbl h hx.nl
   have hsn := hw.sin q hx.kl
   have hdl := qmm h hx.nl
   have eg : gt (exactL b net) q = gt (delaysL b net) (at0 (gt b.Ac net).Bl q).toNat := by
    unfold exactL
    rw [qeU (by rw [jv]; exact hx.kl), List.getElem_map, qkg hx.kl]
   unfold qeI qlD
   refine Ev.ff hk1 (Ev.bind (qrk h hx) ?_)
   simp only [hx.ix, qB hx.nl, ja, qaf hx.kl]
   refine Ev.bind (b := u) (Ev.bind (qn3 h hx.nl) ?_) .done
   rw [qdd hsn.1 (show at0 (gt b.Ac net).Bl q < ((delaysL b net).length : Int) by omega)]
   simp only [ja]
   rw [← eg]
   exact us
  ·unfold qdb
   simp only [ja, hv, hnet, hde, hx.ix, qB hq]
   refine Ev.ff hk1 (Ev.bind ui (Ev.now ?_))
   congr 1
   split <;> split <;> omega
end Go.Fw


namespace Go.Fw
open Go
set_option maxRecDepth 100000
def slR (s : qh) : Prop := (0 ≤ s.Ap ∧ s.Ap ≤ 1000000) ∧ (0 ≤ s.Bf ∧ s.Bf ≤ 1000000)
def SpansOk (b : qf) (c : qu) (f : Nat → qh → qh × qh) : Prop :=
 ∀ k s, k < (linksL b).length → slR s → slR (f k s).2 ∧ Ev (fun n => qhf n b c (gt (linksL b) k) s) (f k s) ∧ Ev (fun n => qfD n (some (viewV b)) c (k : Int) s) (f k s)
theorem qvl {b : qf} {c : qu} (h : blockB b = true) (hc : cornerB c = true) : ∃ f, SpansOk b c f := by
 have main : ∀ x : Nat × qh, ∃ r : qh × qh, x.1 < (linksL b).length → slR x.2 → slR r.2 ∧ Ev (fun n => qhf n b c (gt (linksL b) x.1) x.2) r ∧ Ev (fun n => qfD n (some (viewV b)) c (x.1 : Int) x.2) r := by
  rintro ⟨k, s⟩
  by_cases hk : k < (linksL b).length ∧ slR s
  ·obtain ⟨hk, ⟨e0, e1⟩, ⟨l0, l1⟩⟩ := hk
   obtain ⟨⟨d1, p1, q1⟩, ⟨u1, a1, b1, v1, w1⟩⟩ := qpA h hc hk e0 e1 (mode := 0) (.inl rfl)
   obtain ⟨⟨d2, p2, q2⟩, ⟨u2, a2, b2, v2, w2⟩⟩ := qpA h hc hk e0 e1 (mode := 1) (.inr rfl)
   obtain ⟨⟨d3, p3, q3⟩, ⟨u3, a3, b3, v3, w3⟩⟩ := qpA h hc hk l0 l1 (mode := 0) (.inl rfl)
   obtain ⟨⟨d4, p4, q4⟩, ⟨u4, a4, b4, v4, w4⟩⟩ := qpA h hc hk l0 l1 (mode := 1) (.inr rfl)
   refine ⟨(⟨if d3 < d1 then d3 else d1, if d4 > d2 then d4 else d2⟩, ⟨if u3 < u1 then u3 else u1, if u4 > u2 then u4 else u2⟩), fun _ _ => ⟨⟨?_, ?_⟩, ?_, ?_⟩⟩
   ·show 0 ≤ (if u3 < u1 then u3 else u1) ∧ (if u3 < u1 then u3 else u1) ≤ 1000000
    split <;> omega
   ·show 0 ≤ (if u4 > u2 then u4 else u2) ∧ (if u4 > u2 then u4 else u2) ≤ 1000000
    split <;> omega
   ·unfold qhf
    exact Ev.bind p1 (Ev.bind p2 (Ev.bind v1 (Ev.bind v2 (Ev.bind p3 (Ev.bind p4 (Ev.bind v3 (Ev.bind v4 .done)))))))
   ·unfold qfD
    refine Ev.bind q1 (Ev.bind q3 (Ev.bind q2 (Ev.bind q4 ?_)))
    have hv : idx (viewV b).links (k : Int) = some (gt (linksL b) k) := qB hk
    simp only [ja, hv]
    refine Ev.bind (b := false) (Ev.now rfl) (Ev.bind (b := (if d3 < d1 then d3 else d1, if d4 > d2 then d4 else d2)) (Ev.now rfl) ?_)
    exact Ev.bind w1 (Ev.bind w3 (Ev.bind w2 (Ev.bind w4 .done)))
  ·exact ⟨(s, s), fun h1 h2 => absurd ⟨h1, h2⟩ hk⟩
 obtain ⟨f, hf⟩ := Classical.axiomOfChoice main
 exact ⟨fun k s => f (k, s), fun k s h1 h2 => hf (k, s) h1 h2⟩
def zSp : qh := ⟨0, 0⟩
def zSrc : qe := ⟨0, zSp, zSp⟩
def hullS (s t : qh) : qh := ⟨if t.Ap < s.Ap then t.Ap else s.Ap, if t.Bf > s.Bf then t.Bf else s.Bf⟩
theorem qrn {s t : qh} : (⟨if s.Ap < t.Ap then s.Ap else t.Ap, if s.Bf > t.Bf then s.Bf else t.Bf⟩ : qh) = hullS s t := by
 unfold hullS
 congr 1
 ·split <;> split <;> omega
 ·split <;> split <;> omega
def plusS (s t : qh) : qh := ⟨W64 (s.Ap + t.Ap), W64 (s.Bf + t.Bf)⟩
def joinS (node : Int) (s : Bool × qe) (ar sl : qh) : Bool × qe := bif s.1 then (true, ⟨node, hullS s.2.Ah ar, hullS s.2.Bd sl⟩) else (true, ⟨node, ar, sl⟩)
def frN (ls : List qq) (k : Nat) : Nat := (gt ls k).Bk.toNat
def stepS (f : Nat → qh → qh × qh) (ls : List qq) (t : qx) (node : Int) (s : Bool × qe) (k : Nat) : Bool × qe :=
 bif gt t.Bg (frN ls k) then joinS node s (plusS (gt t.Ah (frN ls k)) (f k (gt t.Bd (frN ls k))).1) (f k (gt t.Bd (frN ls k))).2 else s
def toQ (ls : List qq) (lv : List Bool) (node : Int) (k : Nat) : Bool := lvL lv k && (toL ls k == node)
def srcO (xs : List qe) (node : Int) : Option qe := xs.find? fun s => s.Bo == node
def srcV (o : Option qe) : Bool × qe := match o with | some y => (true, y) | none => (false, zSrc)
def ndS (f : Nat → qh → qh × qh) (ls : List qq) (lv : List Bool) (t : qx) (node : Int) (s0 : Bool × qe) : Nat → Bool × qe
 | 0 => s0
 | k + 1 => bif toQ ls lv node k then stepS f ls t node (ndS f ls lv t node s0 k) k else ndS f ls lv t node s0 k
theorem qvz {f : Nat → qh → qh × qh} {ls : List qq} {lv : List Bool} {t : qx} {node : Int} {s0 : Bool × qe} {j : Nat} : (selN (toQ ls lv node) j).foldl (stepS f ls t node) s0 = ndS f ls lv t node s0 j := by
 induction j with
 | zero => rfl
 | succ j ih =>
  rw [qmZ, List.foldl_append, ih]
  show _ = bif toQ ls lv node j then stepS f ls t node (ndS f ls lv t node s0 j) j else ndS f ls lv t node s0 j
  cases toQ ls lv node j <;> rfl
structure TmOk (t : qx) (M : Nat) : Prop where
 r : t.Bg.length = M
 a : t.Ah.length = M
 s : t.Bd.length = M
 sl : ∀ k, k < M → slR (gt t.Bd k)
structure SrcOk (xs : List qe) : Prop where
 len : xs.length ≤ 1048576
 inc : ∀ j i, i < j → j < xs.length → (gt xs i).Bo < (gt xs j).Bo
 sl : ∀ x, x ∈ xs → slR x.Bd
theorem qsE {xs : List qe} {node : Int} (hl : xs.length ≤ 1048576) : Ev (fun n => qfW n xs node) ((srcV (srcO xs node)).2, (srcV (srcO xs node)).1) := by
 have h1 : Ev (fun n => qaA n xs node) (ixL (fun s => s.Bo == node) xs) :=
  qfb (fin := (xs.length : Int)) (Lf := qL xs node) (xs := xs) (pf := fun n x => qjl n x node) (fun _ _ => .done)
   (fun n => by simp only [qL, qk (jb _), cond_false])
   (fun n j x hx => by
    have hj := (List.getElem?_eq_some_iff.1 hx).1
    simp only [qL, qj hj, cond_true, qaw hx, ja, wS j])
   (fun n => by unfold qaA; congr 1; funext o; cases o <;> rfl)
 unfold qfW
 refine Ev.bind h1 ?_
 unfold ixL srcO
 cases hf : xs.findIdx? (fun s => s.Bo == node) with
 | none =>
  have : xs.find? (fun s => s.Bo == node) = none := by
   rw [List.find?_eq_none]
   intro x hx
   have := List.findIdx?_eq_none_iff.1 hf x hx
   simpa using this
  rw [this]
  exact Ev.ff rfl .done
 | some j =>
  obtain ⟨hj, hp, hn⟩ := List.findIdx?_eq_some_iff_getElem.1 hf
  have : xs.find? (fun s => s.Bo == node) = some xs[j] := by
   rw [List.find?_eq_some_iff_getElem]
   exact ⟨hp, j, hj, rfl, fun i hi => by have := hn i hi; simpa using this⟩
  rw [this]
  refine Ev.tt (show decide ((j : Int) ≥ 0) = true from decide_eq_true (by omega)) ?_
  show Ev (fun n => (idx xs (j : Int)).bind _) _
  rw [qhW hj]
  exact .done
theorem qmQ {xs : List qe} {node : Int} {y : qe} (h : srcO xs node = some y) : y.Bo = node ∧ y ∈ xs := by
 have h1 := List.find?_some h
 exact ⟨by simpa using h1, List.mem_of_find?_eq_some h⟩
theorem qxi {xs : List qe} {node : Int} (h : SrcOk xs) :
  Ev (fun n => qcK xs node n 0 0 0 0 0 false 0) ((srcV (srcO xs node)).2.Bo, (srcV (srcO xs node)).2.Ah.Ap, (srcV (srcO xs node)).2.Ah.Bf, (srcV (srcO xs node)).2.Bd.Ap, (srcV (srcO xs node)).2.Bd.Bf, (srcV (srcO xs node)).1, (xs.length : Int)) := by
 have hl := h.len
 have := loopF (τ := Bool × qe) (Lf := fun n s j => qcK xs node n s.2.Bo s.2.Ah.Ap s.2.Ah.Bf s.2.Bd.Ap s.2.Bd.Bf s.1 j) (S := fun j => srcV (srcO (xs.take j) node)) (len := xs.length)
  (fin := ((srcV (srcO xs node)).2.Bo, (srcV (srcO xs node)).2.Ah.Ap, (srcV (srcO xs node)).2.Ah.Bf, (srcV (srcO xs node)).2.Bd.Ap, (srcV (srcO xs node)).2.Bd.Bf, (srcV (srcO xs node)).1, (xs.length : Int)))
  (fun n => by simp only [qcK, qk (jb _), cond_false, jB])
  (fun j hj X hX => by
   simp only [qcK, qj hj, cond_true, qB hj, ja, wS j]
   have e : srcO (xs.take (j + 1)) node = (srcO (xs.take j) node).or (bif (gt xs j).Bo == node then some (gt xs j) else none) := by
    unfold srcO
    rw [ju hj, List.find?_append, ← qeU hj]
    congr 1
   cases hq : (gt xs j).Bo == node
   ·rw [hq] at e
    have e : srcO (xs.take (j + 1)) node = srcO (xs.take j) node := by rw [e]; cases srcO (xs.take j) node <;> rfl
    rw [e] at hX
    exact hX
   ·rw [hq] at e
    have hn : srcO (xs.take j) node = none := by
     unfold srcO
     rw [List.find?_eq_none]
     intro x hx hxn
     obtain ⟨i, hi, rfl⟩ := List.mem_iff_getElem.1 hx
     rw [jS] at hi
     rw [List.getElem_take, ← qeU (by omega)] at hxn
     have := h.inc j i (by omega) hj
     simp only [beq_iff_eq] at hq hxn
     omega
    have e : srcO (xs.take (j + 1)) node = some (gt xs j) := by rw [e, hn]; rfl
    rw [e] at hX
    exact hX)
 exact this
theorem qtI {ls : List qq} {M : Nat} (h : LkOk ls M) {k : Nat} (hk : k < ls.length) : (gt ls k).Bk = (frN ls k : Int) ∧ frN ls k < M := by
 have h0 := h.fr0 k hk
 have h1 := h.fr1 k hk
 unfold frN
 omega
section
variable {b : qf} {c : qu} {f : Nat → qh → qh × qh} {lv : List Bool} {t : qx} {xs : List qe} {node : Int}
theorem qv6 (h : blockB b = true) (hf : SpansOk b c f) (hl : lv.length = (linksL b).length) (ht : TmOk t (2 * (places b.Ab).length)) (hx : SrcOk xs) :
  Ev (fun n => qhV n b c (linksL b) lv xs t node) (ndS f (linksL b) lv t node (srcV (srcO xs node)) (linksL b).length) := by
 have hk := qmP h
 have hkl := hk.len
 have hL := loopF (τ := Bool × qe) (Lf := fun n s j => qcJ b c (linksL b) lv t node n s.2.Bo s.2.Ah.Ap s.2.Ah.Bf s.2.Bd.Ap s.2.Bd.Bf s.1 j) (S := fun j => ndS f (linksL b) lv t node (srcV (srcO xs node)) j) (len := (linksL b).length)
  (fin := (fun s : Bool × qe => (s.2.Bo, s.2.Ah.Ap, s.2.Ah.Bf, s.2.Bd.Ap, s.2.Bd.Bf, s.1, ((linksL b).length : Int))) (ndS f (linksL b) lv t node (srcV (srcO xs node)) (linksL b).length))
  (fun n => by simp only [qcJ, qk (jb _), cond_false])
  (fun j hj X hX => by
   obtain ⟨e1, e2⟩ := qtI hk hj
   have eN : ndS f (linksL b) lv t node (srcV (srcO xs node)) (j + 1) = bif toQ (linksL b) lv node j then stepS f (linksL b) t node (ndS f (linksL b) lv t node (srcV (srcO xs node)) j) j else ndS f (linksL b) lv t node (srcV (srcO xs node)) j := rfl
   rw [eN] at hX
   generalize ndS f (linksL b) lv t node (srcV (srcO xs node)) j = s at hX ⊢
   simp only [qcJ, qj hj, cond_true, qB hj, qB (show j < lv.length by omega), ja, e1, qB (show frN (linksL b) j < t.Bg.length by rw [ht.r]; exact e2), qB (show frN (linksL b) j < t.Ah.length by rw [ht.a]; exact e2), qB (show frN (linksL b) j < t.Bd.length by rw [ht.s]; exact e2), wS j]
   unfold toQ lvL toL at hX
   cases h1 : gt lv j
   ·rw [h1] at hX; exact hX
   rw [h1, jw] at hX
   cases h2 : (gt (linksL b) j).To == node
   ·rw [h2] at hX
    simp only [bne, h2]
    exact hX
   rw [h2] at hX
   simp only [bne, h2]
   unfold stepS at hX
   cases h3 : gt t.Bg (frN (linksL b) j)
   ·rw [h3] at hX; exact hX
   rw [h3] at hX
   simp only [cond_true] at hX
   obtain ⟨_, s1, _⟩ := hf j _ hj (ht.sl _ e2)
   refine Ev.bind (b := false) (Ev.now rfl) (Ev.ff rfl (Ev.bind s1 ?_))
   generalize f j (gt t.Bd (frN (linksL b) j)) = q at hX ⊢
   unfold joinS at hX
   cases h4 : s.1
   ·rw [h4] at hX; exact hX
   ·rw [h4] at hX
    simp only [qjE, ja, cond_true]
    have a1 := qrn (s := s.2.Ah) (t := plusS (gt t.Ah (frN (linksL b) j)) q.1)
    have a2 := qrn (s := s.2.Bd) (t := q.2)
    simp only [cond_true] at hX
    rw [← a1, ← a2] at hX
    exact hX)
 unfold qhV
 exact Ev.bind (qxi hx) (Ev.bind hL .done)
theorem qx9 {ls : List qq} {M : Nat} {ps : List Tplace} {lo : List Int} {de : List (List Int)} {ex : List Int} (h : LkOk ls M) (hl : lv.length = ls.length) : Ev (fun n => qiO n (grV ls lv ps b lo de ex) node) (ints (selN (toQ ls lv node) ls.length)) := by
 have hll := h.len
 have hL : Ev (fun n => qF node ⟨some ⟨b, ps, ls, lo, de, ex⟩, lv⟩ ⟨b, ps, ls, lo, de, ex⟩ n ([] : List Int) 0) (ints (selN (toQ ls lv node) ls.length), (ls.length : Int)) := by
  refine qoy (q := toQ ls lv node) (Lf := qF node ⟨some ⟨b, ps, ls, lo, de, ex⟩, lv⟩ ⟨b, ps, ls, lo, de, ex⟩) (len := ls.length) (by omega) (Ev.succ ?_) (fun j hj t ht X h1 h2 => ?_)
  ·simp only [qF, qk (jb _), cond_false]; exact .done
  ·simp only [qF, qj hj, cond_true, qB hj, qB (show j < lv.length by omega), ja, qjm, ht, wS j]
   unfold toQ lvL toL at h1 h2
   cases hq : gt lv j
   ·simp only [cond_false]; exact h2 (by rw [hq]; rfl)
   ·simp only [cond_true]
    cases hw : (gt ls j).To == node
    ·simp only [cond_false]; exact h2 (by rw [hq, hw]; rfl)
    ·simp only [cond_true]; exact h1 (by rw [hq, hw]; rfl)
 unfold qiO qcl grV
 simp only [ja]
 exact Ev.bind (Ev.bind hL .done) .done
def fixS (node : Int) (s : Bool × qe) : Bool × qe := bif s.1 then s else (false, ⟨node, zSp, zSp⟩)
theorem qvT (h : blockB b = true) (hf : SpansOk b c f) (hl : lv.length = (linksL b).length) (ht : TmOk t (2 * (places b.Ab).length)) (hx : xs.length ≤ 1048576) :
  Ev (fun n => qc7 n (some ⟨some (viewV b), lv⟩) c xs t node) (ndS f (linksL b) lv t node (srcV (srcO xs node)) (linksL b).length) := by
 have hk := qmP h
 have hkl := hk.len
 have hsel := qn0 (q := toQ (linksL b) lv node) (j := (linksL b).length)
 have hnd : ∀ j, (ndS f (linksL b) lv t node (srcV (srcO xs node)) j).1 = true → (ndS f (linksL b) lv t node (srcV (srcO xs node)) j).2.Bo = node := by
  intro j
  induction j with
  | zero =>
   show (srcV (srcO xs node)).1 = true → (srcV (srcO xs node)).2.Bo = node
   cases hs : srcO xs node with
   | none => intro e; cases e
   | some y => exact fun _ => (qmQ hs).1
  | succ j ih =>
   unfold ndS
   cases toQ (linksL b) lv node j
   ·exact ih
   ·simp only [cond_true]
    unfold stepS
    cases gt t.Bg (frN (linksL b) j)
    ·exact ih
    ·simp only [cond_true]
     unfold joinS
     cases (ndS f (linksL b) lv t node (srcV (srcO xs node)) j).1 <;> exact fun _ => rfl
 have hz : ∀ j, (ndS f (linksL b) lv t node (srcV (srcO xs node)) j).1 = false → (ndS f (linksL b) lv t node (srcV (srcO xs node)) j).2 = zSrc := by
  intro j
  induction j with
  | zero =>
   show (srcV (srcO xs node)).1 = false → (srcV (srcO xs node)).2 = zSrc
   cases srcO xs node with
   | none => exact fun _ => rfl
   | some y => intro e; cases e
  | succ j ih =>
   unfold ndS
   cases toQ (linksL b) lv node j
   ·exact ih
   ·simp only [cond_true]
    unfold stepS
    cases gt t.Bg (frN (linksL b) j)
    ·exact ih
    ·simp only [cond_true]
     unfold joinS
     cases (ndS f (linksL b) lv t node (srcV (srcO xs node)) j).1 <;> (intro e; cases e)
 have fl : ∀ (l : List Nat) (s : Bool × qe), (∀ k, k ∈ l → toQ (linksL b) lv node k = true) → l.foldl (fun s k => fixS node (stepS f (linksL b) t node s k)) (fixS node s) = fixS node (l.foldl (stepS f (linksL b) t node) s) := by
  intro l
  induction l with
  | nil => intro s _; rfl
  | cons k l ih =>
   intro s hq
   have e : fixS node (stepS f (linksL b) t node (fixS node s) k) = fixS node (stepS f (linksL b) t node s k) := by
    unfold stepS
    obtain ⟨s1, s2⟩ := s
    cases gt t.Bg (frN (linksL b) k) <;> cases s1 <;> rfl
   rw [List.foldl_cons, List.foldl_cons, e]
   exact ih _ fun k' hk' => hq k' (jo _ hk')
 have hL := (quB (τ := Bool × qe) (xs := selN (toQ (linksL b) lv node) (linksL b).length) (Lf := fun n s j => qa3 (some ⟨some (viewV b), lv⟩) c t (ints (selN (toQ (linksL b) lv node) (linksL b).length)) n s.1 s.2.Bo s.2.Ah.Ap s.2.Ah.Bf s.2.Bd.Ap s.2.Bd.Bf j)
  (step := fun s k => fixS node (stepS f (linksL b) t node s k)) (fin := fun s => (s.1, s.2.Bo, s.2.Ah.Ap, s.2.Ah.Bf, s.2.Bd.Ap, s.2.Bd.Bf, ((ints (selN (toQ (linksL b) lv node) (linksL b).length)).length : Int))) (fixS node (srcV (srcO xs node))) (fun _ s => s = fixS node s ∧ s.2.Bo = node) (by
   constructor
   ·unfold fixS
    cases hs : (srcV (srcO xs node)).1
    ·rfl
    ·simp only [hs, cond_true]
   ·unfold fixS
    cases hs : srcO xs node with
    | none => rfl
    | some y => exact (qmQ hs).1)
  (fun j s hj hs => by
   obtain ⟨h1, h2⟩ := hs
   have key : (stepS f (linksL b) t node s (selN (toQ (linksL b) lv node) (linksL b).length)[j]).2.Bo = node := by
    unfold stepS
    cases gt t.Bg (frN (linksL b) (selN (toQ (linksL b) lv node) (linksL b).length)[j])
    ·exact h2
    ·unfold joinS
     cases s.1 <;> rfl
   constructor
   ·unfold fixS
    cases hs : (stepS f (linksL b) t node s (selN (toQ (linksL b) lv node) (linksL b).length)[j]).1
    ·rfl
    ·simp only [hs, cond_true]
   ·unfold fixS
    cases hs : (stepS f (linksL b) t node s (selN (toQ (linksL b) lv node) (linksL b).length)[j]).1
    ·rfl
    ·exact key)
  (fun n s => by simp only [qa3, qdB, qk (jb _), cond_false])
  (fun j s hj hs X hX => by
   obtain ⟨hfx, hsn⟩ := hs
   have hi := qpI hj
   have hm : (selN (toQ (linksL b) lv node) (linksL b).length)[j] < (linksL b).length := (qnN.1 (jp hj)).1
   generalize (selN (toQ (linksL b) lv node) (linksL b).length)[j] = k at hi hm hX
   obtain ⟨e1, e2⟩ := qtI hk hm
   have hv : idx (viewV b).links (k : Int) = some (gt (linksL b) k) := qB hm
   simp only [qa3, qdB, qj hj, cond_true, hi, hv, ja, e1, qB (show frN (linksL b) k < t.Bg.length by rw [ht.r]; exact e2), qB (show frN (linksL b) k < t.Ah.length by rw [ht.a]; exact e2), qB (show frN (linksL b) k < t.Bd.length by rw [ht.s]; exact e2), wS j]
   unfold stepS at hX
   cases h3 : gt t.Bg (frN (linksL b) k)
   ·rw [h3] at hX
    simp only [cond_false] at hX
    rw [← hfx] at hX
    exact hX
   rw [h3] at hX
   simp only [cond_true] at hX ⊢
   obtain ⟨_, _, s1⟩ := hf k _ hm (ht.sl _ e2)
   refine Ev.bind s1 ?_
   generalize f k (gt t.Bd (frN (linksL b) k)) = q at hX ⊢
   simp only [qjV, ja]
   unfold joinS at hX
   unfold qfd
   cases h4 : s.1
   ·rw [h4] at hX
    simp only [Bool.not_false, cond_true, ja]
    unfold fixS at hX
    simp only [cond_false, cond_true] at hX
    rw [hsn]
    exact hX
   ·rw [h4] at hX
    simp only [jW, cond_false, qij, ja]
    unfold fixS at hX
    simp only [cond_true] at hX
    rw [hsn]
    exact hX)).1
 rw [fl _ _ (fun k hk' => (qnN.1 hk').2), qvz] at hL
 unfold qc7
 refine Ev.bind (qsE hx) ?_
 have e0 : (bif (srcV (srcO xs node)).1 then (qfd 0 ⟨node, ⟨0, 0⟩, ⟨0, 0⟩⟩ false ⟨(srcV (srcO xs node)).2.Ah.Ap, (srcV (srcO xs node)).2.Ah.Bf⟩ ⟨(srcV (srcO xs node)).2.Bd.Ap, (srcV (srcO xs node)).2.Bd.Bf⟩).bind (fun o => match o with | (x9, x10) => some (x10, x9.Bo, x9.Ah.Ap, x9.Ah.Bf, x9.Bd.Ap, x9.Bd.Bf)) else some (false, node, (0 : Int), (0 : Int), (0 : Int), (0 : Int))) =
   some ((fixS node (srcV (srcO xs node))).1, (fixS node (srcV (srcO xs node))).2.Bo, (fixS node (srcV (srcO xs node))).2.Ah.Ap, (fixS node (srcV (srcO xs node))).2.Ah.Bf, (fixS node (srcV (srcO xs node))).2.Bd.Ap, (fixS node (srcV (srcO xs node))).2.Bd.Bf) := by
  cases hs : srcO xs node with
  | none => rfl
  | some y =>
   have := (qmQ hs).1
   unfold fixS srcV
   simp only [cond_true, this]
   rfl
 refine Ev.bindN e0 (Ev.bind (qx9 (ps := places b.Ab) (lo := pre (load0 b) b.Ac.length) (de := pre (exactL b) b.Ac.length) (ex := []) hk hl) (Ev.bind hL ?_))
 have z := hz (linksL b).length
 generalize ndS f (linksL b) lv t node (srcV (srcO xs node)) (linksL b).length = s at z ⊢
 unfold fixS
 obtain ⟨s1, s2⟩ := s
 cases s1
 ·have := z rfl
  simp only at this
  subst this
  exact .done
 ·exact .done
end
end Go.Fw


namespace Go.Fw
open Go
set_option maxRecDepth 100000
theorem qmu {b : qf} (h : blockB b = true) : Ev (fun n => qfS n b) ((2 * (places b.Ab).length : Nat) : Int) := by
 have hs := qaj (qaE h)
 have hl := qbH hs
 unfold qfS
 refine Ev.bind (b := (places b.Ab).map toSp) (qht hs) (Ev.now ?_)
 rw [jv, qav (by omega) (by omega)]
 rfl
theorem qpQ {v : Tview} (hl : v.places.length ≤ 78) (n : Nat) : qb9 n (some v) = some ((2 * v.places.length : Nat) : Int) := by
 unfold qb9 qdJ
 simp only [ja]
 rw [qav (by omega) (by omega)]
 rfl
def stepN (xs : List qe) (j : Nat) : Bool := decide (j = 0) || decide ((gt xs (j - 1)).Bo < (gt xs j).Bo)
def srcB (xs : List qe) (M : Nat) : Bool := allN (fun j => inI (gt xs j).Bo 0 ((M : Int) - 1) && (stepN xs j && (spanB (gt xs j).Ah && slewB (gt xs j).Bd))) xs.length
theorem qqs {xs : List qe} {j : Nat} (h : j ≠ 0) : stepN xs j = decide ((gt xs (j - 1)).Bo < (gt xs j).Bo) := by unfold stepN; rw [decide_eq_false h, Bool.false_or]
theorem qqz {b : qf} {xs : List qe} (h : blockB b = true) (hl : xs.length ≤ 1048576) : Ev (fun n => qfM n b xs) (srcB xs (2 * (places b.Ab).length)) := by
 have hpl := qbH (qaj (qaE h))
 have e := qmu h
 obtain ⟨M, eM⟩ : ∃ M, M = 2 * (places b.Ab).length := ⟨_, rfl⟩
 rw [← eM] at e ⊢
 have hM : M ≤ 156 := by omega
 have hL : Ev (fun n => qbF xs (M : Int) n 0) (bif srcB xs M then .nxt (xs.length : Int) else .ret false) := by
  refine qd1 (Lf := qbF xs (M : Int)) (len := xs.length) (Ev.succ (by simp only [qbF, qk (jb _), cond_false]; exact .done)) (fun j hj X hX => Ev.succ ?_)
  simp only [qbF, qj hj, cond_true, qB hj, ja, qcA, qpR, qsY, wS j, wO ((M : Int) - 1)]
  cases inI (gt xs j).Bo 0 ((M : Int) - 1)
  ·exact .done
  refine Ev.ff rfl ?_
  by_cases h0 : j = 0
  ·subst h0
   refine Ev.ff rfl ?_
   show Ev _ (bif (stepN xs 0 && _) then X else _)
   rw [show stepN xs 0 = true from rfl]
   show Ev (fun n => bif !spanB (gt xs 0).Ah then _ else bif !slewB (gt xs 0).Bd then _ else _) _
   cases spanB (gt xs 0).Ah
   ·exact .done
   ·cases slewB (gt xs 0).Bd
    ·exact .done
    ·exact hX
  ·refine Ev.tt (decide_eq_true (by omega)) ?_
   rw [show (j : Int) - 1 = ((j - 1 : Nat) : Int) by omega, qav (by omega) (by omega), qB (show j - 1 < xs.length by omega), qqs h0]
   simp only [ja]
   by_cases hlt : (gt xs (j - 1)).Bo < (gt xs j).Bo
   ·rw [decide_eq_true hlt]
    refine Ev.ff (decide_eq_false (by omega)) ?_
    show Ev (fun n => bif !spanB (gt xs j).Ah then _ else bif !slewB (gt xs j).Bd then _ else _) _
    cases spanB (gt xs j).Ah
    ·exact .done
    ·cases slewB (gt xs j).Bd
     ·exact .done
     ·exact hX
   ·rw [decide_eq_false hlt]
    exact Ev.tt (decide_eq_true (by omega)) .done
 unfold qfM
 refine Ev.bind e (Ev.bind hL ?_)
 cases srcB xs M <;> exact .done
theorem qqK {v : Tview} {xs : List qe} (hp : v.places.length ≤ 78) (hl : xs.length ≤ 1048576) : Ev (fun n => qda n (some v) xs) (srcB xs (2 * v.places.length)) := by
 have e := qpQ hp
 obtain ⟨M, eM⟩ : ∃ M, M = 2 * v.places.length := ⟨_, rfl⟩
 rw [← eM] at e ⊢
 have hM : M ≤ 156 := by omega
 have hL : Ev (fun n => qaM (some v) xs n 0) (bif srcB xs M then .nxt (xs.length : Int) else .ret false) := by
  refine qd1 (Lf := qaM (some v) xs) (len := xs.length) (Ev.succ (by simp only [qaM, qk (jb _), cond_false]; exact .done)) (fun j hj X hX => Ev.succ ?_)
  simp only [qaM, qj hj, cond_true, qB hj, ja, qiv, e, qcV, qoE, qsw, wS j, wO ((M : Int) - 1)]
  cases inI (gt xs j).Bo 0 ((M : Int) - 1)
  ·exact .done
  refine Ev.ff rfl ?_
  show Ev (fun n => bif !spanB (gt xs j).Ah then _ else bif !slewB (gt xs j).Bd then _ else _) _
  rw [jw, Bool.and_comm]
  cases spanB (gt xs j).Ah
  ·exact .done
  ·cases slewB (gt xs j).Bd
   ·exact .done
   ·refine Ev.ff rfl (Ev.ff rfl ?_)
    rw [jw, jw]
    by_cases h0 : j = 0
    ·subst h0
     exact Ev.ff rfl hX
    ·refine Ev.tt (decide_eq_true (by omega)) ?_
     rw [show (j : Int) - 1 = ((j - 1 : Nat) : Int) by omega, qav (by omega) (by omega), qB (show j - 1 < xs.length by omega), qqs h0]
     simp only [ja]
     by_cases hlt : (gt xs (j - 1)).Bo < (gt xs j).Bo
     ·rw [decide_eq_true hlt]
      exact Ev.ff (decide_eq_false (by omega)) hX
     ·rw [decide_eq_false hlt]
      exact Ev.tt (decide_eq_true (by omega)) .done
 unfold qda
 refine Ev.bind hL ?_
 cases srcB xs M <;> exact .done
theorem qwQ {xs : List qe} {M : Nat} (hl : xs.length ≤ 1048576) (h : srcB xs M = true) : SrcOk xs := by
 unfold srcB at h
 rw [qag] at h
 refine ⟨hl, fun j => ?_, fun x hx => ?_⟩
 ·induction j with
  | zero => intro i hi _; omega
  | succ j ih =>
   intro i hi hj
   have hs := h (j + 1) hj
   rw [qqs (by omega)] at hs
   simp only [jc, decide_eq_true_eq, Nat.add_sub_cancel] at hs
   have hs' := hs.2.1
   by_cases hij : i = j
   ·rw [hij]; exact hs'
   ·have := ih i (by omega) (by omega); omega
 ·obtain ⟨i, hi, rfl⟩ := List.mem_iff_getElem.1 hx
  have hs := h i hi
  rw [← qeU hi]
  simp only [jc] at hs
  have := hs.2.2.2
  unfold slewB at this
  simp only [jc, decide_eq_true_eq] at this
  exact ⟨⟨this.1, by omega⟩, by omega, this.2.2⟩
section
variable {L : Nat} {fr to : Nat → Int} {lv : Nat → Bool} {n : Nat}
def OrdOk (L : Nat) (fr to : Nat → Int) (lv : Nat → Bool) (n : Nat) (R : List Nat) : Prop := ∀ l1 k l2, R = l1 ++ k :: l2 → k < n ∧ k ∉ l1 ∧ inN L fr to lv l1 k = 0
theorem OrdOk.snoc {R : List Nat} {k : Nat} (h : OrdOk L fr to lv n R) (hk : nxtN L fr to lv n R = some k) : OrdOk L fr to lv n (R ++ [k]) := by
 intro l1 k' l2 e
 rcases List.eq_nil_or_concat l2 with rfl | ⟨l2', z, rfl⟩
 ·obtain ⟨rfl, e2⟩ := List.append_inj' e rfl
  obtain rfl : k = k' := by simpa using e2
  exact qoI hk
 ·have e' : R ++ [k] = (l1 ++ k' :: l2') ++ [z] := by rw [e]; simp
  obtain ⟨e1, _⟩ := List.append_inj' e' rfl
  exact h l1 k' l2' e1
theorem qwH : ∀ m R R', OrdOk L fr to lv n R → ordN L fr to lv n m R = some R' → OrdOk L fr to lv n R' := by
 intro m
 induction m with
 | zero => intro R R' h e; obtain rfl := Option.some.inj e; exact h
 | succ m ih =>
  intro R R' h e
  unfold ordN at e
  cases hn : nxtN L fr to lv n R with
  | none => rw [hn] at e; cases e
  | some k =>
   rw [hn] at e
   exact ih _ _ (h.snoc hn) e
theorem OrdOk.at {R : List Nat} (h : OrdOk L fr to lv n R) {j : Nat} (hj : j < R.length) : R[j] < n ∧ R[j] ∉ R.take j ∧ inN L fr to lv (R.take j) R[j] = 0 := by
 refine h (R.take j) R[j] (R.drop (j + 1)) ?_
 rw [← jM hj, List.take_append_drop]
end
theorem qoQ {α : Type} [Inhabited α] {xs : List α} {k : Nat} {v : α} (hk : k < xs.length) (h : gt xs k = v) : setS xs (k : Int) v = xs := by
 unfold setS
 rw [jn, ← h, qeU hk]
 exact List.set_getElem_self hk
theorem qpx {α : Type} [Inhabited α] {xs : List α} {a k : Nat} {y : α} (ha : a < xs.length) : gt (setS xs (a : Int) y) k = if k = a then y else gt xs k := by
 unfold setS
 rw [jn]
 by_cases h : k = a
 ·subst h; rw [if_pos rfl, qoS ha]
 ·rw [if_neg h, qrq h]
def setT (t : qx) (k : Nat) (s : Bool × qe) : qx := ⟨setS t.Bg (k : Int) s.1, setS t.Ah (k : Int) s.2.Ah, setS t.Bd (k : Int) s.2.Bd⟩
theorem qxa {t : qx} {M k : Nat} {s : Bool × qe} (h : TmOk t M) (hk : k < M) (hs : slR s.2.Bd) : TmOk (setT t k s) M where
 r := by show (setS _ _ _).length = _; rw [qgo]; exact h.r
 a := by show (setS _ _ _).length = _; rw [qgo]; exact h.a
 s := by show (setS _ _ _).length = _; rw [qgo]; exact h.s
 sl := fun j hj => by
  show slR (gt (setS _ _ _) j)
  rw [qpx (by rw [h.s]; exact hk)]
  split
  ·exact hs
  ·exact h.sl j hj
def Bare (t : qx) (M : Nat) (l : List Nat) : Prop := ∀ k, k < M → k ∉ l → gt t.Bg k = false ∧ gt t.Ah k = zSp ∧ gt t.Bd k = zSp
def zT : qx := ⟨[], [], []⟩
theorem qwo : slR zSp := by unfold slR zSp; exact ⟨⟨jV _, by show (0 : Int) ≤ _; omega⟩, jV _, by show (0 : Int) ≤ _; omega⟩
theorem qwr {s t : qh} (hs : slR s) (ht : slR t) : slR (hullS s t) := by
 obtain ⟨⟨a1, a2⟩, a3, a4⟩ := hs
 obtain ⟨⟨b1, b2⟩, b3, b4⟩ := ht
 refine ⟨⟨?_, ?_⟩, ?_, ?_⟩
 ·show (0 : Int) ≤ (if t.Ap < s.Ap then t.Ap else s.Ap); split <;> assumption
 ·show (if t.Ap < s.Ap then t.Ap else s.Ap) ≤ 1000000; split <;> assumption
 ·show (0 : Int) ≤ (if t.Bf > s.Bf then t.Bf else s.Bf); split <;> assumption
 ·show (if t.Bf > s.Bf then t.Bf else s.Bf) ≤ 1000000; split <;> assumption
section
variable {b : qf} {c : qu} {f : Nat → qh → qh × qh} {lv : List Bool} {t : qx} {xs : List qe} {node : Int}
theorem qwa (h : blockB b = true) (hf : SpansOk b c f) (ht : TmOk t (2 * (places b.Ab).length)) (hx : SrcOk xs) : ∀ j, j ≤ (linksL b).length → slR (ndS f (linksL b) lv t node (srcV (srcO xs node)) j).2.Bd := by
 intro j
 induction j with
 | zero =>
  intro _
  show slR (srcV (srcO xs node)).2.Bd
  cases hs : srcO xs node with
  | none => exact qwo
  | some y => exact hx.sl y (qmQ hs).2
 | succ j ih =>
  intro hj
  have ih := ih (by omega)
  obtain ⟨_, e2⟩ := qtI (qmP h) (show j < (linksL b).length by omega)
  have h2 := (hf j _ (show j < (linksL b).length by omega) (ht.sl _ e2)).1
  show slR (bif toQ (linksL b) lv node j then stepS f (linksL b) t node (ndS f (linksL b) lv t node (srcV (srcO xs node)) j) j else ndS f (linksL b) lv t node (srcV (srcO xs node)) j).2.Bd
  cases toQ (linksL b) lv node j
  ·exact ih
  ·simp only [cond_true]
   unfold stepS
   cases gt t.Bg (frN (linksL b) j)
   ·exact ih
   ·simp only [cond_true]
    unfold joinS
    cases (ndS f (linksL b) lv t node (srcV (srcO xs node)) j).1
    ·exact h2
    ·exact qwr ih h2
theorem qwI : ∀ j, (ndS f (linksL b) lv t node (srcV (srcO xs node)) j).1 = false → (ndS f (linksL b) lv t node (srcV (srcO xs node)) j).2 = zSrc := by
 intro j
 induction j with
 | zero =>
  show (srcV (srcO xs node)).1 = false → (srcV (srcO xs node)).2 = zSrc
  cases srcO xs node with
  | none => exact fun _ => rfl
  | some y => intro e; cases e
 | succ j ih =>
  unfold ndS
  cases toQ (linksL b) lv node j
  ·exact ih
  ·simp only [cond_true]
   unfold stepS
   cases gt t.Bg (frN (linksL b) j)
   ·exact ih
   ·simp only [cond_true]
    unfold joinS
    cases (ndS f (linksL b) lv t node (srcV (srcO xs node)) j).1 <;> (intro e; cases e)
def runR (o : Option qx) : qx × Bool := match o with | some t => (t, true) | none => (zT, false)
theorem qxV (h : blockB b = true) (hf : SpansOk b c f) (hl : lv.length = (linksL b).length) (hx : SrcOk xs) {R : List Nat} (hR : ∀ j, ∀ hj : j < R.length, R[j] < 2 * (places b.Ab).length ∧ R[j] ∉ R.take j) (hRl : R.length ≤ 1000) :
  ∃ o : Option qx, (∀ t, o = some t → TmOk t (2 * (places b.Ab).length)) ∧ Ev (fun n => qkD n b c (linksL b) lv xs (ints R)) (runR o) ∧ Ev (fun n => qeE n (some ⟨some (viewV b), lv⟩) c xs (ints R)) (runR o) := by
 have hpl := qbH (qaj (qaE h))
 have hcn := qmu h
 have hnd := qpQ (v := viewV b) hpl
 have epl : (viewV b).places.length = (places b.Ab).length := rfl
 rw [epl] at hnd
 obtain ⟨M, eM⟩ : ∃ M, M = 2 * (places b.Ab).length := ⟨_, rfl⟩
 have hM : M ≤ 156 := by omega
 have main : ∀ d j t, j + d = R.length → TmOk t M → Bare t M (R.take j) → ∃ o : Option qx, (∀ t, o = some t → TmOk t M) ∧
   Ev (fun n => qb5 b c (linksL b) lv xs (ints R) n t.Bd t.Ah t.Bg (j : Int)) (match o with | some t' => .nxt (t'.Bd, t'.Ah, t'.Bg, (R.length : Int)) | none => .ret (zT, false)) ∧
   Ev (fun n => qaL (some ⟨some (viewV b), lv⟩) c xs (ints R) n t.Bd t.Ah t.Bg (j : Int)) (match o with | some t' => .nxt (t'.Bd, t'.Ah, t'.Bg, (R.length : Int)) | none => .ret (zT, false)) := by
  intro d
  induction d with
  | zero =>
   intro j t hj ht _
   obtain rfl : j = R.length := by omega
   refine ⟨some t, fun t' e => by obtain rfl := Option.some.inj e; exact ht, Ev.succ ?_, Ev.succ ?_⟩
   ·simp only [qb5, qdB, qk (jb _), cond_false]; exact .done
   ·simp only [qaL, qdB, qk (jb _), cond_false]; exact .done
  | succ d ih =>
   intro j t hj ht hb
   have hjl : j < R.length := by omega
   obtain ⟨k1, k2⟩ := hR j hjl
   have hi := qpI hjl
   have htk : R.take (j + 1) = R.take j ++ [R[j]] := ju hjl
   generalize R[j] = k at k1 k2 hi htk
   rw [← eM] at k1
   have hs := qv6 (node := (k : Int)) h hf hl (by rw [← eM]; exact ht) hx
   have hp := qvT (node := (k : Int)) h hf hl (by rw [← eM]; exact ht) hx.len
   have hsl := qwa (node := (k : Int)) (lv := lv) h hf (by rw [← eM]; exact ht) hx (linksL b).length (jb _)
   have hz := qwI (f := f) (b := b) (lv := lv) (t := t) (xs := xs) (node := (k : Int)) (linksL b).length
   obtain ⟨b1, b2, b3⟩ := hb k k1 k2
   have ir : idx t.Bg (k : Int) = some (gt t.Bg k) := qB (by rw [ht.r]; exact k1)
   have ia : idx t.Ah (k : Int) = some (gt t.Ah k) := qB (by rw [ht.a]; exact k1)
   have is : idx t.Bd (k : Int) = some (gt t.Bd k) := qB (by rw [ht.s]; exact k1)
   have stp : ∀ n, qb5 b c (linksL b) lv xs (ints R) (n + 1) t.Bd t.Ah t.Bg (j : Int) = (qhV n b c (linksL b) lv xs t (k : Int)).bind fun o => match o with
    | (r4, r5) => bif (!r4) then qb5 b c (linksL b) lv xs (ints R) n t.Bd t.Ah t.Bg ((j + 1 : Nat) : Int) else bif (!spanB r5.Ah) then some (.ret (zT, false)) else
     qb5 b c (linksL b) lv xs (ints R) n (setS t.Bd (k : Int) r5.Bd) (setS t.Ah (k : Int) r5.Ah) (setS t.Bg (k : Int) true) ((j + 1 : Nat) : Int) := fun n => by
    simp only [qb5, qdB, qj hjl, cond_true, hi, ja, qpR, ir, ia, is, wS j]
    rfl
   have ptp : ∀ n, qaL (some ⟨some (viewV b), lv⟩) c xs (ints R) (n + 1) t.Bd t.Ah t.Bg (j : Int) = (qc7 n (some ⟨some (viewV b), lv⟩) c xs t (k : Int)).bind fun o => match o with
    | (r3, r4) => (bif r3 then some (!spanB r4.Ah) else some false).bind fun b3 => bif b3 then some (.ret (zT, false)) else
     qaL (some ⟨some (viewV b), lv⟩) c xs (ints R) n (setS t.Bd (k : Int) r4.Bd) (setS t.Ah (k : Int) r4.Ah) (setS t.Bg (k : Int) r3) ((j + 1 : Nat) : Int) := fun n => by
    simp only [qaL, qdB, qj hjl, cond_true, hi, ja, qoE, ir, ia, is, wS j]
    rfl
   generalize ndS f (linksL b) lv t (k : Int) (srcV (srcO xs (k : Int))) (linksL b).length = s at hs hp hsl hz
   obtain ⟨s1, s2⟩ := s
   cases s1
   ·have := hz rfl
    simp only at this
    subst this
    have e1 : setS t.Bd (k : Int) zSrc.Bd = t.Bd := qoQ (by rw [ht.s]; exact k1) b3
    have e2 : setS t.Ah (k : Int) zSrc.Ah = t.Ah := qoQ (by rw [ht.a]; exact k1) b2
    have e3 : setS t.Bg (k : Int) false = t.Bg := qoQ (by rw [ht.r]; exact k1) b1
    obtain ⟨o, o1, o2, o3⟩ := ih (j + 1) t (by omega) ht (fun i hi hni => hb i hi (fun hm => hni (by rw [htk]; exact List.mem_append_left _ hm)))
    refine ⟨o, o1, Ev.step stp (Ev.bind hs o2), Ev.step ptp (Ev.bind hp ?_)⟩
    simp only [cond_false, ja, e1, e2, e3]
    exact o3
   ·cases hsp : spanB s2.Ah
    ·refine ⟨none, fun t e => (by cases e), Ev.step stp (Ev.bind hs ?_), Ev.step ptp (Ev.bind hp ?_)⟩
     ·simp only [hsp]; exact .done
     ·simp only [hsp]; exact .done
    ·obtain ⟨o, o1, o2, o3⟩ := ih (j + 1) (setT t k (true, s2)) (by omega) (qxa ht k1 hsl) (fun i hi hni => by
      rw [htk] at hni
      have hne : i ≠ k := fun e => hni (List.mem_append_right _ (List.mem_singleton.2 e))
      have := hb i hi (fun hm => hni (List.mem_append_left _ hm))
      refine ⟨?_, ?_, ?_⟩
      ·show gt (setS _ _ _) i = _; rw [qpx (by rw [ht.r]; exact k1), if_neg hne]; exact this.1
      ·show gt (setS _ _ _) i = _; rw [qpx (by rw [ht.a]; exact k1), if_neg hne]; exact this.2.1
      ·show gt (setS _ _ _) i = _; rw [qpx (by rw [ht.s]; exact k1), if_neg hne]; exact this.2.2)
     refine ⟨o, o1, Ev.step stp (Ev.bind hs ?_), Ev.step ptp (Ev.bind hp ?_)⟩
     ·simp only [hsp]; exact o2
     ·simp only [hsp]; exact o3
 have hm1 : mkS (M : Int) false = some (List.replicate M false) := qpD (by omega)
 have hm2 : mkS (M : Int) (⟨0, 0⟩ : qh) = some (List.replicate M zSp) := qpD (by omega)
 have gr : ∀ {α : Type} [Inhabited α] (v : α) (k : Nat), k < M → gt (List.replicate M v) k = v := fun v k hk => by rw [qeU (by rw [jG]; exact hk)]; simp
 obtain ⟨o, o1, o2, o3⟩ := main R.length 0 ⟨List.replicate M false, List.replicate M zSp, List.replicate M zSp⟩ (by omega) ⟨jG, jG, jG, fun k hk => by
   show slR (gt (List.replicate M zSp) k)
   rw [gr zSp k hk]; exact qwo⟩ (fun k hk _ => ⟨gr false k hk, gr zSp k hk, gr zSp k hk⟩)
 rw [← eM] at hcn hnd
 refine ⟨o, by rw [← eM]; exact o1, ?_, ?_⟩
 ·unfold qkD qkW
  refine Ev.bind hcn ?_
  simp only [hm1, hm2, ja]
  refine Ev.bind o2 ?_
  cases o <;> exact .done
 ·unfold qeE qgX
  simp only [ja, hnd, hm1, hm2]
  refine Ev.bind o3 ?_
  cases o <;> exact .done
end
end Go.Fw


namespace Go.Fw
open Go Go.Proofs
open Go.RowKit (Below)
set_option maxRecDepth 100000
set_option maxHeartbeats 1600000
variable {n : Nat} {w : World} {cs1 cs2 cs3 cs4 cs5 cs6 cs7 cs8 cs9 : List Value}
def qfu (n : Nat) (j : qbf) : Option ((Option Tl20Work) × Int) :=
 (qdc n (⟨(⟨j.Af.Av.Aq⟩ : qp), (⟨j.Af.Ab.Aa, j.Af.Ab.Am, j.Af.Ab.Aj⟩ : qd), j.Af.Ac⟩ : qf) (⟨j.Ai.Bb, j.Ai.Au, j.Ai.Ay, j.Ai.As, j.Ai.Az⟩ : qu) j.Bi j.Ba).bind fun o => match o with
  | (r2, r3) =>
   bif (r3 != 0) then some (none, r3) else
   (qeS n (⟨(⟨j.Af.Av.Aq⟩ : qp), (⟨j.Af.Ab.Aa, j.Af.Ab.Am, j.Af.Ab.Aj⟩ : qd), j.Af.Ac⟩ : qf)).bind fun r4 =>
   (qgA n r4 j.Bi).bind fun r5 =>
   some ((some (⟨(⟨(⟨(⟨j.Af.Av.Aq⟩ : qp), (⟨j.Af.Ab.Aa, j.Af.Ab.Am, j.Af.Ab.Aj⟩ : qd), j.Af.Ac⟩ : qf), (⟨j.Ai.Bb, j.Ai.Au, j.Ai.Ay, j.Ai.As, j.Ai.Az⟩ : qu), j.Bi, j.Ba⟩ : qbf), r4, r5, r2⟩ : Tl20Work)), 0)
theorem qo4 {A : Nat → Prop} (hA : ∀ b, A b → old w b) {j : qbf} (ha1 : GoT.R w A j cs1) {r : ((Option Tl20Work) × Int)} (hF : qfu n j = some r) : RetG Tryz.prog 32 [GoT.v qbf cs1] w A r := by
 obtain ⟨p1, k1, p2, k2, p3, k3, p4, k4, p5, k5, p6, k6, p7, k7, rfl, s1, s2, s3, s4, s5, s6, s7⟩ := qc3 ha1
 have hg := Rg.start hA
 refine qeF Tryz.func32 rfl (m := 34) rfl rfl (fun h => ?_)
 refine zSR (qt h rfl rfl fun w1 bb1 h => X4 13 0 0 0 0 h rfl ?_)
 obtain ⟨r1, hr1, hF⟩ := qc hF
 obtain ⟨r2, r3⟩ := r1
 refine qbj (r2, r3) h (cB 24 rfl) (qlf (qhp _ (h.oldS (s1.mono hg.old)) (h.oldS (s2.mono hg.old)) (h.oldS (s3.mono hg.old)) (h.oldS (s4.mono hg.old)) (h.oldS (s5.mono hg.old))) (qeC _) ⟨_, _, rfl, (h.oldS (s6.mono hg.old))⟩ ⟨_, _, rfl, (h.oldS (s7.mono hg.old))⟩ hr1) rfl rfl rfl rfl fun w2 S1 us1 hv1 hr2 => ?_
 obtain ⟨S2, S3, cs2, us2, rfl, hv2, hr3⟩ := hv1.cons hr2
 obtain ⟨p8, k8, p9, k9, p10, k10, rfl, -, -, -⟩ := qcn (hv2.sh.own 0 rfl)
 obtain ⟨rfl, h⟩ := hv2.lastI hr3
 refine zp3 rfl (qm qa h rfl rfl rfl fun w3 bb2 h => zs 0 h rfl fun w4 h => X0 8 rfl (qg rfl hF ?_ ?_)) <;> intro hF
 ·refine X0 6 rfl ?_
  obtain rfl := qb hF
  have hv4 : GoRs.Rs (ρ := ((Option Tl20Work) × Int)) h.wc (reg A w h.wc) (none, r3) [GoT.v (Option Tl20Work) [.pointer none], GoT.v Int [.int .i64 r3]] := ⟨_, _, rfl, rfl, ⟨_, rfl, rfl⟩⟩
  exact qeQ qa (ρ := ((Option Tl20Work) × Int)) (r := (none, r3)) [GoT.v (Option Tl20Work) [.pointer none], GoT.v Int [.int .i64 r3]] h ⟨rfl, rfl, trivial⟩ hv4
 refine X1 5 2 h rfl (zcL h hF (qgI (qhp _ (h.oldS (s1.mono hg.old)) (h.oldS (s2.mono hg.old)) (h.oldS (s3.mono hg.old)) (h.oldS (s4.mono hg.old)) (h.oldS (s5.mono hg.old)))) rfl fun r4 w5 S5 p11 k11 h hF => X0 3 rfl (rA [] [1, 3] h rfl fun w6 h => M3 95 [0, 1, 2, 3, 4, 6] 1 1 0 (h.pick [1, 3] rfl) rfl (Ao 5 127 rfl (zcL h hF (qhh (h.own 0 rfl) ⟨_, _, rfl, (h.oldS (s6.mono hg.old))⟩) rfl fun r5 w7 S6 p12 k12 h hF => Ag (h.pick [2, 4] rfl) (Aw 7 255 (fun w' hw => qX qa [0, 1, 2, 3] [.tmp 25, .tmp 26, .tmp 30, .tmp 31] rfl rfl rfl rfl rfl rfl rfl rfl) (h.pick [2, 4] rfl) rfl ?_)))))
 refine Ao 8 511 rfl (qt h rfl rfl fun w8 bb3 h => G0 2047 [9, 10] (h.pick [3, 5] rfl) rfl (Ad ?_))
 obtain rfl := qb hF
 have hv5 : GoRs.Rs (ρ := ((Option Tl20Work) × Int)) h.wc (reg A w h.wc) ((some (⟨(⟨(⟨(⟨j.Af.Av.Aq⟩ : qp), (⟨j.Af.Ab.Aa, j.Af.Ab.Am, j.Af.Ab.Aj⟩ : qd), j.Af.Ac⟩ : qf), (⟨j.Ai.Bb, j.Ai.Au, j.Ai.Ay, j.Ai.As, j.Ai.Az⟩ : qu), j.Bi, j.Ba⟩ : qbf), r4, r5, r2⟩ : Tl20Work)), 0) [GoT.v (Option Tl20Work) [.pointer (some ⟨bb3, 0, none⟩)], GoT.v Int [.int .i64 0]] := ⟨_, _, rfl, (hg.outR h (Rg.boxR (x := (⟨(⟨(⟨(⟨j.Af.Av.Aq⟩ : qp), (⟨j.Af.Ab.Aa, j.Af.Ab.Am, j.Af.Ab.Aj⟩ : qd), j.Af.Ac⟩ : qf), (⟨j.Ai.Bb, j.Ai.Au, j.Ai.Ay, j.Ai.As, j.Ai.Az⟩ : qu), j.Bi, j.Ba⟩ : qbf), r4, r5, r2⟩ : Tl20Work)) 0 h rfl (⟨[.slice p1 j.Af.Av.Aq.length k1, .slice p2 j.Af.Ab.Aa.length k2, .slice p3 j.Af.Ab.Am.length k3, .slice p4 j.Af.Ab.Aj.length k4, .slice p5 j.Af.Ac.length k5, .string j.Ai.Bb, .int .i64 j.Ai.Au, .int .i64 j.Ai.Ay, .int .i64 j.Ai.As, .int .i64 j.Ai.Az, .slice p6 j.Bi.length k6, .slice p7 j.Ba.length k7], [.slice p11 r4.length k11, .slice p12 r5.length k12, .slice p8 r2.Bg.length k8, .slice p9 r2.Ah.length k9, .slice p10 r2.Bd.length k10], rfl, ⟨[.slice p1 j.Af.Av.Aq.length k1, .slice p2 j.Af.Ab.Aa.length k2, .slice p3 j.Af.Ab.Am.length k3, .slice p4 j.Af.Ab.Aj.length k4, .slice p5 j.Af.Ac.length k5], [.string j.Ai.Bb, .int .i64 j.Ai.Au, .int .i64 j.Ai.Ay, .int .i64 j.Ai.As, .int .i64 j.Ai.Az, .slice p6 j.Bi.length k6, .slice p7 j.Ba.length k7], rfl, ⟨[.slice p1 j.Af.Av.Aq.length k1], [.slice p2 j.Af.Ab.Aa.length k2, .slice p3 j.Af.Ab.Am.length k3, .slice p4 j.Af.Ab.Aj.length k4, .slice p5 j.Af.Ac.length k5], rfl, ⟨_, _, rfl, (hg.inS h s1)⟩, ⟨[.slice p2 j.Af.Ab.Aa.length k2, .slice p3 j.Af.Ab.Am.length k3, .slice p4 j.Af.Ab.Aj.length k4], [.slice p5 j.Af.Ac.length k5], rfl, ⟨[.slice p2 j.Af.Ab.Aa.length k2], [.slice p3 j.Af.Ab.Am.length k3, .slice p4 j.Af.Ab.Aj.length k4], rfl, ⟨_, _, rfl, (hg.inS h s2)⟩, ⟨[.slice p3 j.Af.Ab.Am.length k3], [.slice p4 j.Af.Ab.Aj.length k4], rfl, ⟨_, _, rfl, (hg.inS h s3)⟩, ⟨_, _, rfl, (hg.inS h s4)⟩⟩⟩, ⟨_, _, rfl, (hg.inS h s5)⟩⟩⟩, ⟨[.string j.Ai.Bb, .int .i64 j.Ai.Au, .int .i64 j.Ai.Ay, .int .i64 j.Ai.As, .int .i64 j.Ai.Az], [.slice p6 j.Bi.length k6, .slice p7 j.Ba.length k7], rfl, ⟨[.string j.Ai.Bb], [.int .i64 j.Ai.Au, .int .i64 j.Ai.Ay, .int .i64 j.Ai.As, .int .i64 j.Ai.Az], rfl, rfl, ⟨[.int .i64 j.Ai.Au], [.int .i64 j.Ai.Ay, .int .i64 j.Ai.As, .int .i64 j.Ai.Az], rfl, rfl, ⟨[.int .i64 j.Ai.Ay], [.int .i64 j.Ai.As, .int .i64 j.Ai.Az], rfl, rfl, ⟨[.int .i64 j.Ai.As], [.int .i64 j.Ai.Az], rfl, rfl, rfl⟩⟩⟩⟩, ⟨[.slice p6 j.Bi.length k6], [.slice p7 j.Ba.length k7], rfl, ⟨_, _, rfl, (hg.inS h s6)⟩, ⟨_, _, rfl, (hg.inS h s7)⟩⟩⟩⟩, ⟨[.slice p11 r4.length k11], [.slice p12 r5.length k12, .slice p8 r2.Bg.length k8, .slice p9 r2.Ah.length k9, .slice p10 r2.Bd.length k10], rfl, (Rg.ownR 2 h rfl), ⟨[.slice p12 r5.length k12], [.slice p8 r2.Bg.length k8, .slice p9 r2.Ah.length k9, .slice p10 r2.Bd.length k10], rfl, (Rg.ownR 1 h rfl), (Rg.ownR 4 h rfl)⟩⟩⟩))), ⟨_, rfl, rfl⟩⟩
 exact qeQ qa (ρ := ((Option Tl20Work) × Int)) (r := ((some (⟨(⟨(⟨(⟨j.Af.Av.Aq⟩ : qp), (⟨j.Af.Ab.Aa, j.Af.Ab.Am, j.Af.Ab.Aj⟩ : qd), j.Af.Ac⟩ : qf), (⟨j.Ai.Bb, j.Ai.Au, j.Ai.Ay, j.Ai.As, j.Ai.Az⟩ : qu), j.Bi, j.Ba⟩ : qbf), r4, r5, r2⟩ : Tl20Work)), 0)) [GoT.v (Option Tl20Work) [.pointer (some ⟨bb3, 0, none⟩)], GoT.v Int [.int .i64 0]] h ⟨rfl, rfl, trivial⟩ hv5
def qcm (a_w : (Option Tl20Work)) (node : Int) : Nat → Int → Option (Flow (qe × Bool) Int)
 | 0, _ => none
 | n + 1, i1 =>
  (a_w).bind fun y1 =>
  bif decide (i1 < (y1.j.Ba.length : Int)) then
   (idx y1.j.Ba i1).bind fun y2 =>
   bif (y2.Bo == node) then
    (idx y1.j.Ba i1).bind fun y3 =>
    some (.ret (y3, true))
   else
    qcm a_w node n (W64 (i1 + 1))
  else
   some (.nxt i1)
def qih (n : Nat) (a_w : (Option Tl20Work)) (node : Int) : Option (qe × Bool) :=
 (qcm a_w node n 0).bind fun o => match o with
 | .ret r => some r
 | .nxt _ =>
  some ((⟨0, (⟨0, 0⟩ : qh), (⟨0, 0⟩ : qh)⟩ : qe), false)
theorem qob {a_w : (Option Tl20Work)} {node : Int} (ha1 : GoT.R w (old w) a_w cs1) {r : (qe × Bool)} (hF : qih n a_w node = some r) : RetV Tryz.prog 57 [GoT.v (Option Tl20Work) cs1, .int .i64 node] w r := by
 obtain ⟨p1, rfl, s1⟩ := qam ha1
 refine zV 37 Tryz.func57 rfl fun h => zSR (qm qa h rfl rfl rfl fun w1 bb1 h => X0 7 rfl ?_)
 obtain ⟨o1, hF, hK1⟩ := qc hF
 refine ql (rL (fun m e w' => ∃ (i1 : Int), qcm a_w node m i1 = some o1 ∧ e = [(0, .pointer p1), (1, .int .i64 node), (4, .pointer (some ⟨bb1, 0, none⟩)), (6, .int .i64 i1)] ∧ SH w w' [Ch.box bb1 [.int .i64 0, .int .i64 0, .int .i64 0, .int .i64 0, .int .i64 0] 112]) n ⟨_, hF, rfl, h⟩ rfl ?_)
 rintro m1 e1 w2 ⟨i1, hF, rfl, h⟩
 rcases m1 with _ | m1
 ·cases hF
 refine X0 5 rfl ?_
 obtain ⟨y1, hy1, hF⟩ := qc hF
 obtain ⟨b1, o_1, cs2, rfl, -, hr1, hc1⟩ := PtR.get s1 hy1
 obtain ⟨p2, k1, p3, k2, p4, k3, p5, k4, p6, k5, p7, k6, p8, k7, p9, k8, p10, k9, p11, k10, p12, k11, p13, k12, rfl, s2, s3, s4, s5, s6, s7, s8, s9, s10, s11, s12, s13⟩ := qkV hr1
 refine zp3 rfl (zc 11 (hc1.below h.below) rfl (X0 3 rfl (qg rfl hF ?_ ?_))) <;> intro hF
 ·refine X0 9 rfl (zc 11 (hc1.below h.below) rfl (zp1 rfl ?_))
  obtain ⟨y2, hy2, hF, he1, b2, _, q1, cs3, hp1, hq1, hr2, hc3⟩ := s8.ix hF
  obtain rfl := qW hr2
  refine zxe hp1 hq1 he1 rfl (zp1 rfl (zc 0 (hc3.below h.below) rfl (X0 3 rfl (qg rfl hF ?_ ?_)))) <;> intro hF
  ·refine X0 6 rfl (zc 11 (hc1.below h.below) rfl (zp1 rfl ?_))
   obtain ⟨y3, hy3, hF, he2, b3, _, q2, cs4, hp2, hq2, hr3, hc5⟩ := s8.ix hF
   obtain rfl := qW hr3
   refine zxe hp2 hq2 he2 rfl (zc 0 (hc5.below h.below) rfl (zs 0 h rfl fun w3 h => X0 2 rfl ?_))
   obtain rfl := qb hF; replace hF := hK1
   obtain rfl := qb hF
   exact qS qa (ρ := (qe × Bool)) [GoT.v qe (qfe y3), GoT.v Bool [.bool true]] h ⟨⟨_, _, _, rfl, rfl, h.box 0 rfl, rfl⟩, rfl, trivial⟩ (PV.done h (qad h (qw (S := fun _ => False) (qb2 y3)) (qV (qw (S := fun _ => False) rfl)) (by rfl)))
  exact X0 7 rfl (rK ⟨_, hF, rfl, h⟩ rfl)
 refine qr rfl ?_
 obtain rfl := qb hF; replace hF := hK1
 refine zSR (r_v (qX qa [] [] rfl rfl rfl rfl rfl rfl rfl rfl) rfl (zs 0 h rfl fun w4 h => X0 2 rfl ?_))
 obtain rfl := qb hF
 exact qS qa (ρ := (qe × Bool)) [GoT.v qe [.int .i64 0, .int .i64 0, .int .i64 0, .int .i64 0, .int .i64 0], GoT.v Bool [.bool false]] h ⟨⟨_, _, _, rfl, rfl, h.box 0 rfl, rfl⟩, rfl, trivial⟩ (PV.done h (qad h (qw (S := fun _ => False) (qb2 (⟨0, (⟨0, 0⟩ : qh), (⟨0, 0⟩ : qh)⟩ : qe))) (qV (qw (S := fun _ => False) rfl)) (by rfl)))
def qd7 (a_0 : (Option Tl20Work)) (a_2 : (List Int)) (r3 : Bool) : Nat → Int → Int → Option (Flow (Int × Bool) (Int × Int))
 | 0, _, _ => none
 | n + 1, i1, i2 =>
  (
   bif decide (i2 < (a_2.length : Int)) then some r3 else
   some false).bind fun b1 =>
  bif b1 then
   (idx a_2 i2).bind fun y1 =>
   (
    (a_0).bind fun y4 =>
    (qaq n y1 0 (W64 ((y4.links.length : Int) - 1))).bind fun r4 =>
    bif (!r4) then some true else
    (idx y4.live y1).bind fun y5 =>
    bif (!y5) then some true else
    (idx y4.links y1).bind fun y6 =>
    some (y6.Bk != i1)).bind fun b3 =>
   bif b3 then some (.ret (0, false)) else
   (a_0).bind fun y2 =>
   (idx y2.links y1).bind fun y3 =>
   qd7 a_0 a_2 r3 n y3.To (W64 (i2 + 1))
  else
   some (.nxt (i1, i2))
def qkG (n : Nat) (a_0 : (Option Tl20Work)) (a_1 : Int) (a_2 : (List Int)) : Option (Int × Bool) :=
 (qih n a_0 a_1).bind fun o => match o with
  | (_, r3) =>
   (qd7 a_0 a_2 r3 n a_1 0).bind fun o => match o with
   | .ret r => some r
   | .nxt (i1, _) =>
    some (i1, r3)
theorem qqu {a_0 : (Option Tl20Work)} {a_1 : Int} {a_2 : (List Int)} (ha1 : GoT.R w (old w) a_0 cs1) (ha2 : GoT.R w (old w) a_2 cs2) {r : (Int × Bool)} (hF : qkG n a_0 a_1 a_2 = some r) : RetV Tryz.prog 33 [GoT.v (Option Tl20Work) cs1, .int .i64 a_1, GoT.v (List Int) cs2] w r := by
 obtain ⟨p1, rfl, s1⟩ := qam ha1
 obtain ⟨p2, k1, rfl, s2⟩ := ha2
 refine zV 74 Tryz.func33 rfl fun h => X0 9 rfl ?_
 obtain ⟨r1, hr1, hF⟩ := qc hF
 obtain ⟨r2, r3⟩ := r1
 refine qbj (r2, r3) h (cB 57 rfl) (qob (h.old s1) hr1) rfl rfl rfl rfl fun w1 S1 us1 hv1 hr2 => ?_
 obtain ⟨S2, S3, cs3, us2, rfl, hv2, hr3⟩ := hv1.cons hr2
 obtain rfl := qW (hv2.sh.own 0 rfl)
 obtain ⟨rfl, h⟩ := hv2.lastB hr3
 refine zp3 rfl (qm qa h rfl rfl rfl fun w2 bb1 h => zs 0 h rfl fun w3 h => X0 12 rfl ?_)
 obtain ⟨o1, hF, hK1⟩ := qc hF
 refine ql ?_
 replace h := h.pick [] rfl
 refine rL (fun m e w' => ∃ (i1 : Int) (i2 : Int), qd7 a_0 a_2 r3 m i1 i2 = some o1 ∧ e = [(0, .pointer p1), (2, .slice p2 a_2.length k1), (9, .bool r3), (10, .int .i64 i1), (11, .int .i64 i2)] ∧ SH w w' []) n ⟨_, _, hF, rfl, h⟩ rfl ?_
 rintro m1 e1 w4 ⟨i1, i2, hF, rfl, h⟩
 rcases m1 with _ | m1
 ·cases hF
 refine zSS ?_
 obtain ⟨KF2, hKF2, o3, hF, hK3⟩ := bindE hF
 refine qbi (fun e w' => ∃ (b1 : Bool), KF2 b1 = some o1 ∧ e = [(0, .pointer p1), (2, .slice p2 a_2.length k1), (9, .bool r3), (10, .int .i64 i1), (11, .int .i64 i2), (26, .bool b1)] ∧ SH w w' []) ?_ ?_
 ·refine X0 6 rfl (qi (t := 24) hF rfl ?_ ?_) <;> intro hF
  ·refine X0 4 rfl ?_
   obtain rfl := qb hF
   exact rG ⟨_, hK3, rfl, h⟩ rfl
  refine X0 3 rfl ?_
  obtain rfl := qb hF
  exact rG ⟨_, hK3, rfl, h⟩ rfl
 rintro e3 w7 ⟨b1, hF, rfl, h⟩
 subst hKF2
 refine qg rfl hF ?_ ?_ <;> intro hF
 ·refine X0 7 rfl ?_
  obtain ⟨y1, hy1, hF, he1, b2, _, q1, cs4, hp1, hq1, rfl, hc2⟩ := s2.ix hF
  refine zxe hp1 hq1 he1 rfl (zc 0 (hc2.below h.below) rfl (X0 4 rfl ?_))
  obtain ⟨KF1, hKF1, o2, hF, hK2⟩ := bindE hF
  refine qbi (fun e w' => ∃ (b3 : Bool), KF1 b3 = some o1 ∧ e = [(0, .pointer p1), (2, .slice p2 a_2.length k1), (9, .bool r3), (11, .int .i64 i2), (12, .int .i64 y1), (63, .bool b3)] ∧ SH w w' []) ?_ ?_
  ·refine X0 3 rfl ?_
   obtain ⟨y4, hy4, hF⟩ := qc hF
   obtain ⟨b6, o_4, cs7, rfl, -, hr8, hc6⟩ := PtR.get s1 hy4
   obtain ⟨p15, k14, p16, k15, p17, k16, p18, k17, p19, k18, p20, k19, p21, k20, p22, k21, p23, k22, p24, k23, p25, k24, p26, k25, rfl, s15, s16, s17, s18, s19, s20, s21, s22, s23, s24, s25, s26⟩ := qkV hr8
   refine zp2 rfl (zc 12 (hc6.below h.below) rfl (zp2 rfl (zcB h hF qac rfl fun r4 w5 h hF => zp2 rfl (qi (t := 42) hF rfl ?_ ?_)))) <;> intro hF
   ·refine X0 22 rfl ?_
    obtain rfl := qb hF
    exact rG ⟨_, hK2, rfl, h⟩ rfl
   refine X0 7 rfl (zc 13 (hc6.below h.below) rfl (X0 3 rfl ?_))
   obtain ⟨y5, hy5, hF, he3, b7, _, q3, cs8, hp3, hq3, rfl, hc7⟩ := s23.ix hF
   refine zxe hp3 hq3 he3 rfl (X0 1 rfl (zc 0 (hc7.below h.below) rfl (X0 4 rfl (qi (t := 52) hF rfl ?_ ?_)))) <;> intro hF
   ·refine X0 12 rfl ?_
    obtain rfl := qb hF
    exact rG ⟨_, hK2, rfl, h⟩ rfl
   refine X0 7 rfl (zc 12 (hc6.below h.below) rfl (X0 3 rfl ?_))
   obtain ⟨y6, hy6, hF, he4, b8, _, q4, cs9, hp4, hq4, hr11, hc8⟩ := s22.ix hF
   obtain rfl := qar hr11
   refine zxe hp4 hq4 he4 rfl (X0 3 rfl (zc 0 (hc8.below h.below) rfl (X0 6 rfl ?_)))
   obtain rfl := qb hF
   exact rG ⟨_, hK2, rfl, h⟩ rfl
  rintro e2 w6 ⟨b3, hF, rfl, h⟩
  subst hKF1
  refine qg rfl hF ?_ ?_ <;> intro hF
  ·refine X0 5 rfl ?_
   obtain rfl := qb hF; replace hF := hK1
   obtain rfl := qb hF
   exact qS qa (ρ := (Int × Bool)) [GoT.v Int [.int .i64 0], GoT.v Bool [.bool false]] h ⟨rfl, rfl, trivial⟩ (PV.done h (qad h (qw (S := fun _ => False) rfl) (qV (qw (S := fun _ => False) rfl)) (by rfl)))
  refine X0 3 rfl ?_
  obtain ⟨y2, hy2, hF⟩ := qc hF
  obtain ⟨b4, o_2, cs5, rfl, -, hr6, hc4⟩ := PtR.get s1 hy2
  obtain ⟨p3, k2, p4, k3, p5, k4, p6, k5, p7, k6, p8, k7, p9, k8, p10, k9, p11, k10, p12, k11, p13, k12, p14, k13, rfl, s3, s4, s5, s6, s7, s8, s9, s10, s11, s12, s13, s14⟩ := qkV hr6
  refine zp2 rfl (zc 12 (hc4.below h.below) rfl (zp1 rfl ?_))
  obtain ⟨y3, hy3, hF, he2, b5, _, q2, cs6, hp2, hq2, hr7, hc5⟩ := s10.ix hF
  obtain rfl := qar hr7
  exact zxe hp2 hq2 he2 rfl (zp1 rfl (zc 1 (hc5.below h.below) rfl (X0 8 rfl (rK ⟨_, _, hF, rfl, h⟩ rfl))))
 refine qr rfl ?_
 obtain rfl := qb hF; replace hF := hK1
 refine X0 7 rfl ?_
 obtain rfl := qb hF
 exact qS qa (ρ := (Int × Bool)) [GoT.v Int [.int .i64 i1], GoT.v Bool [.bool r3]] h ⟨rfl, rfl, trivial⟩ (PV.done h (qad h (qw (S := fun _ => False) rfl) (qV (qw (S := fun _ => False) rfl)) (by rfl)))
def qh5 (n : Nat) (j : qbf) (start : Int) (links : (List Int)) : Option (Int × Int) :=
 (qfu n j).bind fun o => match o with
  | (r2, r3) =>
   bif (r3 != 0) then some (0, r3) else
   (qkG n r2 start links).bind fun o => match o with
    | (r5, r6) =>
     bif (!r6) then some (0, 5) else
     some (r5, 0)
theorem qnL {j : qbf} {start : Int} {links : (List Int)} (ha1 : GoT.R w (old w) j cs1) (ha2 : GoT.R w (old w) links cs2) {r : (Int × Int)} (hF : qh5 n j start links = some r) : RetV Tryz.prog 18 [GoT.v qbf cs1, .int .i64 start, GoT.v (List Int) cs2] w r := by
 obtain ⟨p1, k1, p2, k2, p3, k3, p4, k4, p5, k5, p6, k6, p7, k7, rfl, s1, s2, s3, s4, s5, s6, s7⟩ := qc3 ha1
 obtain ⟨p8, k8, rfl, s8⟩ := ha2
 refine zV 30 Tryz.func18 rfl fun h => zSR (qt h rfl rfl fun w1 bb1 h => X1 6 0 h rfl ?_)
 have hg1 : Rg (old w) w (old w) w := .start (fun _ h => h)
 obtain ⟨r1, hr1, hF⟩ := qc hF
 obtain ⟨r2, r3⟩ := r1
 refine qhY (r2, r3) hg1 h (cB 32 rfl) (qo4 (hg1.regOld h) (hg1.inR h ha1) hr1) rfl rfl rfl rfl fun w2 us1 B1 hg2 hu1 hz1 hv1 => ?_
 have hL1 := h.ext hu1.below
 have s9 := Up.S hg1 h hu1 s8
 have hb1 := h.below.trans (hu1.below.mono h.below.size)
 replace h := hz1
 obtain ⟨cs3, us2, rfl, hr2, hv2⟩ := qkB hv1
 obtain ⟨p9, rfl, s10⟩ := qam hr2
 obtain ⟨cs4, rfl, hr3⟩ := qj1 hv2
 obtain rfl := hr3
 refine X0 12 rfl (qg rfl hF ?_ ?_) <;> intro hF
 ·refine X0 6 rfl ?_
  replace h := h.unbase hg2.below (show NoD [] from trivial)
  obtain rfl := qb hF
  exact qS qa (ρ := (Int × Int)) [GoT.v Int [.int .i64 0], GoT.v Int [.int .i64 r3]] h ⟨rfl, rfl, trivial⟩ (PV.done h (qad h (qw (S := fun _ => False) rfl) (qV (qw (S := fun _ => False) rfl)) (by rfl)))
 refine X0 6 rfl ?_
 obtain ⟨r4, hr4, hF⟩ := qc hF
 obtain ⟨r5, r6⟩ := r4
 refine qbj (r5, r6) h (cB 33 rfl) (qqu (h.old (GoT.mono s10 hg2.old)) ⟨_, _, rfl, (h.oldS (s9.mono hg2.old))⟩ hr4) rfl rfl rfl rfl fun w3 S1 us3 hv3 hr5 => ?_
 obtain ⟨S2, us4, rfl, hv4, hr6⟩ := hv3.consI hr5
 obtain ⟨rfl, h⟩ := hv4.lastB hr6
 refine X0 12 rfl (qg rfl hF ?_ ?_) <;> intro hF
 ·refine X0 5 rfl ?_
  replace h := h.unbase hg2.below (show NoD [] from trivial)
  obtain rfl := qb hF
  exact qS qa (ρ := (Int × Int)) [GoT.v Int [.int .i64 0], GoT.v Int [.int .i64 5]] h ⟨rfl, rfl, trivial⟩ (PV.done h (qad h (qw (S := fun _ => False) rfl) (qV (qw (S := fun _ => False) rfl)) (by rfl)))
 refine X0 7 rfl ?_
 replace h := h.unbase hg2.below (show NoD [] from trivial)
 obtain rfl := qb hF
 exact qS qa (ρ := (Int × Int)) [GoT.v Int [.int .i64 r5], GoT.v Int [.int .i64 0]] h ⟨rfl, rfl, trivial⟩ (PV.done h (qad h (qw (S := fun _ => False) rfl) (qV (qw (S := fun _ => False) rfl)) (by rfl)))
def qir (n : Nat) (v : (Option Tview)) (link : Int) : Option Bool :=
 (v).bind fun y1 =>
 (qcR n y1.links).bind fun r1 =>
 (qaF n link 0 (W64 (r1 - 1))).bind fun r2 =>
 some r2
theorem qnh {v : (Option Tview)} {link : Int} (ha1 : GoT.R w (old w) v cs1) {r : Bool} (hF : qir n v link = some r) : RetV Tryz.prog 159 [GoT.v (Option Tview) cs1, .int .i64 link] w r := by
 obtain ⟨p1, rfl, s1⟩ := qam ha1
 refine zV 13 Tryz.func159 rfl fun h => X0 8 rfl ?_
 obtain ⟨y1, hy1, hF⟩ := qc hF
 obtain ⟨b1, o_1, cs2, rfl, -, hr1, hc1⟩ := PtR.get s1 hy1
 obtain ⟨p2, k1, p3, k2, p4, k3, p5, k4, p6, k5, p7, k6, p8, k7, p9, k8, p10, k9, p11, k10, rfl, s2, s3, s4, s5, s6, s7, s8, s9, s10, s11⟩ := qby hr1
 exact zp2 rfl (zc 6 (hc1.below h.below) rfl (zcI h hF (qhe ⟨_, _, rfl, (h.oldS s8)⟩) rfl fun r1 w1 h hF => zp1 rfl (zcB h hF qau rfl fun r2 w2 h hF => X0 2 rfl (rb h hF rfl))))
def qbY (v : (Option Tview)) (links : (List Int)) : Nat → Int → Option (Flow Bool Int)
 | 0, _ => none
 | n + 1, i1 =>
  bif decide (i1 < (links.length : Int)) then
   (idx links i1).bind fun y1 =>
   (qir n v y1).bind fun r1 =>
   bif (!r1) then some (.ret false) else
   bif decide (i1 > 0) then
    (v).bind fun y2 =>
    (idx links (W64 (i1 - 1))).bind fun y3 =>
    (idx y2.links y3).bind fun y4 =>
    (idx y2.links y1).bind fun y5 =>
    bif (y4.To != y5.Bk) then some (.ret false) else
    qbY v links n (W64 (i1 + 1))
   else
    qbY v links n (W64 (i1 + 1))
  else
   some (.nxt i1)
def qgP (n : Nat) (v : (Option Tview)) (links : (List Int)) : Option Bool :=
 (qbY v links n 0).bind fun o => match o with
 | .ret r => some r
 | .nxt _ =>
  some true
theorem qm6 {v : (Option Tview)} {links : (List Int)} (ha1 : GoT.R w (old w) v cs1) (ha2 : GoT.R w (old w) links cs2) {r : Bool} (hF : qgP n v links = some r) : RetV Tryz.prog 110 [GoT.v (Option Tview) cs1, GoT.v (List Int) cs2] w r := by
 obtain ⟨p1, rfl, s1⟩ := qam ha1
 obtain ⟨p2, k1, rfl, s2⟩ := ha2
 refine zV 46 Tryz.func110 rfl fun h => X0 11 rfl ?_
 obtain ⟨o1, hF, hK1⟩ := qc hF
 refine ql (rL (fun m e w' => ∃ (i1 : Int), qbY v links m i1 = some o1 ∧ e = [(0, .pointer p1), (1, .slice p2 links.length k1), (7, .slice p2 links.length k1), (8, .int .i64 (links.length : Int)), (9, .int .i64 i1)] ∧ SH w w' []) n ⟨_, hF, rfl, h⟩ rfl ?_)
 rintro m1 e1 w1 ⟨i1, hF, rfl, h⟩
 rcases m1 with _ | m1
 ·cases hF
 refine X0 5 rfl (qg rfl hF ?_ ?_) <;> intro hF
 ·refine X0 6 rfl ?_
  obtain ⟨y1, hy1, hF, he1, b1, _, q1, cs3, hp1, hq1, rfl, hc2⟩ := s2.ix hF
  refine zxe hp1 hq1 he1 rfl (zc 0 (hc2.below h.below) rfl (X0 4 rfl (rD (zd2 rfl ?_))))
  obtain ⟨r1, hr2, hF⟩ := qc hF
  refine qbc r1 (vsB _) (cB 159 rfl) (fun _ hb => qnh ((h.ext hb).old s1) hr2) rfl rfl rfl rfl (zd2 rfl (qaI (t := 18) hF rfl ?_ ?_)) <;> intro hF
  ·refine Y0 26 rfl (dN h fun w2 h => qbT rfl rfl (X0 4 rfl ?_))
   obtain rfl := qb hF; replace hF := hK1
   exact rb h hF rfl
  refine Y0 6 rfl (qaI (t := 21) hF rfl ?_ ?_) <;> intro hF
  ·refine Y0 3 rfl ?_
   obtain ⟨y2, hy2, hF⟩ := qc hF
   obtain ⟨b2, o_2, cs4, rfl, -, hr3, hc3⟩ := PtR.get s1 hy2
   obtain ⟨p3, k2, p4, k3, p5, k4, p6, k5, p7, k6, p8, k7, p9, k8, p10, k9, p11, k10, p12, k11, rfl, s3, s4, s5, s6, s7, s8, s9, s10, s11, s12⟩ := qby hr3
   refine Y0 4 rfl (zdc 6 (hc3.below h.below) rfl (Y0 7 rfl ?_))
   obtain ⟨y3, hy3, hF, he2, b3, _, q2, cs5, hp2, hq2, rfl, hc4⟩ := s2.ix hF
   refine zdxe hp2 hq2 he2 rfl (Y0 1 rfl (zdc 0 (hc4.below h.below) rfl (Y0 1 rfl ?_)))
   obtain ⟨y4, hy4, hF, he3, b4, _, q3, cs6, hp3, hq3, hr5, hc5⟩ := s9.ix hF
   obtain rfl := qar hr5
   refine zdxe hp3 hq3 he3 rfl (Y0 3 rfl (zdc 1 (hc5.below h.below) rfl (Y0 7 rfl (zdc 6 (hc3.below h.below) rfl (Y0 3 rfl ?_)))))
   obtain ⟨y5, hy5, hF, he4, b5, _, q4, cs7, hp4, hq4, hr6, hc6⟩ := s9.ix hF
   obtain rfl := qar hr6
   refine zdxe hp4 hq4 he4 rfl (Y0 3 rfl (zdc 0 (hc6.below h.below) rfl (Y0 5 rfl (dN h fun w3 h => qg rfl hF ?_ ?_)))) <;> intro hF
   ·refine X0 4 rfl ?_
    obtain rfl := qb hF; replace hF := hK1
    exact rb h hF rfl
   exact X0 6 rfl (rK ⟨_, hF, rfl, h⟩ rfl)
  exact Y0 24 rfl (dN h fun w4 h => qbQ rfl rfl (X0 6 rfl (rK ⟨_, hF, rfl, h⟩ rfl)))
 refine qr rfl ?_
 obtain rfl := qb hF; replace hF := hK1
 exact X0 4 rfl (rb h hF rfl)
def qet (_ : Nat) (link : Int) (v0 : (Option Twork)) : Option Bool :=
 (v0).bind fun y1 =>
 (y1.graph).bind fun y2 =>
 (idx y2.live link).bind fun y3 =>
 some (!y3)
theorem qk7 {link : Int} {v0 : (Option Twork)} {p1 : Option Addr} (ha1 : GoT.R w (old w) (some v0) [.pointer p1]) {r : Bool} (hF : qet n link v0 = some r) : RetV Tryz.prog 112 [.int .i64 link, .pointer p1] w r := by
 obtain ⟨b1, o_1, cs1, rfl, -, hr1, hc1⟩ := PtR.get ha1 rfl
 obtain ⟨p2, rfl, s1⟩ := qam hr1
 refine zV 15 Tryz.func112 rfl fun h => X0 6 rfl (zc 0 (hc1.below h.below) rfl ?_)
 obtain ⟨y1, hy1, hF⟩ := qc hF
 obtain ⟨b2, o_2, cs2, rfl, -, hr2, hc2⟩ := PtR.get s1 hy1
 obtain ⟨p3, p4, k1, p5, k2, p6, k3, p7, k4, p8, k5, p9, k6, p10, k7, p11, k8, p12, k9, p13, k10, p14, k11, rfl, s2, s3, s4, s5, s6, s7, s8, s9, s10, s11, s12, s13⟩ := qlN hr2
 refine zp2 rfl (zc 0 (hc2.below h.below) rfl ?_)
 obtain ⟨y2, hy2, hF⟩ := qc hF
 obtain ⟨b3, o_3, cs3, rfl, -, hr3, hc3⟩ := PtR.get s2 hy2
 obtain ⟨p15, p16, k12, rfl, s14, s15⟩ := qdg hr3
 refine zp2 rfl (zc 1 (hc3.below h.below) rfl (zp1 rfl ?_))
 obtain ⟨y3, hy3, hF, he1, b4, _, q1, cs4, hp1, hq1, rfl, hc4⟩ := s15.ix hF
 exact zxe hp1 hq1 he1 rfl (zc 0 (hc4.below h.below) rfl (X0 3 rfl (rb h hF rfl)))
def qR (s : (List Int)) (f_0 : (Option Twork)) : Nat → Int → Option (Flow Int Int)
 | 0, _ => none
 | n + 1, i1 =>
  bif decide (i1 < (s.length : Int)) then
   (idx s i1).bind fun y1 =>
   (qet n y1 f_0).bind fun r1 =>
   bif r1 then some (.ret i1) else
   qR s f_0 n (W64 (i1 + 1))
  else
   some (.nxt i1)
def qaD (n : Nat) (s : (List Int)) (f_0 : (Option Twork)) : Option Int :=
 (qR s f_0 n 0).bind fun o => match o with
 | .ret r => some r
 | .nxt _ =>
  some (-1)
theorem qeP {s : (List Int)} {f_0 : (Option Twork)} (ha1 : GoT.R w (old w) s cs1) {p2 : Option Addr} (ha2 : GoT.R w (old w) (some f_0) [.pointer p2]) {r : Int} (hF : qaD n s f_0 = some r) : RetV Tryz.prog 160 [GoT.v (List Int) cs1, .func (.func 112) #[] #[.pointer p2]] w r := by
 obtain ⟨p1, k1, rfl, s1⟩ := ha1
 obtain ⟨b1, o_1, cs2, rfl, -, hr1, hc1⟩ := PtR.get ha2 rfl
 obtain ⟨p3, rfl, s2⟩ := qam hr1
 refine zV 19 Tryz.func160 rfl fun h => X0 11 rfl ?_
 obtain ⟨o1, hF, hK1⟩ := qc hF
 refine ql (rL (fun m e w' => ∃ (i1 : Int), qR s f_0 m i1 = some o1 ∧ e = [(0, .slice p1 s.length k1), (1, .func (.func 112) #[] #[.pointer (some ⟨b1, o_1, none⟩)]), (7, .int .i64 (s.length : Int)), (8, .int .i64 i1)] ∧ SH w w' []) n ⟨_, hF, rfl, h⟩ rfl ?_)
 rintro m1 e1 w1 ⟨i1, hF, rfl, h⟩
 rcases m1 with _ | m1
 ·cases hF
 refine X0 5 rfl (qg rfl hF ?_ ?_) <;> intro hF
 ·refine X0 13 rfl ?_
  obtain ⟨y1, hy1, hF, he1, b2, _, q1, cs3, hp1, hq1, rfl, hc3⟩ := s1.ix hF
  refine zxe hp1 hq1 he1 rfl (zc 0 (hc3.below h.below) rfl (zcB h hF (qk7 (h.old ha2)) rfl fun r1 w2 h hF => qcx (qg rfl hF ?_ ?_))) <;> intro hF
  ·refine X0 5 rfl ?_
   obtain rfl := qb hF; replace hF := hK1
   exact ri h hF rfl
  exact X0 6 rfl (rK ⟨_, hF, rfl, h⟩ rfl)
 refine qr rfl ?_
 obtain rfl := qb hF; replace hF := hK1
 exact X0 4 rfl (ri h hF rfl)
def qT (n : Nat) (s : (List Int)) (f_0 : (Option Twork)) : Option Bool :=
 (qaD n s f_0).bind fun r1 =>
 some (decide (r1 ≥ 0))
theorem qbL {s : (List Int)} {f_0 : (Option Twork)} (ha1 : GoT.R w (old w) s cs1) {p2 : Option Addr} (ha2 : GoT.R w (old w) (some f_0) [.pointer p2]) {r : Bool} (hF : qT n s f_0 = some r) : RetV Tryz.prog 111 [GoT.v (List Int) cs1, .func (.func 112) #[] #[.pointer p2]] w r := by
 obtain ⟨p1, k1, rfl, s1⟩ := ha1
 obtain ⟨b1, o_1, cs2, rfl, -, hr1, hc1⟩ := PtR.get ha2 rfl
 obtain ⟨p3, rfl, s2⟩ := qam hr1
 exact zV 9 Tryz.func111 rfl fun h => X0 8 rfl (zcI h hF (qeP ⟨_, _, rfl, (h.oldS s1)⟩ (h.old ha2)) rfl fun r1 w1 h hF => X0 3 rfl (rb h hF rfl))
def qfw (n : Nat) (a_w : (Option Twork)) (start : Int) (links : (List Int)) : Option Bool :=
 (a_w).bind fun y1 =>
 (qfW n y1.job.Ba start).bind fun o => match o with
  | (_, r3) =>
   (
    bif (!r3) then some true else
    (y1.graph).bind fun y6 =>
    (qgP n y6.view links).bind fun r6 =>
    some (!r6)).bind fun b2 =>
   bif b2 then some false else
   bif decide ((links.length : Int) > 0) then
    (y1.graph).bind fun y2 =>
    (y2.view).bind fun y3 =>
    (idx links 0).bind fun y4 =>
    (idx y3.links y4).bind fun y5 =>
    bif (y5.Bk != start) then some false else
    (qT n links a_w).bind fun r4 =>
    some (!r4)
   else
    (qT n links a_w).bind fun r5 =>
    some (!r5)
theorem ql6 {a_w : (Option Twork)} {start : Int} {links : (List Int)} (ha1 : GoT.R w (old w) a_w cs1) (ha2 : GoT.R w (old w) links cs2) {r : Bool} (hF : qfw n a_w start links = some r) : RetV Tryz.prog 59 [GoT.v (Option Twork) cs1, .int .i64 start, GoT.v (List Int) cs2] w r := by
 obtain ⟨p1, rfl, s1⟩ := qam ha1
 obtain ⟨p2, k1, rfl, s2⟩ := ha2
 refine zV 60 Tryz.func59 rfl fun h => zSR (qt h rfl rfl fun w1 bb1 h => X1 6 0 h rfl ?_)
 obtain ⟨y1, hy1, hF⟩ := qc hF
 obtain ⟨b1, o_1, cs3, rfl, -, hr1, hc1⟩ := PtR.get s1 hy1
 obtain ⟨p3, p4, k2, p5, k3, p6, k4, p7, k5, p8, k6, p9, k7, p10, k8, p11, k9, p12, k10, p13, k11, p14, k12, rfl, s3, s4, s5, s6, s7, s8, s9, s10, s11, s12, s13, s14⟩ := qlN hr1
 refine zp3 rfl (zc 12 (hc1.below h.below) rfl (zp1 rfl ?_))
 obtain ⟨r1, hr2, hF⟩ := qc hF
 obtain ⟨r2, r3⟩ := r1
 refine qbj (r2, r3) h (cB 65 rfl) (qlc ⟨_, _, rfl, (h.oldS s10)⟩ hr2) rfl rfl rfl rfl fun w2 S1 us1 hv1 hr3 => ?_
 obtain ⟨S2, S3, cs4, us2, rfl, hv2, hr4⟩ := hv1.cons hr3
 obtain rfl := qW (hv2.sh.own 0 rfl)
 obtain ⟨rfl, h⟩ := hv2.lastB hr4
 refine zp3 rfl (qm qa h rfl rfl rfl fun w3 bb2 h => zs 0 h rfl fun w4 h => X0 3 rfl ?_)
 obtain ⟨KF1, hKF1, o1, hF, hK1⟩ := bindE hF
 refine qbi (fun e w' => ∃ (b2 : Bool), KF1 b2 = some r ∧ e = [(1, .int .i64 start), (2, .slice p2 links.length k1), (3, .pointer (some ⟨bb1, 0, none⟩)), (32, .bool b2)] ∧ SH w w' [Ch.box bb1 [.pointer (some ⟨b1, o_1, none⟩)] 79]) ?_ ?_
 ·refine X0 4 rfl (qi (t := 21) hF rfl ?_ ?_) <;> intro hF
  ·refine X0 12 rfl ?_
   replace h := h.pick [2] rfl
   obtain rfl := qb hF
   exact rG ⟨_, hK1, rfl, h⟩ rfl
  refine X1 7 2 h rfl (zc 0 (hc1.below h.below) rfl (X0 1 rfl ?_))
  obtain ⟨y6, hy6, hF⟩ := qc hF
  obtain ⟨b7, o_6, cs9, rfl, -, hr12, hc8⟩ := PtR.get s3 hy6
  obtain ⟨p27, p28, k24, rfl, s27, s28⟩ := qdg hr12
  refine X0 4 rfl (zc 0 (hc8.below h.below) rfl (X0 3 rfl (zcB h hF (qm6 (h.old s27) ⟨_, _, rfl, (h.oldS s2)⟩) rfl fun r6 w9 h hF => X0 4 rfl ?_)))
  replace h := h.pick [2] rfl
  obtain rfl := qb hF
  exact rG ⟨_, hK1, rfl, h⟩ rfl
 rintro e1 w10 ⟨b2, hF, rfl, h⟩
 subst hKF1
 refine qg rfl hF ?_ ?_ <;> intro hF
 ·exact X0 4 rfl (rb h hF rfl)
 refine zKSS (rD (zd4 rfl (qaI (t := 36) hF rfl ?_ ?_))) <;> intro hF
 ·refine Y1 2 0 h rfl ?_
  refine Y0 5 rfl (zdc 0 (hc1.below h.below) rfl (Y0 1 rfl ?_))
  obtain ⟨y2, hy2, hF⟩ := qc hF
  obtain ⟨b3, o_2, cs5, rfl, -, hr6, hc3⟩ := PtR.get s3 hy2
  obtain ⟨p15, p16, k13, rfl, s15, s16⟩ := qdg hr6
  refine Y0 4 rfl (zdc 0 (hc3.below h.below) rfl (Y0 1 rfl ?_))
  obtain ⟨y3, hy3, hF⟩ := qc hF
  obtain ⟨b4, o_3, cs6, rfl, -, hr7, hc4⟩ := PtR.get s15 hy3
  obtain ⟨p17, k14, p18, k15, p19, k16, p20, k17, p21, k18, p22, k19, p23, k20, p24, k21, p25, k22, p26, k23, rfl, s17, s18, s19, s20, s21, s22, s23, s24, s25, s26⟩ := qby hr7
  refine Y0 4 rfl (zdc 6 (hc4.below h.below) rfl (Y0 3 rfl ?_))
  obtain ⟨y4, hy4, hF, he1, b5, _, q1, cs7, hp1, hq1, rfl, hc5⟩ := s2.ix hF
  refine zdxe hp1 hq1 he1 rfl (Y0 1 rfl (zdc 0 (hc5.below h.below) rfl (Y0 1 rfl ?_)))
  obtain ⟨y5, hy5, hF, he2, b6, _, q2, cs8, hp2, hq2, hr9, hc6⟩ := s23.ix hF
  obtain rfl := qar hr9
  refine zdxe hp2 hq2 he2 rfl (Y0 3 rfl (zdc 0 (hc6.below h.below) rfl (Y0 5 rfl (dN h fun w5 h => qg rfl hF ?_ ?_)))) <;> intro hF
  ·exact X0 4 rfl (rb h hF rfl)
  exact X0 5 rfl (zcB h hF (qbL ⟨_, _, rfl, (h.oldS s2)⟩ (qgc (x := a_w) 0 h rfl (h.old s1))) rfl fun r4 w6 h hF => X0 3 rfl (rb h hF rfl))
 exact Y0 19 rfl (dN h fun w7 h => qbQ rfl rfl (X0 5 rfl (zcB h hF (qbL ⟨_, _, rfl, (h.oldS s2)⟩ (qgc (x := a_w) 0 h rfl (h.old s1))) rfl fun r5 w8 h hF => X0 3 rfl (rb h hF rfl))))
def qhb (n : Nat) (j : qbf) (mode : Int) (start : Int) (links : (List Int)) : Option ((Option Twork) × Int) :=
 (qid n j mode []).bind fun o => match o with
  | (r2, r3) =>
   bif (r3 == 0) then
    (qfw n r2 start links).bind fun r4 =>
    bif (!r4) then some (none, 5) else
    some (r2, r3)
   else
    some (r2, r3)
theorem qoe {A : Nat → Prop} (hA : ∀ b, A b → old w b) {j : qbf} {mode : Int} {start : Int} {links : (List Int)} (ha1 : GoT.R w A j cs1) (ha2 : GoT.R w A links cs2) {r : ((Option Twork) × Int)} (hF : qhb n j mode start links = some r) : RetG Tryz.prog 34 [GoT.v qbf cs1, .int .i64 mode, .int .i64 start, GoT.v (List Int) cs2] w A r := by
 obtain ⟨p1, k1, p2, k2, p3, k3, p4, k4, p5, k5, p6, k6, p7, k7, rfl, s1, s2, s3, s4, s5, s6, s7⟩ := qc3 ha1
 obtain ⟨p8, k8, rfl, s8⟩ := ha2
 have hg := Rg.start hA
 refine qeF Tryz.func34 rfl (m := 29) rfl rfl (fun h => ?_)
 refine zSR (qt h rfl rfl fun w1 bb1 h => X1 7 0 h rfl ?_)
 obtain ⟨r1, hr1, hF⟩ := qc hF
 obtain ⟨r2, r3⟩ := r1
 refine qhY (r2, r3) hg h (cB 37 rfl) (qo7 (hg.regOld h) (hg.inR h ha1) ⟨_, _, rfl, qm1⟩ hr1) rfl rfl rfl rfl fun w2 us1 B1 hg1 hu1 hz1 hv1 => ?_
 have hL1 := h.ext hu1.below
 have s9 := Up.S hg h hu1 s8
 have hb1 := h.below.trans (hu1.below.mono h.below.size)
 replace h := hz1
 obtain ⟨cs3, us2, rfl, hr2, hv2⟩ := qkB hv1
 obtain ⟨p9, rfl, s10⟩ := qam hr2
 obtain ⟨cs4, rfl, hr3⟩ := qj1 hv2
 obtain rfl := hr3
 refine X0 12 rfl (qi (t := 20) hF rfl ?_ ?_) <;> intro hF
 ·refine X0 7 rfl (zcB h hF (ql6 (h.old (GoT.mono s10 hg1.old)) ⟨_, _, rfl, (h.oldS (s9.mono hg1.old))⟩) rfl fun r4 w3 h hF => X0 4 rfl (qg rfl hF ?_ ?_)) <;> intro hF
  ·refine X0 5 rfl ?_
   obtain rfl := qb hF
   have hv3 : GoRs.Rs (ρ := ((Option Twork) × Int)) h.wc (reg A w h.wc) (none, 5) [GoT.v (Option Twork) [.pointer none], GoT.v Int [.int .i64 5]] := ⟨_, _, rfl, rfl, ⟨_, rfl, rfl⟩⟩
   exact qeQ qa (ρ := ((Option Twork) × Int)) (r := (none, 5)) [GoT.v (Option Twork) [.pointer none], GoT.v Int [.int .i64 5]] (h.unbase hg1.below (show NoD [] from trivial)) ⟨rfl, rfl, trivial⟩ hv3
  refine X0 8 rfl ?_
  obtain rfl := qb hF
  have hv4 : GoRs.Rs (ρ := ((Option Twork) × Int)) h.wc (reg A w h.wc) (r2, r3) [GoT.v (Option Twork) [.pointer p9], GoT.v Int [.int .i64 r3]] := ⟨_, _, rfl, (hg1.outR h (hg1.inR h s10)), ⟨_, rfl, rfl⟩⟩
  exact qeQ qa (ρ := ((Option Twork) × Int)) (r := (r2, r3)) [GoT.v (Option Twork) [.pointer p9], GoT.v Int [.int .i64 r3]] (h.unbase hg1.below (show NoD [] from trivial)) ⟨rfl, rfl, trivial⟩ hv4
 refine X0 7 rfl (qbQ rfl rfl (X0 8 rfl ?_))
 obtain rfl := qb hF
 have hv5 : GoRs.Rs (ρ := ((Option Twork) × Int)) h.wc (reg A w h.wc) (r2, r3) [GoT.v (Option Twork) [.pointer p9], GoT.v Int [.int .i64 r3]] := ⟨_, _, rfl, (hg1.outR h (hg1.inR h s10)), ⟨_, rfl, rfl⟩⟩
 exact qeQ qa (ρ := ((Option Twork) × Int)) (r := (r2, r3)) [GoT.v (Option Twork) [.pointer p9], GoT.v Int [.int .i64 r3]] (h.unbase hg1.below (show NoD [] from trivial)) ⟨rfl, rfl, trivial⟩ hv5
def qbN (a_w : (Option Twork)) (links : (List Int)) : Nat → (List Int) → Int → Option ((List Int) × Int)
 | 0, _, _ => none
 | n + 1, x1, i1 =>
  bif decide (i1 < (links.length : Int)) then
   (idx links i1).bind fun y1 =>
   (a_w).bind fun y2 =>
   (y2.graph).bind fun y3 =>
   (y3.view).bind fun y4 =>
   (idx y4.links y1).bind fun y5 =>
   (appS x1 ([y5.To] : List Int)).bind fun x2 =>
   qbN a_w links n x2 (W64 (i1 + 1))
  else
   some (x1, i1)
def qeY (n : Nat) (a_w : (Option Twork)) (start : Int) (links : (List Int)) : Option (List Int) :=
 (qbN a_w links n ([start] : List Int) 0).bind fun o => match o with
 | (x1, _) =>
  some x1
theorem qlK {a_w : (Option Twork)} {start : Int} {links : (List Int)} (ha1 : GoT.R w (old w) a_w cs1) (ha2 : GoT.R w (old w) links cs2) {r : (List Int)} (hF : qeY n a_w start links = some r) : RetV Tryz.prog 67 [GoT.v (Option Twork) cs1, .int .i64 start, GoT.v (List Int) cs2] w r := by
 obtain ⟨p1, rfl, s1⟩ := qam ha1
 obtain ⟨p2, k1, rfl, s2⟩ := ha2
 refine zV 37 Tryz.func67 rfl fun h => X0 7 rfl (qJ qa [.tmp 10] _ ([start] : List Int) h rfl rfl rfl rfl rfl rfl rfl rfl rfl ⟨rfl, trivial⟩ rfl fun w1 p3 S1 h => X0 9 rfl ?_)
 obtain ⟨o1, hF, hK1⟩ := qc hF
 refine ql (rL (fun m e w' => ∃ (S2 : Nat → Prop) (p4 : Option Addr) (ln1 : Nat) (k2 : Nat) (x1 : (List Int)) (i1 : Int), qbN a_w links m x1 i1 = some o1 ∧ e = [(0, .pointer p1), (7, .slice p4 ln1 k2), (12, .slice p2 links.length k1), (13, .int .i64 (links.length : Int)), (14, .int .i64 i1)] ∧ SH w w' [Ch.own S2 (x1 : List Int) [.slice p4 ln1 k2]]) n ⟨_, _, _, _, _, _, hF, rfl, h⟩ rfl ?_)
 rintro m1 e1 w2 ⟨S2, p4, ln1, k2, x1, i1, hF, rfl, h⟩
 obtain rfl := (h.sl 0 rfl).2
 rcases m1 with _ | m1
 ·cases hF
 refine X0 5 rfl (qg rfl hF ?_ ?_) <;> intro hF
 ·refine zKSBSR ?_
  obtain ⟨y1, hy1, hF, he1, b1, _, q1, cs3, hp1, hq1, rfl, hc2⟩ := s2.ix hF
  refine zxe hp1 hq1 he1 rfl (zc 0 (hc2.below h.below) rfl (X0 5 rfl ?_))
  obtain ⟨y2, hy2, hF⟩ := qc hF
  obtain ⟨b2, o_2, cs4, rfl, -, hr2, hc3⟩ := PtR.get s1 hy2
  obtain ⟨p5, p6, k3, p7, k4, p8, k5, p9, k6, p10, k7, p11, k8, p12, k9, p13, k10, p14, k11, p15, k12, p16, k13, rfl, s3, s4, s5, s6, s7, s8, s9, s10, s11, s12, s13, s14⟩ := qlN hr2
  refine zp2 rfl (zc 0 (hc3.below h.below) rfl ?_)
  obtain ⟨y3, hy3, hF⟩ := qc hF
  obtain ⟨b3, o_3, cs5, rfl, -, hr3, hc4⟩ := PtR.get s3 hy3
  obtain ⟨p17, p18, k14, rfl, s15, s16⟩ := qdg hr3
  refine zp2 rfl (zc 0 (hc4.below h.below) rfl ?_)
  obtain ⟨y4, hy4, hF⟩ := qc hF
  obtain ⟨b4, o_4, cs6, rfl, -, hr4, hc5⟩ := PtR.get s15 hy4
  obtain ⟨p19, k15, p20, k16, p21, k17, p22, k18, p23, k19, p24, k20, p25, k21, p26, k22, p27, k23, p28, k24, rfl, s17, s18, s19, s20, s21, s22, s23, s24, s25, s26⟩ := qby hr4
  refine zp2 rfl (zc 6 (hc5.below h.below) rfl (zp1 rfl ?_))
  obtain ⟨y5, hy5, hF, he2, b5, _, q2, cs7, hp2, hq2, hr5, hc6⟩ := s23.ix hF
  obtain rfl := qar hr5
  refine zxe hp2 hq2 he2 rfl (zp1 rfl (zc 1 (hc6.below h.below) rfl (qJ qa [.tmp 32] _ ([y5.To] : List Int) h rfl rfl rfl rfl rfl rfl rfl rfl rfl ⟨rfl, trivial⟩ rfl fun w3 p29 S3 h => ?_)))
  obtain ⟨x2, hx1, hF⟩ := qc hF
  obtain ⟨g1, hx1⟩ := qax hx1
  refine qct qa 1 h rfl (h.sl 0 rfl).1 (h.sl 0 rfl).2 rfl rfl rfl rfl rfl rfl rfl rfl rfl g1 hx1 rfl fun w4 p30 k25 S4 h => X0 7 rfl ?_
  replace h := h.pick [1] rfl
  exact rK ⟨_, _, _, _, _, _, hF, rfl, h⟩ rfl
 refine qr rfl ?_
 obtain rfl := qb hF; replace hF := hK1
 refine X0 5 rfl ?_
 obtain rfl := qb hF
 exact rO 0 h rfl ⟨rfl, trivial⟩
def qjZ (n : Nat) (j : qbf) (start : Int) (links : (List Int)) : Option ((List Int) × Int) :=
 (qhb n j 0 start links).bind fun o => match o with
  | (r2, r3) =>
   bif (r3 != 0) then some ([], r3) else
   (qeY n r2 start links).bind fun r4 =>
   some (r4, 0)
theorem qnY {j : qbf} {start : Int} {links : (List Int)} (ha1 : GoT.R w (old w) j cs1) (ha2 : GoT.R w (old w) links cs2) {r : ((List Int) × Int)} (hF : qjZ n j start links = some r) : RetV Tryz.prog 39 [GoT.v qbf cs1, .int .i64 start, GoT.v (List Int) cs2] w r := by
 obtain ⟨p1, k1, p2, k2, p3, k3, p4, k4, p5, k5, p6, k6, p7, k7, rfl, s1, s2, s3, s4, s5, s6, s7⟩ := qc3 ha1
 obtain ⟨p8, k8, rfl, s8⟩ := ha2
 refine zV 24 Tryz.func39 rfl fun h => zSR (qt h rfl rfl fun w1 bb1 h => X1 8 0 h rfl ?_)
 have hg1 : Rg (old w) w (old w) w := .start (fun _ h => h)
 obtain ⟨r1, hr1, hF⟩ := qc hF
 obtain ⟨r2, r3⟩ := r1
 refine qhY (r2, r3) hg1 h (cB 34 rfl) (qoe (hg1.regOld h) (hg1.inR h ha1) ⟨_, _, rfl, (hg1.inS h s8)⟩ hr1) rfl rfl rfl rfl fun w2 us1 B1 hg2 hu1 hz1 hv1 => ?_
 have hL1 := h.ext hu1.below
 have s9 := Up.S hg1 h hu1 s8
 have hb1 := h.below.trans (hu1.below.mono h.below.size)
 replace h := hz1
 obtain ⟨cs3, us2, rfl, hr2, hv2⟩ := qkB hv1
 obtain ⟨p9, rfl, s10⟩ := qam hr2
 obtain ⟨cs4, rfl, hr3⟩ := qj1 hv2
 obtain rfl := hr3
 refine X0 12 rfl (qg rfl hF ?_ ?_) <;> intro hF
 ·refine X0 6 rfl ?_
  replace h := h.unbase hg2.below (show NoD [] from trivial)
  obtain rfl := qb hF
  exact qS qa (ρ := ((List Int) × Int)) [GoT.v (List Int) [.slice none 0 0], GoT.v Int [.int .i64 r3]] h ⟨rfl, rfl, trivial⟩ (PV.done h (qad h qgT (qV (qw (S := fun _ => False) rfl)) (by rfl)))
 refine X0 6 rfl (zcL h hF (qlK (h.old (GoT.mono s10 hg2.old)) ⟨_, _, rfl, (h.oldS (s9.mono hg2.old))⟩) rfl fun r4 w3 S1 p10 k9 h hF => X0 3 rfl ?_)
 replace h := h.unbase hg2.below ⟨fun _ h => h, trivial⟩
 obtain rfl := qb hF
 exact qS qa (ρ := ((List Int) × Int)) [GoT.v (List Int) [.slice p10 r4.length k9], GoT.v Int [.int .i64 0]] h ⟨rfl, rfl, trivial⟩ (PV.done h (qad h (qay 0 h rfl) (qV (qw (S := fun _ => False) rfl)) (by rfl)))
def qhN (n : Nat) (j : qbf) (start : Int) (links : (List Int)) : Option (Int × Int) :=
 (qjZ n j start links).bind fun o => match o with
  | (r2, r3) =>
   bif (r3 != 0) then some (0, r3) else
   (idx r2 (W64 ((r2.length : Int) - 1))).bind fun y1 =>
   some (y1, 0)
theorem qnB {j : qbf} {start : Int} {links : (List Int)} (ha1 : GoT.R w (old w) j cs1) (ha2 : GoT.R w (old w) links cs2) {r : (Int × Int)} (hF : qhN n j start links = some r) : RetV Tryz.prog 19 [GoT.v qbf cs1, .int .i64 start, GoT.v (List Int) cs2] w r := by
 obtain ⟨p1, k1, p2, k2, p3, k3, p4, k4, p5, k5, p6, k6, p7, k7, rfl, s1, s2, s3, s4, s5, s6, s7⟩ := qc3 ha1
 obtain ⟨p8, k8, rfl, s8⟩ := ha2
 refine zV 26 Tryz.func19 rfl fun h => zSR (qt h rfl rfl fun w1 bb1 h => X1 8 0 h rfl ?_)
 obtain ⟨r1, hr1, hF⟩ := qc hF
 obtain ⟨r2, r3⟩ := r1
 refine qbj (r2, r3) h (cB 39 rfl) (qnY (h.old ha1) ⟨_, _, rfl, (h.oldS s8)⟩ hr1) rfl rfl rfl rfl fun w2 S1 us1 hv1 hr2 => ?_
 obtain ⟨S2, S3, p9, k9, us2, rfl, hv2, hr3⟩ := hv1.consL hr2
 obtain ⟨rfl, h⟩ := hv2.lastI hr3
 refine X0 12 rfl (qg rfl hF ?_ ?_) <;> intro hF
 ·refine X0 6 rfl ?_
  obtain rfl := qb hF
  exact qS qa (ρ := (Int × Int)) [GoT.v Int [.int .i64 0], GoT.v Int [.int .i64 r3]] h ⟨rfl, rfl, trivial⟩ (PV.done h (qad h (qw (S := fun _ => False) rfl) (qV (qw (S := fun _ => False) rfl)) (by rfl)))
 refine X0 7 rfl ?_
 obtain ⟨y1, hy1, hF, he1, b1, _, q1, cs3, hp1, hq1, rfl, hc2⟩ := (h.sl 0 rfl).1.ix hF
 refine zx hp1 hq1 ⟨he1.1, qU he1.2.1 (h.sl 0 rfl).2⟩ rfl (zc 0 hc2 rfl (X0 3 rfl ?_))
 obtain rfl := qb hF
 exact qS qa (ρ := (Int × Int)) [GoT.v Int [.int .i64 y1], GoT.v Int [.int .i64 0]] h ⟨rfl, rfl, trivial⟩ (PV.done h (qad h (qw (S := fun _ => False) rfl) (qV (qw (S := fun _ => False) rfl)) (by rfl)))
def qlu (n : Nat) (a : qbf) (left : Int) : Option Int :=
 (qjr n (⟨(⟨a.Af.Av.Aq⟩ : qp), (⟨a.Af.Ab.Aa, a.Af.Ab.Am, a.Af.Ab.Aj⟩ : qd), a.Af.Ac⟩ : qf) left).bind fun r1 =>
 bif decide (r1 < 0) then some (-1) else
 (qiJ n (⟨a.Ai.Bb, a.Ai.Au, a.Ai.Ay, a.Ai.As, a.Ai.Az⟩ : qu) r1).bind fun r2 =>
 bif decide (r2 < 0) then some (-1) else
 (qbK n a.Bi r2).bind fun r3 =>
 bif decide (r3 < 0) then some (-1) else
 (qjR n a.Ba r3).bind fun r4 =>
 bif decide (r4 < 0) then some (-1) else
 some r4
theorem qqL {a : qbf} {left : Int} (ha1 : GoT.R w (old w) a cs1) {r : Int} (hF : qlu n a left = some r) : RetV Tryz.prog 7 [GoT.v qbf cs1, .int .i64 left] w r := by
 obtain ⟨p1, k1, p2, k2, p3, k3, p4, k4, p5, k5, p6, k6, p7, k7, rfl, s1, s2, s3, s4, s5, s6, s7⟩ := qc3 ha1
 refine zV 30 Tryz.func7 rfl fun h => zSR (qt h rfl rfl fun w1 bb1 h => X1 7 0 h rfl (zcI h hF (qpr (qhp _ (h.oldS s1) (h.oldS s2) (h.oldS s3) (h.oldS s4) (h.oldS s5))) rfl fun r1 w2 h hF => X0 8 rfl (qg rfl hF ?_ ?_))) <;> intro hF
 ·exact X0 4 rfl (ri h hF rfl)
 refine X1 6 0 h rfl (zcI h hF (qoh (qeC _)) rfl fun r2 w3 h hF => X0 8 rfl (qg rfl hF ?_ ?_)) <;> intro hF
 ·exact X0 4 rfl (ri h hF rfl)
 refine X1 6 0 h rfl (zcI h hF (qbu ⟨_, _, rfl, (h.oldS s6)⟩) rfl fun r3 w4 h hF => X0 8 rfl (qg rfl hF ?_ ?_)) <;> intro hF
 ·exact X0 4 rfl (ri h hF rfl)
 refine X1 6 0 h rfl (zcI h hF (qnS ⟨_, _, rfl, (h.oldS s7)⟩) rfl fun r4 w5 h hF => X0 8 rfl (qg rfl hF ?_ ?_)) <;> intro hF
 ·exact X0 4 rfl (ri h hF rfl)
 exact X0 6 rfl (ri h hF rfl)
def qiq (n : Nat) (a : qbf) : Option qbf :=
 (qjD n (⟨(⟨a.Af.Av.Aq⟩ : qp), (⟨a.Af.Ab.Aa, a.Af.Ab.Am, a.Af.Ab.Aj⟩ : qd), a.Af.Ac⟩ : qf)).bind fun r1 =>
 (qiE n (⟨a.Ai.Bb, a.Ai.Au, a.Ai.Ay, a.Ai.As, a.Ai.Az⟩ : qu)).bind fun r2 =>
 (qaN n a.Bi).bind fun r3 =>
 (qhT n a.Ba).bind fun r4 =>
 some (⟨r1, (⟨r2.Bb, r2.Au, r2.Ay, r2.As, r2.Az⟩ : qu), r3, r4⟩ : qbf)
theorem qkZ {a : qbf} (ha1 : GoT.R w (old w) a cs1) {r : qbf} (hF : qiq n a = some r) : RetV Tryz.prog 9 [GoT.v qbf cs1] w r := by
 obtain ⟨p1, k1, p2, k2, p3, k3, p4, k4, p5, k5, p6, k6, p7, k7, rfl, s1, s2, s3, s4, s5, s6, s7⟩ := qc3 ha1
 refine zV 21 Tryz.func9 rfl fun h => zSR (qt h rfl rfl fun w1 bb1 h => qm qa h rfl rfl rfl fun w2 bb2 h => zNSR (qm qa h rfl rfl rfl fun w3 bb3 h => X1 5 2 h rfl (zcO h hF (qpq (qhp _ (h.oldS s1) (h.oldS s2) (h.oldS s3) (h.oldS s4) (h.oldS s5))) rfl fun r1 w4 S1 cs2 h hF => ?_)))
 obtain ⟨p8, k8, p9, k9, p10, k10, p11, k11, p12, k12, rfl, -, -, -, -, -⟩ := qZ (h.own 0 rfl)
 refine zp1 rfl (zs 1 h rfl fun w5 h => X1 5 3 h rfl (zcO h hF (qoq (qeC _)) rfl fun r2 w6 S2 cs3 h hF => ?_))
 obtain rfl := qaB (h.own 0 rfl)
 refine zp1 rfl (zs 2 h rfl fun w7 h => X1 5 4 h rfl (zcL h hF (qaG ⟨_, _, rfl, (h.oldS s6)⟩) rfl fun r3 w8 S3 p13 k13 h hF => zp1 rfl (zs 3 h rfl fun w9 h => X1 5 5 h rfl (zcL h hF (qoa ⟨_, _, rfl, (h.oldS s7)⟩) rfl fun r4 w10 S4 p14 k14 h hF => zp1 rfl (zs 4 h rfl fun w11 h => X1 4 4 h rfl (zs 5 h rfl fun w12 h => qcx ?_))))))
 obtain rfl := qb hF
 exact qS qa (ρ := qbf) [GoT.v qbf [.slice p8 r1.Av.Aq.length k8, .slice p9 r1.Ab.Aa.length k9, .slice p10 r1.Ab.Am.length k10, .slice p11 r1.Ab.Aj.length k11, .slice p12 r1.Ac.length k12, .string r2.Bb, .int .i64 r2.Au, .int .i64 r2.Ay, .int .i64 r2.As, .int .i64 r2.Az, .slice p13 r3.length k13, .slice p14 r4.length k14]] h ⟨⟨_, _, _, rfl, rfl, h.box 5 rfl, rfl⟩, trivial⟩ (PV.done h (qV (qwz (⟨r1, (⟨r2.Bb, r2.Au, r2.Ay, r2.As, r2.Az⟩ : qu), r3, r4⟩ : qbf) h (qay 3 h rfl) (qw (S := fun _ => False) (qeC (⟨r2.Bb, r2.Au, r2.Ay, r2.As, r2.Az⟩ : qu))) (qay 1 h rfl) (qay 0 h rfl) (by rfl) (by rfl) (by rfl))))
def qlT (n : Nat) (a : qbf) (b : qbf) : Option Bool :=
 (qjt n (⟨(⟨a.Af.Av.Aq⟩ : qp), (⟨a.Af.Ab.Aa, a.Af.Ab.Am, a.Af.Ab.Aj⟩ : qd), a.Af.Ac⟩ : qf) (⟨(⟨b.Af.Av.Aq⟩ : qp), (⟨b.Af.Ab.Aa, b.Af.Ab.Am, b.Af.Ab.Aj⟩ : qd), b.Af.Ac⟩ : qf)).bind fun r1 =>
 bif (!r1) then some false else
 (qiL n (⟨a.Ai.Bb, a.Ai.Au, a.Ai.Ay, a.Ai.As, a.Ai.Az⟩ : qu) (⟨b.Ai.Bb, b.Ai.Au, b.Ai.Ay, b.Ai.As, b.Ai.Az⟩ : qu)).bind fun r2 =>
 bif (!r2) then some false else
 (qbg n a.Bi b.Bi).bind fun r3 =>
 bif (!r3) then some false else
 (qh6 n a.Ba b.Ba).bind fun r4 =>
 bif (!r4) then some false else
 some true
theorem qqA {a : qbf} {b : qbf} (ha1 : GoT.R w (old w) a cs1) (ha2 : GoT.R w (old w) b cs2) {r : Bool} (hF : qlT n a b = some r) : RetV Tryz.prog 11 [GoT.v qbf cs1, GoT.v qbf cs2] w r := by
 obtain ⟨p1, k1, p2, k2, p3, k3, p4, k4, p5, k5, p6, k6, p7, k7, rfl, s1, s2, s3, s4, s5, s6, s7⟩ := qc3 ha1
 obtain ⟨p8, k8, p9, k9, p10, k10, p11, k11, p12, k12, p13, k13, p14, k14, rfl, s8, s9, s10, s11, s12, s13, s14⟩ := qc3 ha2
 refine zV 29 Tryz.func11 rfl fun h => zSR (qt h rfl rfl fun w1 bb1 h => qt h rfl rfl fun w2 bb2 h => X2 9 1 0 h rfl (zcB h hF (qpn (qhp _ (h.oldS s1) (h.oldS s2) (h.oldS s3) (h.oldS s4) (h.oldS s5)) (qhp _ (h.oldS s8) (h.oldS s9) (h.oldS s10) (h.oldS s11) (h.oldS s12))) rfl fun r1 w3 h hF => X0 2 rfl (qg rfl hF ?_ ?_))) <;> intro hF
 ·exact X0 4 rfl (rb h hF rfl)
 refine X2 8 1 0 h rfl (zcB h hF (qoM (qeC _) (qeC _)) rfl fun r2 w4 h hF => X0 2 rfl (qg rfl hF ?_ ?_)) <;> intro hF
 ·exact X0 4 rfl (rb h hF rfl)
 refine X2 8 1 0 h rfl (zcB h hF (qa4 ⟨_, _, rfl, (h.oldS s6)⟩ ⟨_, _, rfl, (h.oldS s13)⟩) rfl fun r3 w5 h hF => X0 2 rfl (qg rfl hF ?_ ?_)) <;> intro hF
 ·exact X0 4 rfl (rb h hF rfl)
 refine X2 8 1 0 h rfl (zcB h hF (qnO ⟨_, _, rfl, (h.oldS s7)⟩ ⟨_, _, rfl, (h.oldS s14)⟩) rfl fun r4 w6 h hF => X0 2 rfl (qg rfl hF ?_ ?_)) <;> intro hF
 ·exact X0 4 rfl (rb h hF rfl)
 exact X0 5 rfl (rb h hF rfl)
end Go.Fw


namespace Go.Fw
open Go
def qlE (x : qu) : Prop := rngS x.Bb ∧ rngI x.Au ∧ rngI x.Ay ∧ rngI x.As ∧ rngI x.Az
def qkj (x : qu) : Nat := x.Bb.size
structure qrd (x : qu) : Prop where
 Bb : okS x.Bb
 Au : okI x.Au
 Ay : okI x.Ay
 As : okI x.As
 Az : okI x.Az
theorem qsQ {x : qu} (h : qlE x) (w : qkj x ≤ 1048576) : qrd x := ⟨(by unfold okS; simp only [qkj] at w; omega), h.2.1, h.2.2.1, h.2.2.2.1, h.2.2.2.2⟩
theorem quw {a : qu} (_ : qkj a ≤ 1048576) : Ev (fun n => qiL n a a) true := by
 unfold qiL
 exact Ev.ff qh8 (Ev.ff qaX (Ev.ff qaX (Ev.ff qaX (Ev.ff qaX (.done)))))
def qnI (x : qh) : Prop := rngI x.Ap ∧ rngI x.Bf
structure qrE (x : qh) : Prop where
 Ap : okI x.Ap
 Bf : okI x.Bf
theorem qq4 {x : qh} (h : qnI x) : qrE x := ⟨h.1, h.2⟩
def qis (x : qe) : Prop := rngI x.Bo ∧ qnI x.Ah ∧ qnI x.Bd
structure qoP (x : qe) : Prop where
 Bo : okI x.Bo
 Ah : qrE x.Ah
 Bd : qrE x.Bd
theorem qsc {x : qe} (h : qis x) : qoP x := ⟨h.1, qq4 (h.2.1), qq4 (h.2.2)⟩
def qhC (a : (List qe)) : Nat := a.length
theorem qrT {a : (List qe)} (h : (rngL qis) a) (w : qhC a ≤ 1048576) : (okL qoP) a :=
 ⟨by simp only [qhC] at w; omega, fun x hx => qsc (h.2 x hx)⟩
def qpz (x : qbf) : Prop := qmS x.Af ∧ qlE x.Ai ∧ (rngL rngI) x.Bi ∧ (rngL qis) x.Ba
def qlX (x : qbf) : Nat := qhS x.Af + qkj x.Ai + qcq x.Bi + qhC x.Ba
structure qqp (x : qbf) : Prop where
 Af : qlb x.Af
 Ai : qrd x.Ai
 Bi : (okL okI) x.Bi
 Ba : (okL qoP) x.Ba
theorem qvs {x : qbf} (h : qpz x) (w : qlX x ≤ 1048576) : qqp x := ⟨qtJ (h.1) (by simp only [qlX] at w; omega), qsQ (h.2.1) (by simp only [qlX] at w; omega), qdh (h.2.2.1) (by simp only [qlX] at w; omega), qrT (h.2.2.2) (by simp only [qlX] at w; omega)⟩
theorem qt6 {a : qh} : Ev (fun n => qiS n a a) true := by
 unfold qiS
 exact Ev.ff qaX (Ev.ff qaX (.done))
theorem quF {a : qe} : Ev (fun n => qgY n a a) true := by
 unfold qgY
 exact Ev.ff qaX (Ev.bind (qt6 (a := a.Ah)) (Ev.ff rfl (Ev.bind (qt6 (a := a.Bd)) (Ev.ff rfl (.done)))))
theorem qtn {a : (List qe)} (h : qhC a ≤ 1048576) : Ev (fun n => qh6 n a a) true := by
 have hl : a.length ≤ 1048576 := by simp only [qhC] at h; omega
 unfold qh6
 exact Ev.ff (by simp) (Ev.bind (b := .nxt (a.length : Int)) (qiI (eqf := qgY) (fun x hx => quF)
  (fun n => by simp only [qey, qk (jb _), cond_false])
  (fun n j x hx => by
   have hj := (List.getElem?_eq_some_iff.1 hx).1
   simp only [qey, qj hj, cond_true, qaw hx, ja, wS j])) .done)
theorem qxT {a : qbf} (h : qlX a ≤ 1048576) : Ev (fun n => qlT n a a) true := by
 unfold qlT
 simp only [qlX] at h
 exact Ev.bind (qvX (a := a.Af) (by omega)) (Ev.ff rfl (Ev.bind (quw (a := a.Ai) (by omega)) (Ev.ff rfl (Ev.bind (qfh (a := a.Bi) (by omega)) (Ev.ff rfl (Ev.bind (qtn (a := a.Ba) (by omega)) (Ev.ff rfl (.done))))))))
theorem quO {a : qu} {left : Int} (h : qlE a) (h0 : 0 ≤ left) (h1 : left ≤ 1048576) : Sz (fun n => qiJ n a left) (fun r => r = left - (qkj a : Int)) := by
 unfold qiJ
 obtain ⟨h_0, h_1, h_2, h_3, h_4⟩ := h
 exact Sz.strStep h_0 (by omega) (by omega) fun p0 q0 => Sz.done p0 (by simp only [qkj]; omega)
theorem qtr {a : (List qe)} {left : Int} (h : (rngL qis) a) (h0 : 0 ≤ left) (h1 : left ≤ 1048576) : Sz (fun n => qjR n a left) (fun r => r = left - (qhC a : Int)) :=
 Sz.less h0 h1 (by omega) (by have := h.1; omega) (fun _ => rfl)
theorem qxB {a : qbf} {left : Int} (h : qpz a) (h0 : 0 ≤ left) (h1 : left ≤ 1048576) : Sz (fun n => qlu n a left) (fun r => r = left - (qlX a : Int)) := by
 unfold qlu
 obtain ⟨h_0, h_1, h_2, h_3⟩ := h
 exact Sz.step (qvi (a := a.Af) h_0 (by omega) (by omega)) fun r0 p0 q0 => Sz.step (quO (a := a.Ai) h_1 (by omega) (by omega)) fun r1 p1 q1 => Sz.step (qfQ (a := a.Bi) h_2 (by omega) (by omega)) fun r2 p2 q2 => Sz.step (qtr (a := a.Ba) h_3 (by omega) (by omega)) fun r3 p3 q3 => Sz.done p3 (by simp only [qlX]; omega)
theorem qux {a : qu} (_ : qkj a ≤ 1048576) : Ev (fun n => qiE n a) a := by
 unfold qiE
 exact .done
theorem qtV {a : qh} : Ev (fun n => qi4 n a) a := by
 unfold qi4
 exact .done
theorem quv {a : qe} : Ev (fun n => qha n a) a := by
 unfold qha
 exact Ev.bind (qtV (a := a.Ah)) (Ev.bind (qtV (a := a.Bd)) (.done))
theorem qs5 {a : (List qe)} (h : qhC a ≤ 1048576) : Ev (fun n => qhT n a) a := by
 have hl : a.length ≤ 1048576 := by simp only [qhC] at h; omega
 unfold qhT
 exact Ev.bindN (qhI (by omega)) (Ev.bind (b := (a, (a.length : Int))) (qiF (cp := qha) (fun x hx => quv)
  (fun acc n => by simp only [qex, qk (jb _), cond_false])
  (fun acc n j x y hx hy => by
   have hj := (List.getElem?_eq_some_iff.1 hx).1
   simp only [qex, qj hj, cond_true, qaw hx, qaw hy, ja, wS j])) .done)
theorem qtq {a : qbf} (h : qlX a ≤ 1048576) : Ev (fun n => qiq n a) a := by
 unfold qiq
 simp only [qlX] at h
 exact Ev.bind (qu8 (a := a.Af) (by omega)) (Ev.bind (qux (a := a.Ai) (by omega)) (Ev.bind (qdZ (a := a.Bi) (by omega)) (Ev.bind (qs5 (a := a.Ba) (by omega)) (.done))))
end Go.Fw


namespace Go.Fw
open Go
set_option maxRecDepth 100000
abbrev lkB (b : qf) : Nat := (linksL b).length
abbrev ndB (b : qf) : Nat := 2 * (places b.Ab).length
abbrev lvJ (b : qf) (br : List Int) : List Bool := lvB br (lkB b)
def grB (b : qf) (br : List Int) : Option Tgraph := some ⟨some (viewV b), lvJ b br⟩
structure TgOk (b : qf) (c : qu) (br : List Int) (xs : List qe) (R : List Nat) : Prop where
 bl : blockB b = true
 co : cornerB c = true
 br_ : brB br (lkB b) = true
 sr : srcB xs (ndB b) = true
 or_ : ordL (linksL b) (lvJ b br) (ndB b) (ndB b) [] = some R
theorem TgOk.ord {b : qf} {c : qu} {br : List Int} {xs : List qe} {R : List Nat} (h : TgOk b c br xs R) : OrdOk (lkB b) (frL (linksL b)) (toL (linksL b)) (lvL (lvJ b br)) (ndB b) R :=
 qwH (ndB b) [] R (fun l1 k l2 e => by cases l1 <;> cases e) h.or_
theorem TgOk.len {b : qf} {c : qu} {br : List Int} {xs : List qe} {R : List Nat} (h : TgOk b c br xs R) : R.length = ndB b := by
 have := qvn (ndB b) [] R h.or_
 simpa using this
theorem qlS {x : Int} (h : x ≠ 0) : (x != 0) = true := by simpa using h
theorem qyb {b : qf} {c : qu} {br : List Int} {xs : List qe} (hb : qlb b) (hc : okS c.Bb) (hbl : br.length ≤ 1048576) (hxl : xs.length ≤ 1048576) :
  (∃ code : Int, code ≠ 0 ∧ Ev (fun n => qh1 n b c br xs) ([], code) ∧ Ev (fun n => qff n b c br xs none) (none, [], code)) ∨
  ∃ R, TgOk b c br xs R ∧ Ev (fun n => qh1 n b c br xs) (ints R, 0) ∧ Ev (fun n => qff n b c br xs none) (grB b br, ints R, 0) := by
 have s1 := qoR hb
 have i1 := qtg hb
 have s2 := qr1 (c := c) hc
 have i2 := qse (c := c) hc
 unfold qh1 qff
 cases h1 : blockB b
 ·rw [h1] at s1 i1
  exact .inl ⟨1, by omega, Ev.bind (b := true) (Ev.bind s1 (Ev.tt rfl .done)) (Ev.tt rfl .done), Ev.bind (b := true) (Ev.bind i1 (Ev.tt rfl .done)) (Ev.tt rfl .done)⟩
 cases h2 : cornerB c
 ·rw [h1] at s1 i1
  rw [h2] at s2 i2
  exact .inl ⟨1, by omega, Ev.bind (b := true) (Ev.bind s1 (Ev.ff rfl (Ev.bind s2 .done))) (Ev.tt rfl .done), Ev.bind (b := true) (Ev.bind i1 (Ev.ff rfl (Ev.bind i2 .done))) (Ev.tt rfl .done)⟩
 have hpl := qbH (qaj (qaE h1))
 have hll := qhw h1
 have hk := qmP h1
 have s3 := qtx (br := br) hb h1 hbl
 have i3 := qsC (v := viewV b) (br := br) hbl hll
 have s4 := qqz (xs := xs) h1 hxl
 have i4 := qqK (v := viewV b) (xs := xs) hpl hxl
 have ev : (viewV b).links = linksL b := rfl
 have ep : (viewV b).places = places b.Ab := rfl
 rw [ev] at i3
 rw [ep] at i4
 rw [h1] at s1 i1
 rw [h2] at s2 i2
 have sA : Ev (fun n => (qgL n b).bind fun r6 => bif (!r6) then some true else (qg6 n c).bind fun r7 => some (!r7)) false := Ev.bind s1 (Ev.ff rfl (Ev.bind s2 .done))
 have iA : Ev (fun n => (qh2 n b).bind fun r6 => bif (!r6) then some true else (qg9 n c).bind fun r7 => some (!r7)) false := Ev.bind i1 (Ev.ff rfl (Ev.bind i2 .done))
 have nv := qs4 h1
 cases h3 : brB br (lkB b)
 ·rw [h3] at s3 i3
  exact .inl ⟨2, by omega, Ev.bind sA (Ev.ff rfl (Ev.bind (b := true) (Ev.bind s3 (Ev.tt rfl .done)) (Ev.tt rfl .done))),
   Ev.bind iA (Ev.ff rfl (Ev.bind nv (Ev.bind (b := false) (Ev.ff rfl .done) (Ev.ff rfl (Ev.bind (b := true) (Ev.bind i3 (Ev.tt rfl .done)) (Ev.tt rfl .done))))))⟩
 cases h4 : srcB xs (ndB b)
 ·rw [h3] at s3 i3
  rw [h4] at s4 i4
  exact .inl ⟨2, by omega, Ev.bind sA (Ev.ff rfl (Ev.bind (b := true) (Ev.bind s3 (Ev.ff rfl (Ev.bind s4 .done))) (Ev.tt rfl .done))),
   Ev.bind iA (Ev.ff rfl (Ev.bind nv (Ev.bind (b := false) (Ev.ff rfl .done) (Ev.ff rfl (Ev.bind (b := true) (Ev.bind i3 (Ev.ff rfl (Ev.bind i4 .done))) (Ev.tt rfl .done))))))⟩
 have i5 := qtD (v := viewV b) (br := br) hll h3
 rw [ev] at i5
 have s5 := qnv (ls := linksL b) (br := br) hll hbl
 have hlv : (lvJ b br).length = lkB b := qpJ
 have s6 := quz (lv := lvJ b br) hk hlv
 have i6 := quq (b := b) (ps := places b.Ab) (lo := pre (load0 b) b.Ac.length) (de := pre (exactL b) b.Ac.length) (ex := []) (lv := lvJ b br) hk hlv rfl
 rw [h3] at s3 i3
 rw [h4] at s4 i4
 have sB : Ev (fun n => (qgJ n b br).bind fun r4 => bif (r4 != 0) then some true else (qfM n b xs).bind fun r5 => some (!r5)) false := Ev.bind s3 (Ev.ff rfl (Ev.bind s4 .done))
 have iB : Ev (fun n => (qea n (some (viewV b)) br).bind fun r6 => bif (!r6) then some true else (qda n (some (viewV b)) xs).bind fun r7 => some (!r7)) false := Ev.bind i3 (Ev.ff rfl (Ev.bind i4 .done))
 have sT : ∀ r : List Int × Int, Ev (fun n => (qg2 n (ndB b : Int) (linksL b) (lvJ b br)).bind fun o => match o with | (r6, r7) => bif (!r7) then some (([] : List Int), (7 : Int)) else some (r6, 0)) r → Ev (fun n => qee n b br) r := fun r hr => by
  unfold qee
  exact Ev.bind s3 (Ev.ff rfl (Ev.bind (qiZ h1) (Ev.bind (qmu h1) (Ev.bind s5 hr))))
 cases ho : ordL (linksL b) (lvJ b br) (ndB b) (ndB b) [] with
 | none =>
  have e : ordR (linksL b) (lvJ b br) (ndB b) = ([], false) := by unfold ordR; rw [ho]
  rw [e] at s6 i6
  exact .inl ⟨7, by omega, Ev.bind sA (Ev.ff rfl (Ev.bind sB (Ev.ff rfl (Ev.bind (sT ([], 7) (Ev.bind s6 (Ev.tt rfl .done))) .done)))),
   Ev.bind iA (Ev.ff rfl (Ev.bind nv (Ev.bind (b := false) (Ev.ff rfl .done) (Ev.ff rfl (Ev.bind iB (Ev.ff rfl (Ev.bind i5 (Ev.bind i6 (Ev.tt rfl .done)))))))))⟩
 | some R =>
  have e : ordR (linksL b) (lvJ b br) (ndB b) = (ints R, true) := by unfold ordR; rw [ho]
  rw [e] at s6 i6
  exact .inr ⟨R, ⟨h1, h2, h3, h4, ho⟩, Ev.bind sA (Ev.ff rfl (Ev.bind sB (Ev.ff rfl (Ev.bind (sT (ints R, 0) (Ev.bind s6 (Ev.ff rfl .done))) .done)))),
   Ev.bind iA (Ev.ff rfl (Ev.bind nv (Ev.bind (b := false) (Ev.ff rfl .done) (Ev.ff rfl (Ev.bind iB (Ev.ff rfl (Ev.bind i5 (Ev.bind i6 (Ev.ff rfl .done)))))))))⟩
structure WkOk (j : qbf) (t : qx) (R : List Nat) : Prop where
 tg : TgOk j.Af j.Ai j.Bi j.Ba R
 tm : TmOk t (ndB j.Af)
def wkV (j : qbf) (t : qx) (R : List Nat) : Option Twork := some ⟨grB j.Af j.Bi, j, t, ints R⟩
theorem qwq {j : qbf} (h : qqp j) :
  (∃ code : Int, code ≠ 0 ∧ Ev (fun n => qdc n j.Af j.Ai j.Bi j.Ba) (zT, code) ∧ Ev (fun n => qjg n j) (none, code)) ∨
  ∃ t R, WkOk j t R ∧ Ev (fun n => qdc n j.Af j.Ai j.Bi j.Ba) (t, 0) ∧ Ev (fun n => qjg n j) (wkV j t R, 0) := by
 have hbl := h.Bi.len
 have hxl := h.Ba.len
 unfold qdc qjg
 rcases qyb h.Af h.Ai.Bb hbl hxl with ⟨code, hne, hs, hi⟩ | ⟨R, hg, hs, hi⟩
 ·exact .inl ⟨code, hne, Ev.bind hs (Ev.tt (qlS hne) .done), Ev.bind hi (Ev.tt (qlS hne) .done)⟩
 ·have h1 := hg.bl
  have hll := qhw h1
  have s5 := qnv (ls := linksL j.Af) (br := j.Bi) hll hbl
  obtain ⟨f, hf⟩ := qvl h1 hg.co
  have hpl := qbH (qaj (qaE h1))
  have hRl := hg.len
  obtain ⟨o, o1, o2, o3⟩ := qxV (lv := lvJ j.Af j.Bi) (R := R) h1 hf qpJ (qwQ hxl hg.sr) (fun i hi => ⟨(hg.ord.at hi).1, (hg.ord.at hi).2.1⟩) (by show R.length ≤ 1000; rw [hRl]; show 2 * (places j.Af.Ab).length ≤ 1000; omega)
  cases o with
  | none => exact .inl ⟨3, by omega, Ev.bind hs (Ev.ff rfl (Ev.bind (qiZ h1) (Ev.bind s5 (Ev.bind o2 (Ev.tt rfl .done))))), Ev.bind hi (Ev.ff rfl (Ev.bind o3 (Ev.tt rfl .done)))⟩
  | some t => exact .inr ⟨t, R, ⟨hg, o1 t rfl⟩, Ev.bind hs (Ev.ff rfl (Ev.bind (qiZ h1) (Ev.bind s5 (Ev.bind o2 (Ev.ff rfl .done))))), Ev.bind hi (Ev.ff rfl (Ev.bind o3 (Ev.ff rfl .done)))⟩
end Go.Fw


namespace Go.Fw
open Go
set_option maxRecDepth 100000
def swV (j : qbf) (t : qx) : Option Tl20Work := some ⟨j, linksL j.Af, lvJ j.Af j.Bi, t⟩
theorem qwV {j : qbf} (h : qqp j) :
  (∃ code : Int, code ≠ 0 ∧ Ev (fun n => qfu n j) (none, code) ∧ ∀ mode nodes, Ev (fun n => qid n j mode nodes) (none, code)) ∨
  ∃ t R, WkOk j t R ∧ Ev (fun n => qfu n j) (swV j t, 0) ∧ ∀ mode nodes, nodes.length ≤ 1048576 → (mode = 0 ∨ mode = 1) →
   Ev (fun n => qid n j mode nodes) (bif nodes.all (fun x => inI x 0 ((ndB j.Af : Int) - 1)) then (wkV j t R, 0) else (none, 4)) := by
 have hbl := h.Bi.len
 unfold qfu qid
 rcases qwq h with ⟨code, hne, hs, hi⟩ | ⟨t, R, hw, hs, hi⟩
 ·exact .inl ⟨code, hne, Ev.bind hs (Ev.tt (qlS hne) .done), fun mode nodes => Ev.bind hi (Ev.tt (qlS hne) .done)⟩
 ·have h1 := hw.tg.bl
  have hll := qhw h1
  have hpl := qbH (qaj (qaE h1))
  have s5 := qnv (ls := linksL j.Af) (br := j.Bi) hll hbl
  refine .inr ⟨t, R, hw, Ev.bind hs (Ev.ff rfl (Ev.bind (qiZ h1) (Ev.bind s5 .done))), fun mode nodes hn hm => Ev.bind hi (Ev.ff rfl ?_)⟩
  have hnd := qpQ (v := viewV j.Af) hpl
  have e1 : W64 (((2 * (viewV j.Af).places.length : Nat) : Int) - 1) = (ndB j.Af : Int) - 1 := by
   show W64 (((2 * (places j.Af.Ab).length : Nat) : Int) - 1) = _
   rw [qav (by omega) (by omega)]
  unfold wkV grB
  simp only [ja, hnd, e1]
  refine Ev.bind (qeG hn) ?_
  cases nodes.all fun x => inI x 0 ((ndB j.Af : Int) - 1)
  ·exact Ev.tt rfl .done
  ·refine Ev.ff rfl ?_
   rcases hm with rfl | rfl <;> exact Ev.bind (b := true) (Ev.now rfl) (Ev.ff rfl .done)
theorem qrL {j : qbf} {t : qx} {node : Int} (hl : j.Ba.length ≤ 1048576) : Ev (fun n => qih n (swV j t) node) ((srcV (srcO j.Ba node)).2, (srcV (srcO j.Ba node)).1) := by
 have h1 : Ev (fun n => qcm (swV j t) node n 0) (match srcO j.Ba node with | some y => .ret (y, true) | none => .nxt (j.Ba.length : Int)) := by
  have main : ∀ d i, i + d = j.Ba.length → (j.Ba.take i).find? (fun s => s.Bo == node) = none → Ev (fun n => qcm (swV j t) node n (i : Int)) (match srcO j.Ba node with | some y => .ret (y, true) | none => .nxt (j.Ba.length : Int)) := by
   intro d
   induction d with
   | zero =>
    intro i hi hn
    obtain rfl : i = j.Ba.length := by omega
    rw [jB] at hn
    unfold srcO
    rw [hn]
    refine Ev.succ ?_
    simp only [qcm, swV, ja, qk (jb _), cond_false]
    exact .done
   | succ d ih =>
    intro i hi hn
    have hil : i < j.Ba.length := by omega
    refine Ev.succ ?_
    simp only [qcm, swV, ja, qj hil, cond_true, qB hil, wS i]
    cases hq : (gt j.Ba i).Bo == node
    ·refine ih (i + 1) (by omega) ?_
     rw [ju hil, List.find?_append, hn, ← qeU hil, List.find?_cons_of_neg (by simp [hq])]
     rfl
    ·have hd : j.Ba.drop i = gt j.Ba i :: j.Ba.drop (i + 1) := by rw [qeU hil]; exact jM hil
     have : srcO j.Ba node = some (gt j.Ba i) := by
      generalize gt j.Ba i = y at hq hd
      unfold srcO
      rw [← List.take_append_drop i j.Ba, List.find?_append, hn, hd, List.find?_cons_of_pos (by simpa using hq)]
      rfl
     rw [this]
     exact .done
  exact main j.Ba.length 0 (by omega) rfl
 unfold qih
 refine Ev.bind h1 ?_
 cases srcO j.Ba node <;> exact .done
def atP (ls : List qq) (start : Int) (path : List Int) : Nat → Int
 | 0 => start
 | j + 1 => (gt ls (at0 path j).toNat).To
def okP (ls : List qq) (lv : List Bool) (start : Int) (path : List Int) (j : Nat) : Bool :=
 inI (at0 path j) 0 ((ls.length : Int) - 1) && (gt lv (at0 path j).toNat && ((gt ls (at0 path j).toNat).Bk == atP ls start path j))
def pathB (j : qbf) (start : Int) (path : List Int) : Bool := (srcV (srcO j.Ba start)).1 && allN (okP (linksL j.Af) (lvJ j.Af j.Bi) start path) path.length
def endB (j : qbf) (start : Int) (path : List Int) : Int := atP (linksL j.Af) start path path.length
theorem inRange {x : Int} {m : Nat} (h : inI x 0 ((m : Int) - 1) = true) : 0 ≤ x ∧ x < (m : Int) ∧ x.toNat < m := by rw [qa0] at h; omega
theorem quV {j : qbf} {t : qx} {start : Int} {path : List Int} (h1 : blockB j.Af = true) (hl : j.Ba.length ≤ 1048576) (hp : path.length ≤ 1048576) : ∃ e : Int, Ev (fun n => qkG n (swV j t) start path) (e, pathB j start path) ∧ (pathB j start path = true → e = endB j start path) := by
 have hll := qhw h1
 have hlv : (lvJ j.Af j.Bi).length = lkB j.Af := qpJ
 have hS := qrL (j := j) (t := t) (node := start) hl
 unfold qkG pathB
 cases hs : (srcV (srcO j.Ba start)).1
 ·rw [hs] at hS
  refine ⟨start, Ev.bind hS (Ev.bind (b := .nxt (start, 0)) (Ev.succ ?_) .done), fun e => by cases e⟩
  unfold qd7
  cases decide ((0 : Int) < (path.length : Int)) <;> exact .done
 ·rw [hs] at hS
  have hL := loopN (Lf := fun n i x => qd7 (swV j t) path true n i x) (S := atP (linksL j.Af) start path) (p := okP (linksL j.Af) (lvJ j.Af j.Bi) start path) (len := path.length) (bad := ((0 : Int), false)) (fin := (endB j start path, (path.length : Int)))
   (fun n => by simp only [qd7, qk (jb _), cond_false, ja]; rfl)
   (fun i hi _ X hX => by
    have eW : W64 (((linksL j.Af).length : Int) - 1) = ((linksL j.Af).length : Int) - 1 := qav (by omega) (by omega)
    simp only [qd7, qj hi, cond_true, ja, qaf hi, swV, qcA, eW, wS i]
    unfold okP at hX ⊢
    cases hr : inI (at0 path i) 0 (((linksL j.Af).length : Int) - 1)
    ·exact Ev.bind (b := true) (Ev.tt rfl .done) (Ev.tt rfl .done)
    ·obtain ⟨r0, r1, r2⟩ := inRange hr
     rw [hr] at hX
     simp only [qdd r0 r1, qdd r0 (show at0 path i < ((lvJ j.Af j.Bi).length : Int) by rw [hlv]; exact r1), ja]
     cases hv : gt (lvJ j.Af j.Bi) (at0 path i).toNat
     ·exact Ev.bind (b := true) (Ev.ff rfl (Ev.tt rfl .done)) (Ev.tt rfl .done)
     ·rw [hv] at hX
      cases hf : (gt (linksL j.Af) (at0 path i).toNat).Bk == atP (linksL j.Af) start path i
      ·exact Ev.bind (b := true) (Ev.ff rfl (Ev.ff rfl (Ev.now (by simp only [bne, hf]; rfl)))) (Ev.tt rfl .done)
      ·rw [hf] at hX
       exact Ev.bind (b := false) (Ev.ff rfl (Ev.ff rfl (Ev.now (by simp only [bne, hf]; rfl)))) (Ev.ff rfl (hX rfl)))
  cases hb : allN (okP (linksL j.Af) (lvJ j.Af j.Bi) start path) path.length
  ·rw [hb] at hL
   exact ⟨0, Ev.bind hS (Ev.bind hL .done), fun e => by cases e⟩
  ·rw [hb] at hL
   exact ⟨endB j start path, Ev.bind hS (Ev.bind hL .done), fun _ => rfl⟩
def linkB (ls : List qq) (path : List Int) (j : Nat) : Bool := inI (at0 path j) 0 ((ls.length : Int) - 1) && (decide (j = 0) || (gt ls (at0 path (j - 1)).toNat).To == (gt ls (at0 path j).toNat).Bk)
theorem quI {v : Tview} {path : List Int} (hll : v.links.length ≤ 10000) (hp : path.length ≤ 1048576) : Ev (fun n => qgP n (some v) path) (allN (linkB v.links path) path.length) := by
 have hL := loopN (τ := Unit) (Lf := fun n _ x => qbY (some v) path n x) (S := fun _ => ()) (p := linkB v.links path) (len := path.length) (bad := false) (fin := (path.length : Int))
  (fun n => by simp only [qbY, qk (jb _), cond_false])
  (fun i hi hpr X hX => by
   have eW : W64 ((v.links.length : Int) - 1) = (v.links.length : Int) - 1 := qav (by omega) (by omega)
   simp only [qbY, qj hi, cond_true, ja, qaf hi, qir, qcR, qcV, eW, wS i]
   unfold linkB at hX ⊢
   cases hr : inI (at0 path i) 0 ((v.links.length : Int) - 1)
   ·exact .done
   ·obtain ⟨r0, r1, r2⟩ := inRange hr
    rw [hr] at hX
    refine Ev.ff rfl ?_
    by_cases h0 : i = 0
    ·subst h0
     exact Ev.ff rfl (hX rfl)
    ·refine Ev.tt (decide_eq_true (by omega)) ?_
     have hq := hpr (i - 1) (by omega)
     unfold linkB at hq
     rw [jc] at hq
     obtain ⟨q0, q1, _⟩ := inRange hq.1
     rw [show (i : Int) - 1 = ((i - 1 : Nat) : Int) by omega, qav (by omega) (by omega)]
     simp only [qaf (show i - 1 < path.length by omega), ja, qdd q0 q1, qdd r0 r1, bne]
     rw [decide_eq_false h0] at hX ⊢
     cases he : (gt v.links (at0 path (i - 1)).toNat).To == (gt v.links (at0 path i).toNat).Bk
     ·exact .done
     ·rw [he] at hX
      exact hX rfl)
 unfold qgP
 refine Ev.bind hL ?_
 cases allN (linkB v.links path) path.length <;> exact .done
theorem qtM {j : qbf} {t : qx} {R : List Nat} {path : List Int} (hp : path.length ≤ 1048576) (hr : ∀ x, x ∈ path → 0 ≤ x ∧ x < (lkB j.Af : Int)) : Ev (fun n => qT n path (wkV j t R)) (!path.all fun x => gt (lvJ j.Af j.Bi) x.toNat) := by
 have hlv : (lvJ j.Af j.Bi).length = lkB j.Af := qpJ
 have h1 : Ev (fun n => qaD n path (wkV j t R)) (ixL (fun x => !gt (lvJ j.Af j.Bi) x.toNat) path) :=
  qfb (fin := (path.length : Int)) (Lf := qR path (wkV j t R)) (xs := path) (pf := fun n x => qet n x (wkV j t R)) (fun x hx => by
    obtain ⟨x0, x1⟩ := hr x hx
    unfold qet wkV grB
    simp only [ja, qdd x0 (show x < ((lvJ j.Af j.Bi).length : Int) by rw [hlv]; exact x1)]
    exact .done)
   (fun n => by simp only [qR, qk (jb _), cond_false])
   (fun n i x hx => by
    have hi := (List.getElem?_eq_some_iff.1 hx).1
    simp only [qR, qj hi, cond_true, qaw hx, ja, wS i])
   (fun n => by unfold qaD; congr 1; funext o; cases o <;> rfl)
 unfold qT
 refine Ev.bind h1 (Ev.now ?_)
 rw [qmJ, ← qn2, Bool.not_not]
theorem qso {j : qbf} {t : qx} {R : List Nat} {start : Int} {path : List Int} (h1 : blockB j.Af = true) (hl : j.Ba.length ≤ 1048576) (hp : path.length ≤ 1048576) : Ev (fun n => qfw n (wkV j t R) start path) (pathB j start path) := by
 have hll := qhw h1
 have hS := qsE (xs := j.Ba) (node := start) hl
 have hP := quI (v := viewV j.Af) (path := path) hll hp
 have ev : (viewV j.Af).links = linksL j.Af := rfl
 rw [ev] at hP
 have fr : path.length ≠ 0 → allN (linkB (linksL j.Af) path) path.length = true → ∃ k : Nat, k < lkB j.Af ∧ at0 path 0 = (k : Int) := fun h0 hb => by
  rw [qag] at hb
  have := hb 0 (by omega)
  unfold linkB at this
  rw [jc] at this
  obtain ⟨q0, q1, q2⟩ := inRange this.1
  exact ⟨(at0 path 0).toNat, q2, qfZ q0⟩
 have hrg : allN (linkB (linksL j.Af) path) path.length = true → ∀ x, x ∈ path → 0 ≤ x ∧ x < (lkB j.Af : Int) := fun hb x hx => by
  obtain ⟨i, hi, rfl⟩ := List.mem_iff_getElem.1 hx
  rw [qag] at hb
  have := hb i hi
  unfold linkB at this
  rw [jc] at this
  obtain ⟨q0, q1, _⟩ := inRange this.1
  rw [qkg hi] at q0 q1
  exact ⟨q0, q1⟩
 have key : allN (okP (linksL j.Af) (lvJ j.Af j.Bi) start path) path.length = (allN (linkB (linksL j.Af) path) path.length && (bif decide (path.length = 0) then true else ((gt (linksL j.Af) (at0 path 0).toNat).Bk == start) && path.all fun x => gt (lvJ j.Af j.Bi) x.toNat)) := by
  rw [jh, jc, qag, qag]
  unfold okP linkB
  simp only [jc, Bool.or_eq_true, decide_eq_true_eq, beq_iff_eq]
  constructor
  ·intro hh
   refine ⟨fun i hi => ⟨(hh i hi).1, ?_⟩, ?_⟩
   ·cases i with
    | zero => exact .inl rfl
    | succ i => exact .inr (hh (i + 1) hi).2.2.symm
   ·by_cases h0 : path.length = 0
    ·rw [decide_eq_true h0]; rfl
    ·rw [decide_eq_false h0]
     simp only [cond_false, jc, beq_iff_eq, jL]
     refine ⟨(hh 0 (by omega)).2.2, fun x hx => ?_⟩
     obtain ⟨i, hi, rfl⟩ := List.mem_iff_getElem.1 hx
     rw [← qkg hi]
     exact (hh i hi).2.1
  ·rintro ⟨ha, hb⟩ i hi
   rw [decide_eq_false (by omega)] at hb
   simp only [cond_false, jc, beq_iff_eq, jL] at hb
   refine ⟨(ha i hi).1, by rw [qkg hi]; exact hb.2 _ (jp hi), ?_⟩
   cases i with
   | zero => exact hb.1
   | succ i =>
    rcases (ha (i + 1) hi).2 with e | e
    ·omega
    ·exact e.symm
 unfold qfw pathB
 rw [key]
 show Ev (fun n => (qfW n j.Ba start).bind _) _
 refine Ev.bind hS ?_
 cases hs : (srcV (srcO j.Ba start)).1
 ·exact Ev.bind (b := true) (Ev.tt rfl .done) (Ev.tt rfl .done)
 ·cases hb : allN (linkB (linksL j.Af) path) path.length
  ·rw [hb] at hP
   exact Ev.bind (b := true) (Ev.ff rfl (Ev.bindN rfl (Ev.bind hP .done))) (Ev.tt rfl .done)
  ·have hA := qtM (j := j) (t := t) (R := R) hp (hrg hb)
   have hfr := fr
   rw [hb] at hP
   refine Ev.bind (b := false) (Ev.ff rfl (Ev.bindN rfl (Ev.bind hP .done))) (Ev.ff rfl ?_)
   by_cases h0 : path.length = 0
   ·rw [decide_eq_true h0]
    refine Ev.ff (decide_eq_false (by omega)) (Ev.bind hA (Ev.now ?_))
    rw [List.length_eq_zero_iff.1 h0]
    rfl
   ·rw [decide_eq_false h0]
    obtain ⟨k, hk, ek⟩ := hfr h0 hb
    refine Ev.tt (decide_eq_true (by omega)) ?_
    show Ev (fun n => (idx path 0).bind fun y4 => (idx (linksL j.Af) y4).bind fun y5 => bif (y5.Bk != start) then some false else (qT n path (wkV j t R)).bind fun r4 => some (!r4)) _
    rw [show idx path (0 : Int) = some (k : Int) by rw [show (0 : Int) = ((0 : Nat) : Int) from rfl, qaf (by omega), ek]]
    simp only [ja, qB hk, bne]
    rw [ek, jn]
    cases (gt (linksL j.Af) k).Bk == start
    ·exact .done
    ·refine Ev.ff rfl (Ev.bind hA (Ev.now ?_))
     rw [Bool.not_not]
     rfl
theorem qsF {j : qbf} {start : Int} {path : List Int} (h : qqp j) (hp : path.length ≤ 1048576) {mode : Int} (hm : mode = 0 ∨ mode = 1) :
  (∃ code : Int, code ≠ 0 ∧ Ev (fun n => qfu n j) (none, code) ∧ Ev (fun n => qhb n j mode start path) (none, code)) ∨
  ∃ t R, WkOk j t R ∧ Ev (fun n => qfu n j) (swV j t, 0) ∧ Ev (fun n => qhb n j mode start path) (bif pathB j start path then (wkV j t R, 0) else (none, 5)) := by
 unfold qhb
 rcases qwV h with ⟨code, hne, hs, hi⟩ | ⟨t, R, hw, hs, hi⟩
 ·exact .inl ⟨code, hne, hs, Ev.bind (hi mode []) (Ev.ff (by simpa using hne) .done)⟩
 ·have hP := qso (t := t) (R := R) (start := start) hw.tg.bl h.Ba.len hp
  refine .inr ⟨t, R, hw, hs, Ev.bind (hi mode [] (Nat.zero_le _) hm) (Ev.tt rfl (Ev.bind hP ?_))⟩
  cases pathB j start path <;> exact .done
theorem qrP {j : qbf} {t : qx} {R : List Nat} {start : Int} {path : List Int} (hp : path.length ≤ 1048576) (hb : pathB j start path = true) : Ev (fun n => qeY n (wkV j t R) start path) (pre (atP (linksL j.Af) start path) (path.length + 1)) := by
 unfold pathB at hb
 rw [jc, qag] at hb
 have hL := loopF (Lf := fun n s i => qbN (wkV j t R) path n s i) (S := fun i => pre (atP (linksL j.Af) start path) (i + 1)) (len := path.length) (fin := (pre (atP (linksL j.Af) start path) (path.length + 1), (path.length : Int)))
  (fun n => by simp only [qbN, qk (jb _), cond_false])
  (fun i hi X hX => by
   have := hb.2 i hi
   unfold okP at this
   rw [jc] at this
   obtain ⟨r0, r1, _⟩ := inRange this.1
   have ev : (viewV j.Af).links = linksL j.Af := rfl
   simp only [qbN, qj hi, cond_true, qaf hi, ja, wkV, grB, ev, qdd r0 r1, wS i]
   have ea : appS (pre (atP (linksL j.Af) start path) (i + 1)) [(gt (linksL j.Af) (at0 path i).toNat).To] = some (pre (atP (linksL j.Af) start path) (i + 1 + 1)) := qpw (f := atP (linksL j.Af) start path) (j := i + 1) (by omega)
   rw [ea]
   exact hX)
 unfold qeY
 exact Ev.bind hL .done
theorem qrO {j : qbf} {start : Int} {path : List Int} (h : qqp j) (hl : okL okI path) : ∃ R : Int × Int, Ev (fun n => qh5 n j start path) R ∧ Ev (fun n => qhN n j start path) R := by
 have hp := hl.len
 unfold qh5 qhN qjZ
 rcases qsF (start := start) h hp (mode := 0) (.inl rfl) with ⟨code, hne, hs, hi⟩ | ⟨t, R, hw, hs, hi⟩
 ·exact ⟨(0, code), Ev.bind hs (Ev.tt (qlS hne) .done), Ev.bind (b := ([], code)) (Ev.bind hi (Ev.tt (qlS hne) .done)) (Ev.tt (qlS hne) .done)⟩
 ·obtain ⟨e, he, hee⟩ := quV (j := j) (t := t) (start := start) hw.tg.bl h.Ba.len hp
  cases hb : pathB j start path
  ·rw [hb] at he hi
   exact ⟨(0, 5), Ev.bind hs (Ev.ff rfl (Ev.bind he (Ev.tt rfl .done))), Ev.bind (b := ([], 5)) (Ev.bind hi (Ev.tt rfl .done)) (Ev.tt rfl .done)⟩
  ·have hn := qrP (t := t) (R := R) hp hb
   rw [hb] at he hi
   have := hee hb
   subst this
   refine ⟨(endB j start path, 0), Ev.bind hs (Ev.ff rfl (Ev.bind he (Ev.ff rfl .done))), Ev.bind (b := (pre (atP (linksL j.Af) start path) (path.length + 1), 0)) (Ev.bind hi (Ev.ff rfl (Ev.bind hn .done))) (Ev.ff rfl ?_)⟩
   show Ev (fun n => (idx (pre (atP (linksL j.Af) start path) (path.length + 1)) (W64 (((pre (atP (linksL j.Af) start path) (path.length + 1)).length : Int) - 1))).bind _) _
   rw [qmX, show W64 (((path.length + 1 : Nat) : Int) - 1) = (path.length : Int) by rw [qav (by omega) (by omega)]; omega, qhg (f := atP (linksL j.Af) start path) (show path.length < path.length + 1 by omega)]
   exact .done
end Go.Fw


namespace Go.Fw
open Go Go.Proofs
open Go.RowKit (Below)
set_option maxRecDepth 100000
set_option maxHeartbeats 1600000
variable {n : Nat} {w : World} {cs1 cs2 cs3 cs4 cs5 cs6 cs7 cs8 cs9 : List Value}
def qf1 (n : Nat) (aJ : qbf) (aStart : Int) (aLinks : (List Int)) : Option Bool :=
 bif decide ((aLinks.length : Int) > 1048576) then some true else
 (qlu n aJ 1048576).bind fun r1 =>
 bif decide (r1 < 0) then some true else
 (qiq n aJ).bind fun r2 =>
 (qaN n aLinks).bind fun r3 =>
 (qh5 n r2 aStart r3).bind fun o => match o with
  | (r5, r6) =>
   (qiq n aJ).bind fun r7 =>
   (qaN n aLinks).bind fun r8 =>
   (qhN n r7 aStart r8).bind fun o => match o with
    | (r10, r11) =>
     (
      bif (r10 != r5) then some true else
      some (r11 != r6)).bind fun b1 =>
     bif b1 then some false else
     (qiq n aJ).bind fun r12 =>
     (qlT n r7 r12).bind fun r13 =>
     bif (!r13) then some false else
     (qaN n aLinks).bind fun r14 =>
     (qbg n r8 r14).bind fun r15 =>
     bif (!r15) then some false else
     some true
theorem qkT {aJ : qbf} {aStart : Int} {aLinks : (List Int)} (ha1 : GoT.R w (old w) aJ cs1) (ha2 : GoT.R w (old w) aLinks cs2) {r : Bool} (hF : qf1 n aJ aStart aLinks = some r) : RetV Tryz.prog 6 [GoT.v qbf cs1, .int .i64 aStart, GoT.v (List Int) cs2] w r := by
 obtain ⟨p1, k1, p2, k2, p3, k3, p4, k4, p5, k5, p6, k6, p7, k7, rfl, s1, s2, s3, s4, s5, s6, s7⟩ := qc3 ha1
 obtain ⟨p8, k8, rfl, s8⟩ := ha2
 refine zV 60 Tryz.func6 rfl fun h => zSR (qt h rfl rfl fun w1 bb1 h => X0 9 rfl (qg rfl hF ?_ ?_)) <;> intro hF
 ·exact X0 4 rfl (rb h hF rfl)
 refine X1 9 0 h rfl (zcI h hF (qqL (h.old ha1)) rfl fun r1 w2 h hF => X0 8 rfl (qg rfl hF ?_ ?_)) <;> intro hF
 ·exact X0 4 rfl (rb h hF rfl)
 refine X1 4 0 h rfl (zcO h hF (qkZ (h.old ha1)) rfl fun r2 w3 S1 cs3 h hF => ?_)
 obtain ⟨p9, k9, p10, k10, p11, k11, p12, k12, p13, k13, p14, k14, p15, k15, rfl, -, -, -, -, -, -, -⟩ := qc3 (h.own 0 rfl)
 refine zp2 rfl (zcL h hF (qaG ⟨_, _, rfl, (h.oldS s8)⟩) rfl fun r3 w4 S2 p16 k16 h hF => ?_)
 obtain ⟨r4, hr4, hF⟩ := qc hF
 obtain ⟨r5, r6⟩ := r4
 refine qbj (r5, r6) h (cB 18 rfl) (qnL (h.own 1 rfl) (h.own 0 rfl) hr4) rfl rfl rfl rfl fun w5 S3 us1 hv1 hr5 => ?_
 obtain ⟨S4, us2, rfl, hv2, hr6⟩ := hv1.consI hr5
 obtain ⟨rfl, h⟩ := hv2.lastI hr6
 refine X1 9 2 h rfl (zcO h hF (qkZ (h.old ha1)) rfl fun r7 w6 S6 cs4 h hF => ?_)
 obtain ⟨p17, k17, p18, k18, p19, k19, p20, k20, p21, k21, p22, k22, p23, k23, rfl, -, -, -, -, -, -, -⟩ := qc3 (h.own 0 rfl)
 refine qm qa h rfl rfl rfl fun w7 bb2 h => zs 0 h rfl fun w8 h => X0 4 rfl (zcL h hF (qaG ⟨_, _, rfl, (h.oldS s8)⟩) rfl fun r8 w9 S7 p24 k24 h hF => X1 7 1 h rfl ?_)
 obtain ⟨r9, hr10, hF⟩ := qc hF
 obtain ⟨r10, r11⟩ := r9
 refine qbj (r10, r11) h (cB 19 rfl) (qnB (h.own 2 rfl) (h.own 0 rfl) hr10) rfl rfl rfl rfl fun w10 S8 us3 hv4 hr11 => ?_
 obtain ⟨S9, us4, rfl, hv5, hr12⟩ := hv4.consI hr11
 obtain ⟨rfl, h⟩ := hv5.lastI hr12
 refine X0 8 rfl ?_
 obtain ⟨KF1, hKF1, o1, hF, hK1⟩ := bindE hF
 refine qbi (fun e w' => ∃ (b1 : Bool), KF1 b1 = some r ∧ e = [(2, .slice p8 aLinks.length k8), (3, .pointer (some ⟨bb1, 0, none⟩)), (10, .pointer (some ⟨bb2, 0, none⟩)), (11, .slice p24 r8.length k24), (49, .bool b1)] ∧ SH w w' [Ch.own S7 (r8 : List Int) [.slice p24 r8.length k24], Ch.box bb2 (qrK r7 p17 p18 p19 p20 p21 p22 p23 k17 k18 k19 k20 k21 k22 k23) 54, Ch.own S6 (r7 : qbf) (qrK r7 p17 p18 p19 p20 p21 p22 p23 k17 k18 k19 k20 k21 k22 k23), Ch.box bb1 (qrK aJ p1 p2 p3 p4 p5 p6 p7 k1 k2 k3 k4 k5 k6 k7) 38]) ?_ ?_
 ·refine X0 5 rfl (qi (t := 45) hF rfl ?_ ?_) <;> intro hF
  ·refine X0 5 rfl ?_
   replace h := h.pick [0, 1, 2, 5] rfl
   obtain rfl := qb hF
   exact rG ⟨_, hK1, rfl, h⟩ rfl
  refine X0 8 rfl ?_
  replace h := h.pick [0, 1, 2, 5] rfl
  obtain rfl := qb hF
  exact rG ⟨_, hK1, rfl, h⟩ rfl
 rintro e1 w16 ⟨b1, hF, rfl, h⟩
 subst hKF1
 refine qg rfl hF ?_ ?_ <;> intro hF
 ·exact X0 4 rfl (rb h hF rfl)
 refine zKSS (rA [] [1, 3] h rfl fun w11 h => M2 3 [0, 1] 0 1 (h.pick [1, 3] rfl) rfl (Ao 2 7 rfl (zcO h hF (qkZ (h.old ha1)) rfl fun r12 w12 S11 cs5 h hF => ?_)))
 obtain ⟨p25, k25, p26, k26, p27, k27, p28, k28, p29, k29, p30, k30, p31, k31, rfl, -, -, -, -, -, -, -⟩ := qc3 (h.own 0 rfl)
 refine Ag (h.pick [2, 4] rfl) (Ao 3 15 rfl (zcB h hF (qqA (h.own 3 rfl) (h.own 0 rfl)) rfl fun r13 w13 h hF => G0 31 [4] (h.pick [2, 4] rfl) rfl (Ad (qg rfl hF ?_ ?_)))) <;> intro hF
 ·exact X0 4 rfl (rb h hF rfl)
 refine X0 6 rfl (zcL h hF (qaG ⟨_, _, rfl, (h.oldS s8)⟩) rfl fun r14 w14 S12 p32 k32 h hF => zcB h hF (qa4 (h.own 2 rfl) (h.own 0 rfl)) rfl fun r15 w15 h hF => X0 2 rfl (qg rfl hF ?_ ?_)) <;> intro hF
 ·exact X0 4 rfl (rb h hF rfl)
 exact X0 5 rfl (rb h hF rfl)
end Go.Fw


namespace Go.Fw
open Go
end Go.Fw


namespace Go.Fw
open Go
set_option maxRecDepth 100000
theorem qms {j : qbf} {start : Int} {path : (List Int)} (h0 : qpz j) (h1 : rngI start) (h2 : (rngL rngI) path) : Ev (fun n => qf1 n j start path) true := by
 unfold qf1
 refine Ev.bif (fun _ => .done) (fun hl => ?_)
 have hl2 : path.length ≤ 1048576 := by have := of_decide_eq_false hl; omega
 obtain ⟨r1, e1, q1⟩ := qxB (a := j) (left := 1048576) h0 (by omega) (by omega)
 refine Ev.bind e1 ?_
 rcases q1 with q1 | ⟨p1, q1⟩
 ·exact Ev.tt (by simpa using q1) .done
 refine Ev.ff (by simp; omega) ?_
 have w0 : qlX j ≤ 1048576 := by omega
 have k0 := qvs h0 w0
 have w2 : qcq path ≤ 1048576 := by unfold qcq; omega
 have k2 := qdh h2 w2
 obtain ⟨⟨R0, R1⟩, hs, hi⟩ := qrO (j := j) (start := start) (path := path) k0 k2
 refine Ev.bind (qtq w0) ?_
 refine Ev.bind (qdZ w2) ?_
 refine Ev.bind hs ?_
 refine Ev.bind (qtq w0) ?_
 refine Ev.bind (qdZ w2) ?_
 refine Ev.bind hi ?_
 refine Ev.bind (b := false) (Ev.ff (by simp) (Ev.now (by simp))) (Ev.ff rfl ?_)
 refine Ev.bind (qtq w0) ?_
 refine Ev.bind (qxT w0) (Ev.ff rfl ?_)
 refine Ev.bind (qdZ w2) ?_
 refine Ev.bind (qfh w2) (Ev.ff rfl ?_)
 exact .done
end Go.Fw
