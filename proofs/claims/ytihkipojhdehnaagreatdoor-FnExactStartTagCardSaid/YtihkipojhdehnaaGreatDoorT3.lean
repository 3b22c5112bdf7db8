/- By a program of mine (lawgen2.py): what the laws own helpers do. -/
import Derived.Test.YtihkipojhdehnaaGreatDoorU1
import Derived.Test.YtihkipojhdehnaaGreatDoorB7
import Derived.Test.YtihkipojhdehnaaGreatDoorFw34

namespace Go.Fw
open Go

def qeO (x : qf) : Prop := rngI x.Kind ∧ rngI x.Value ∧ (rngL rngI) x.From ∧ (rngL rngI) x.Through ∧ (rngL rngI) x.To
def qba (x : qf) : Nat := qaq x.From + qaq x.Through + qaq x.To
structure qbK (x : qf) : Prop where
  Kind : okI x.Kind
  Value : okI x.Value
  From : (okL okI) x.From
  Through : (okL okI) x.Through
  To : (okL okI) x.To
theorem ql7 {x : qf} (h : qeO x) (w : qba x ≤ 1048576) : qbK x := ⟨h.1, h.2.1, qc4 (h.2.2.1) (by simp only [qba] at w; omega), qc4 (h.2.2.2.1) (by simp only [qba] at w; omega), qc4 (h.2.2.2.2) (by simp only [qba] at w; omega)⟩
theorem qnE {a : qf} (h : qba a ≤ 1048576) : Ev (fun n => qd3 n a a) true := by
  unfold qd3
  simp only [qba] at h
  exact Ev.ff qbF (Ev.ff qbF (Ev.bind (qdi (a := a.From) (by omega)) (Ev.ff rfl (Ev.bind (qdi (a := a.Through) (by omega)) (Ev.ff rfl (Ev.bind (qdi (a := a.To) (by omega)) (Ev.ff rfl (.done))))))))

def qbu (a : (List qf)) : Nat := a.length + (a.map fun x => qba x).sum
theorem qla {a : (List qf)} (h : (rngL qeO) a) (w : qbu a ≤ 1048576) : (okL qbK) a :=
  ⟨by simp only [qbu] at w; omega, fun x hx => ql7 (h.2 x hx) (by have := qcd (wt := fun x : qf => qba x) hx; simp only [qbu] at w; omega)⟩
theorem qmD {a : (List qf)} (h : qbu a ≤ 1048576) : Ev (fun n => qeC n a a) true := by
  have hl : a.length ≤ 1048576 := by simp only [qbu] at h; omega
  unfold qeC
  exact Ev.ff (by simp) (Ev.bind (b := .nxt (a.length : Int)) (qhA (eqf := qd3) (fun x hx => qnE (by have := qcd (wt := fun x : qf => qba x) hx; simp only [qbu] at h; omega))
    (fun n => by simp only [qbS, qu (Nat.le_refl _), cond_false])
    (fun n j x hx => by
      have hj := (List.getElem?_eq_some_iff.1 hx).1
      simp only [qbS, qt hj, cond_true, qam hx, Option.bind_some, qq (show j < 9223372036854775807 by omega)])) .done)

theorem qnz {a : qf} {left : Int} (h : qeO a) (h0 : 0 ≤ left) (h1 : left ≤ 1048576) : Sz (fun n => qd2 n a left) (fun r => r = left - (qba a : Int)) := by
  unfold qd2
  obtain ⟨h_0, h_1, h_2, h_3, h_4⟩ := h
  exact Sz.step (qes (a := a.From) h_2 (by omega) (by omega)) fun r0 p0 q0 => Sz.step (qes (a := a.Through) h_3 (by omega) (by omega)) fun r1 p1 q1 => Sz.step (qes (a := a.To) h_4 (by omega) (by omega)) fun r2 p2 q2 => Sz.done p2 (by simp only [qba]; omega)

theorem qmw {a : (List qf)} {left : Int} (h : (rngL qeO) a) (h0 : 0 ≤ left) (h1 : left ≤ 1048576) : Sz (fun n => qfA n a left) (fun r => r = left - (qbu a : Int)) :=
  Sz.list (Lf := qbp a) (wt := fun x : qf => qba x) (el := qd2) h0 h1 h.1 (fun x hx left p q => qnz (h.2 x hx) p q)
    (fun acc n => by simp only [qbp, qu (Nat.le_refl _), cond_false])
    (fun acc n j x hx => by
      have hj := (List.getElem?_eq_some_iff.1 hx).1
      have hl := h.1
      simp only [qbp, qt hj, cond_true, qam hx, Option.bind_some, qq (show j < 9223372036854775807 by omega)])
    (fun _ => rfl)

theorem qnx {a : qf} (h : qba a ≤ 1048576) : Ev (fun n => qd0 n a) a := by
  unfold qd0
  simp only [qba] at h
  exact Ev.bind (qeq (a := a.From) (by omega)) (Ev.bind (qeq (a := a.Through) (by omega)) (Ev.bind (qeq (a := a.To) (by omega)) (.done)))

theorem qhz {a : (List qf)} (h : qbu a ≤ 1048576) : Ev (fun n => qcg n a) a := by
  have hl : a.length ≤ 1048576 := by simp only [qbu] at h; omega
  unfold qcg
  exact Ev.bindN (qgY (by omega)) (Ev.bind (b := (a, (a.length : Int))) (qhy (cp := qd0) (fun x hx => qnx (by have := qcd (wt := fun x : qf => qba x) hx; simp only [qbu] at h; omega))
    (fun acc n => by simp only [qbU, qu (Nat.le_refl _), cond_false])
    (fun acc n j x y hx hy => by
      have hj := (List.getElem?_eq_some_iff.1 hx).1
      simp only [qbU, qt hj, cond_true, qam hx, qam hy, Option.bind_some, qq (show j < 9223372036854775807 by omega)])) .done)

end Go.Fw


namespace Go.Fw
open Go
set_option maxRecDepth 100000

theorem qnH {b : qF} (h : blockB b = true) : Ev (fun n => qdV n b) ((places b.Design).length : Int) := by
  unfold qdV
  exact Ev.bind (qkn (qcq (qd9 h))) (Ev.now (by rw [List.length_map]))

def plsB (b : qF) (xs : List Int) : Bool := decide (xs.length ≤ 4) && allN (fun j => inPl b (at0 xs j)) xs.length
def valB (k v : Int) : Bool := bif k == 1 then v == 0 else bif k == 2 then inI v 1 10 else bif (k == 3) || (k == 4) then inI v 0 1000000000 else false
def excB (b : qF) (e : qf) : Bool := (plsB b e.From && (plsB b e.Through && plsB b e.To)) && (valB e.Kind e.Value && (incB e.From && incB e.To))

theorem qi6 {b : qF} {xs : List Int} {sorted : Bool} (h : blockB b = true) (hl : xs.length ≤ 1048576) : Ev (fun n => qed n b xs sorted) (plsB b xs && (!sorted || incB xs)) := by
  have hpl := qeN (qcq (qd9 h))
  have hL : Ev (fun n => qbn b xs sorted n 0) (bif allN (fun j => inPl b (at0 xs j) && (!sorted || stepB xs j)) xs.length then .nxt (xs.length : Int) else .ret false) := by
    refine qeP ?_ (fun j hj X hX => Ev.succ ?_)
    · exact Ev.succ (by simp only [qbn, qu (Nat.le_refl _), cond_false]; exact .done)
    · simp only [qbn, qt hj, cond_true, qb9 hj, Option.bind_some, qeJ, qq (show j < 9223372036854775807 by omega)]
      refine Ev.bind (qnH h) ?_
      rw [qc8 (show (places b.Design).length ≤ 9223372036854775807 by omega)]
      simp only [qbO]
      refine Ev.okP (a := inPl b (at0 xs j)) fun _ => ?_
      cases sorted
      · exact hX
      · refine Ev.tt rfl ?_
        unfold stepB
        by_cases h0 : j = 0
        · subst h0
          exact Ev.ff (by decide) hX
        · refine Ev.tt (by simp; omega) ?_
          simp only [show (j : Int) - 1 = ((j - 1 : Nat) : Int) by omega, qbo (show -9223372036854775808 ≤ ((j - 1 : Nat) : Int) by omega) (by omega), qb9 (show j - 1 < xs.length by omega), Option.bind_some]
          rw [show decide (at0 xs (j - 1) ≥ at0 xs j) = !decide (at0 xs (j - 1) < at0 xs j) by rw [Bool.eq_iff_iff]; simp, show decide (j = 0) = false by simp; omega]
          simp only [qbO, Bool.not_true, Bool.false_or]
          exact Ev.okP1 fun _ => hX
  unfold qed
  have e : (plsB b xs && (!sorted || incB xs)) = (allN (fun j => inPl b (at0 xs j) && (!sorted || stepB xs j)) xs.length && decide (xs.length ≤ 4)) := by
    unfold plsB incB
    rw [qiN]
    cases sorted
    · simp only [Bool.not_false, Bool.true_or, Bool.and_true]
      rw [show allN (fun _ => true) xs.length = true from qbh.2 (fun _ _ => rfl), Bool.and_true, Bool.and_comm]
    · simp only [Bool.not_true, Bool.false_or]
      rw [Bool.and_assoc, Bool.and_comm]
  rw [e]
  refine Ev.bind hL ?_
  cases allN (fun j => inPl b (at0 xs j) && (!sorted || stepB xs j)) xs.length
  · exact .done
  · refine Ev.now ?_
    show some (decide ((xs.length : Int) ≤ ((4 : Nat) : Int))) = some (true && decide (xs.length ≤ 4))
    rw [qi2, Bool.true_and]

theorem qoY {n : Nat} {k v : Int} : qgG n k v = some (valB k v) := by
  simp only [qgG, qd4, Option.bind_some]
  unfold valB
  cases (k == 1) <;> cases (k == 2) <;> cases (k == 3) <;> cases (k == 4) <;> rfl

theorem qlV {b : qF} {V : Tview} {e : qf} (h : blockB b = true) (hP : V.places = places b.Design) (he : qbK e) : Ev (fun n => qc9 n (some V) e) (excB b e) := by
  have hpl := qeN (qcq (qd9 h))
  have one : ∀ xs : List Int, xs.length ≤ 1048576 → ∀ {F : Nat → Option (Flow Bool Int)} {X : Flow Bool Int}, Ev F X →
      Ev (fun n => bif decide ((xs.length : Int) > 4) then some (.ret false) else (qbx n xs 0 (((places b.Design).length : Int) - 1)).bind fun r2 => bif (!r2) then some (.ret false) else F n) (bif plsB b xs then X else .ret false) := by
    intro xs hx F X hX
    unfold plsB
    rw [show decide ((xs.length : Int) > 4) = !decide (xs.length ≤ 4) from qjQ (k := 4)]
    simp only [qbO]
    refine Ev.okP fun _ => Ev.ok1 ((qfa hx).cast (by rw [qg1 (d := 0)]; rfl)) fun _ => hX
  have hL : Ev (fun n => qaa (some V) e n 0) (bif plsB b e.From then (bif plsB b e.Through then (bif plsB b e.To then .nxt 3 else .ret false) else .ret false) else .ret false) := by
    refine Ev.succ ?_
    simp only [qaa, Option.bind_some, qbb, hP, qc8 (show (places b.Design).length ≤ 9223372036854775807 by omega)]
    refine one e.From he.From.len (F := fun n => qaa (some V) e n 1) (Ev.succ ?_)
    simp only [qaa, Option.bind_some, qbb, hP, qc8 (show (places b.Design).length ≤ 9223372036854775807 by omega)]
    refine one e.Through he.Through.len (F := fun n => qaa (some V) e n 2) (Ev.succ ?_)
    simp only [qaa, Option.bind_some, qbb, hP, qc8 (show (places b.Design).length ≤ 9223372036854775807 by omega)]
    refine one e.To he.To.len (F := fun n => qaa (some V) e n 3) (Ev.succ ?_)
    exact .done
  unfold qc9 excB
  refine Ev.bind hL ?_
  cases plsB b e.From
  · exact .done
  · cases plsB b e.Through
    · exact .done
    · cases plsB b e.To
      · exact .done
      · simp only [cond_true, qoY, Option.bind_some, Bool.and_self, Bool.true_and]
        exact Ev.andP fun _ => Ev.and (qhT he.From.len) fun _ => Ev.last (qhT he.To.len)

theorem qlB {b : qF} {e : qf} (hok : qgV b) (he : qbK e) : Ev (fun n => qe5 n b e) (blockB b && excB b e) := by
  have eq : (blockB b && excB b e) = ((blockB b && ((plsB b e.From && (!true || incB e.From)) && ((plsB b e.Through && (!false || incB e.Through)) && (plsB b e.To && (!true || incB e.To))))) && valB e.Kind e.Value) := by
    unfold excB
    generalize blockB b = a1
    generalize plsB b e.From = a2
    generalize plsB b e.Through = a3
    generalize plsB b e.To = a4
    generalize valB e.Kind e.Value = a5
    generalize incB e.From = a6
    generalize incB e.To = a7
    cases a1 <;> cases a2 <;> cases a3 <;> cases a4 <;> cases a5 <;> cases a6 <;> cases a7 <;> rfl
  rw [eq]
  unfold qe5
  refine Ev.guardB (Ev.or (qk6 hok) fun h => Ev.or (qi6 h he.From.len) fun _ => Ev.or (qi6 h he.Through.len) fun _ => Ev.neg (qi6 h he.To.len)) fun _ => ?_
  simp only [qeJ, Option.bind_some]
  unfold valB
  cases (e.Kind == 1) <;> cases (e.Kind == 2) <;> cases (e.Kind == 3) <;> cases (e.Kind == 4) <;> exact .done

end Go.Fw


namespace Go.Fw
open Go
set_option maxRecDepth 100000

/-! ### Data paths -/

def hasI (xs : List Int) (y : Int) : Bool := xs.any fun x => x == y
theorem qpZ {xs : List Int} {y : Int} (hl : xs.length ≤ 1048576) : Ev (fun n => qhO n xs y) (ixL (fun x => x == y) xs) :=
  qfN (fin := (xs.length : Int)) (Lf := qdA xs y) (pf := fun _ x => some (x == y)) (fun _ _ => .done)
    (fun n => by simp only [qdA, qu (Nat.le_refl _), cond_false])
    (fun n j x hx => by
      have hj := (List.getElem?_eq_some_iff.1 hx).1
      simp only [qdA, qt hj, cond_true, qam hx, Option.bind_some, qq (show j < 9223372036854775807 by omega)])
    (fun n => by unfold qhO; congr 1; funext o; cases o <;> rfl)
theorem qnW {xs : List Int} {y : Int} (hl : xs.length ≤ 1048576) : Ev (fun n => qdb n xs y) (hasI xs y) := by
  unfold qdb
  refine Ev.bind (b := ixL (fun x => y == x) xs) (qfN (fin := (xs.length : Int)) (Lf := qbj xs y) (pf := fun _ x => some (y == x)) (fun _ _ => .done)
    (fun n => by simp only [qbj, qu (Nat.le_refl _), cond_false])
    (fun n j x hx => by
      have hj := (List.getElem?_eq_some_iff.1 hx).1
      simp only [qbj, qt hj, cond_true, qam hx, Option.bind_some, qq (show j < 9223372036854775807 by omega)])
    (fun n => by unfold qfe; congr 1; funext o; cases o <;> rfl)) (Ev.now ?_)
  rw [qix]
  unfold hasI
  congr 2
  funext x
  rw [Bool.eq_iff_iff, beq_iff_eq, beq_iff_eq]
  exact eq_comm
theorem qrM {p : Int → Bool} {xs : List Int} : decide (ixL p xs < 0) = !xs.any p := by
  rw [← qix, Bool.eq_iff_iff]; simp

/-! ### Tags -/

instance : Inhabited qf := ⟨⟨0, 0, [], [], []⟩⟩
def stepT (e : qf) (found place : Int) : Int := bif decide (found ≥ 0) && (decide (found < (e.Through.length : Int)) && (at0 e.Through found.toNat == place)) then found + 1 else found
def fromB (e : qf) (p : Int) : Bool := decide (e.From.length = 0) || hasI e.From p
def beginT (e : qf) (p : Int) : Int := bif fromB e p then stepT e 0 p else -1
def runT (e : qf) (path : List Int) : Int := (path.drop 1).foldl (stepT e) (beginT e (at0 path 0))
theorem qpY {e : qf} {p : Int} : stepT e (-1) p = -1 := rfl
theorem qph {e : qf} {found p : Int} (hl : e.Through.length ≤ 1048576) : Ev (fun n => qce n e found p) (stepT e found p) := by
  unfold qce stepT
  simp only [qaH, Option.bind_some]
  cases h1 : decide (found ≥ 0)
  · exact .done
  · cases h2 : decide (found < (e.Through.length : Int))
    · exact .done
    · have h1 := of_decide_eq_true h1
      have h2 := of_decide_eq_true h2
      simp only [cond_true, Bool.true_and]
      obtain ⟨k, rfl⟩ : ∃ k : Nat, found = (k : Int) := ⟨found.toNat, by omega⟩
      rw [qb9 (show k < e.Through.length by omega), Int.toNat_natCast]
      simp only [Option.bind_some]
      cases (at0 e.Through k == p)
      · exact .done
      · exact Ev.now (by rw [qbo (by omega) (by omega)]; rfl)
theorem qqT {e : qf} {p : Int} (he : qbK e) : Ev (fun n => qdw n e p) (beginT e p) := by
  unfold qdw beginT fromB
  have hs := qph (found := 0) (p := p) he.Through.len
  by_cases h0 : e.From.length = 0
  · exact Ev.ff (by simp [h0]) (by rw [decide_eq_true h0]; exact Ev.bind hs .done)
  · refine Ev.tt (by simp; omega) ?_
    rw [decide_eq_false h0, Bool.false_or]
    refine Ev.bind (qnW he.From.len) ?_
    cases hasI e.From p
    · exact .done
    · exact Ev.ff rfl (Ev.bind hs .done)
theorem qpz {α : Type} {xs : List α} (h : 1 ≤ xs.length) : subS xs 1 (xs.length : Int) = some (xs.drop 1) := by
  unfold subS
  rw [if_pos ⟨by omega, by omega, by omega⟩]
  simp
theorem qpx {e : qf} {xs : List Int} {i0 : Int} {j : Nat} (h : j < xs.length) : stepT e ((xs.take j).foldl (stepT e) i0) (at0 xs j) = (xs.take (j + 1)).foldl (stepT e) i0 := by
  rw [List.take_succ_eq_append_getElem h, List.foldl_append]
  simp [at0, h]
theorem qo3 {e : qf} {xs : List Int} {i0 : Int} (he : qbK e) (hl : xs.length ≤ 1048576) : Ev (fun n => qdn e xs n i0 0) (xs.foldl (stepT e) i0, (xs.length : Int)) := by
  have := loopF (Lf := qdn e xs) (S := fun j => (xs.take j).foldl (stepT e) i0) (len := xs.length) (fin := (xs.foldl (stepT e) i0, (xs.length : Int)))
    (fun n => by simp only [qdn, qu (Nat.le_refl _), cond_false, List.take_length])
    (fun j hj X hX => by
      simp only [qdn, qt hj, cond_true, qb9 hj, Option.bind_some, qq (show j < 9223372036854775807 by omega)]
      refine Ev.bind (qph he.Through.len) ?_
      rw [qpx hj]
      exact hX)
  simpa using this
theorem qqc {es : List qf} {path : List Int} (he : okL qbK es) (h1 : 1 ≤ path.length) (hl : path.length ≤ 1048576) : Ev (fun n => qig n es path) (es.map fun e => runT e path) := by
  have hes := he.len
  have hL : Ev (fun n => qdo es path n ([] : List Int) 0) (es.map (fun e => runT e path), (es.length : Int)) := by
    refine loopF (Lf := qdo es path) (S := fun j => (es.take j).map fun e => runT e path) (len := es.length) (fun n => ?_) (fun j hj X hX => ?_)
    · simp only [qdo, qu (Nat.le_refl _), cond_false, List.take_length]
    · have ha : appS ((es.take j).map fun e => runT e path) [runT (gt es j) path] = some ((es.take (j + 1)).map fun e => runT e path) := by
        rw [qeI (by rw [List.length_map, List.length_take, List.length_singleton]; omega), qfn hj]
      have hd : (path.drop 1).length ≤ 1048576 := by rw [List.length_drop]; omega
      simp only [qdo, qt hj, cond_true, qaC hj, Option.bind_some, qq (show j < 9223372036854775807 by omega), qpz h1, show idx path 0 = some (at0 path 0) from qb9 (j := 0) (by omega)]
      refine Ev.bind (qqT (qhX he hj)) (Ev.bind (qo3 (qhX he hj) hd) ?_)
      exact Ev.bindN ha hX
  unfold qig
  exact Ev.bind hL .done

end Go.Fw


namespace Go.Fw
open Go
set_option maxRecDepth 100000

/-- A marking: the counter grows, by no more than sixteen for each thing. -/
def Mk {σ : Type} (F : Nat → Option (Int × σ)) (k : Int) (w : Nat) : Prop := ∃ k' x, Ev F (k', x) ∧ k ≤ k' ∧ k' ≤ k + 16 * (w : Int)

theorem qoe {α : Type} {t : List α} {j : Nat} {y : α} (h : j < t.length) : idx (setS t (j : Int) y) (j : Int) = some y := by
  rw [qgN (by rw [qhJ]; exact h), qpJ h]
theorem qm9 {α : Type} {t : List α} {i : Int} {y z : α} : setS (setS t i y) i z = setS t i z := by
  unfold setS; rw [List.set_set]
theorem qmp {α : Type} {a : List α} {wt : α → Nat} {j : Nat} (h : j < a.length) : ((a.take (j + 1)).map wt).sum = ((a.take j).map wt).sum + wt a[j] := by
  rw [List.take_succ_eq_append_getElem h, List.map_append, List.sum_append]; simp
theorem qop {α : Type} {a : List α} {wt : α → Nat} {j : Nat} : ((a.take j).map wt).sum ≤ (a.map wt).sum := by
  conv => rhs; rw [← List.take_append_drop j a]
  rw [List.map_append, List.sum_append]
  exact Nat.le_add_right _ _

theorem qfY {α : Type} {a : List α} {wt : α → Nat} {Lf : Nat → List α → Int → Int → Option (List α × Int × Int)} {F : Nat → Option (Int × List α)} {k : Int} (hk0 : 0 ≤ k) (hk1 : k + 16 * ((a.length + (a.map wt).sum : Nat) : Int) ≤ 1000000000000)
    (hend : ∀ n t k, Lf (n + 1) t k (a.length : Int) = some (t, k, (a.length : Int)))
    (hstep : ∀ x, x ∈ a → ∀ k : Int, 0 ≤ k → k + 16 * ((1 + wt x : Nat) : Int) ≤ 1000000000000 → ∃ y k', k ≤ k' ∧ k' ≤ k + 16 * ((1 + wt x : Nat) : Int) ∧
      ∀ (t : List α) (j : Nat), j < 9223372036854775807 → j < a.length → j < t.length → t[j]? = some x → ∀ X, Ev (fun n => Lf n (setS t (j : Int) y) k' ((j + 1 : Nat) : Int)) X → Ev (fun n => Lf (n + 1) t k (j : Int)) X)
    (hl : a.length ≤ 1048576)
    (hF : ∀ n, F n = (Lf n a k 0).bind fun o => match o with | (x1, i1, _) => some (i1, x1)) : Mk F k (a.length + (a.map wt).sum) := by
  obtain ⟨⟨t, k'⟩, ⟨_, _, h3, h4⟩, e⟩ := loopE (τ := List α × Int) (Lf := fun n t j => Lf n t.1 t.2 j) (fin := fun t => (t.1, t.2, (a.length : Int)))
    (fun j t => t.1.length = a.length ∧ (∀ i, j ≤ i → t.1[i]? = a[i]?) ∧ k ≤ t.2 ∧ t.2 ≤ k + 16 * ((j + ((a.take j).map wt).sum : Nat) : Int)) (len := a.length)
    (fun n t => hend n t.1 t.2)
    (fun j t hj ht => by
      obtain ⟨h1, h2, h3, h4⟩ := ht
      have hs := qmp (wt := wt) hj
      have hs2 := qop (a := a) (wt := wt) (j := j + 1)
      obtain ⟨y, k', q1, q2, q3⟩ := hstep a[j] (List.getElem_mem hj) t.2 (by omega) (by omega)
      refine ⟨(setS t.1 (j : Int) y, k'), ⟨by rw [qhJ]; exact h1, fun i hi => ?_, by show k ≤ k'; omega, ?_⟩, fun X hX => ?_⟩
      · show (t.1.set _ _)[i]? = _
        rw [List.getElem?_set_ne (by rw [Int.toNat_natCast]; omega)]
        exact h2 i (by omega)
      · show k' ≤ k + _
        rw [hs]
        omega
      · exact q3 t.1 j (by omega) hj (by omega) (by rw [h2 j (Nat.le_refl _), List.getElem?_eq_getElem hj]) X hX) 0 (Nat.zero_le _) (a, k) ⟨rfl, fun _ _ => rfl, Int.le_refl _, by show k ≤ k + _; omega⟩
  rw [List.take_length] at h4
  exact ⟨k', t, Ev.congr hF (Ev.bind e .done), h3, h4⟩

theorem qqF {α : Type} {pre a : List α} {j : Nat} {y : α} (hp : pre.length = j) (hj : j < a.length) : setS (pre ++ a.drop j) (j : Int) y = (pre ++ [y]) ++ a.drop (j + 1) := by
  show (pre ++ a.drop j).set j y = _
  rw [List.set_append, if_neg (by omega), hp, Nat.sub_self, List.drop_eq_getElem_cons hj, List.set_cons_zero, List.append_assoc]
  rfl

def marked (k : Int) (m : Nat) : List Int := (List.range m).map fun (i : Nat) => k + (i : Int)
theorem qlN {a : List Int} {k : Int} (h0 : 0 ≤ k) (h1 : k ≤ 1000000000000) (hl : a.length ≤ 1048576) : Ev (fun n => qal n a k) (k + (a.length : Int), marked k a.length) := by
  have hL : Ev (fun n => qbt a n a k 0) (marked k a.length, k + (a.length : Int), (a.length : Int)) := by
    have := loopF (τ := List Int × Int) (Lf := fun n t j => qbt a n t.1 t.2 j) (S := fun j => (marked k j ++ a.drop j, k + (j : Int))) (len := a.length) (fin := (marked k a.length, k + (a.length : Int), (a.length : Int))) (fun n => by
        simp only [qbt, qu (Nat.le_refl _), cond_false, List.drop_length, List.append_nil])
      (fun j hj X hX => by
        have hp : (marked k j).length = j := by simp [marked]
        have hlt : j < (marked k j ++ a.drop j).length := by rw [List.length_append, hp, List.length_drop]; omega
        have hm : marked k (j + 1) = marked k j ++ [k + (j : Int)] := by unfold marked; rw [List.range_succ, List.map_append]; rfl
        simp only [qbt, qt hj, cond_true, qgN hlt, Option.bind_some, qqF hp hj, qq (show j < 9223372036854775807 by omega), qbo (show -9223372036854775808 ≤ k + (j : Int) + 1 by omega) (by omega)]
        rw [← hm]
        rw [show k + (j : Int) + 1 = k + ((j + 1 : Nat) : Int) by omega]
        exact hX)
    simpa [marked] using this
  unfold qal
  exact Ev.bind hL .done
theorem qdJ {a : List Int} {k : Int} (h0 : 0 ≤ k) (h1 : k ≤ 1000000000000) (hl : qaq a ≤ 1048576) : ∃ k' x, Ev (fun n => qal n a k) (k', x) ∧ k ≤ k' ∧ k' ≤ k + 16 * (qaq a : Int) :=
  ⟨_, _, qlN h0 h1 hl, by omega, by unfold qaq; omega⟩
theorem qq8 {k : Int} {m : Nat} (h0 : 0 ≤ k) (h1 : k ≤ 1000000000000) (hl : m ≤ 1048576) : Ev (fun n => qep n (marked k m) k) (k + (m : Int)) := by
  have hlen : (marked k m).length = m := by simp [marked]
  have hL : Ev (fun n => qbv (marked k m) n k 0) (.nxt (k + (m : Int), (m : Int))) := by
    have := loopF (Lf := qbv (marked k m)) (S := fun j => k + (j : Int)) (len := m) (fin := .nxt (k + (m : Int), (m : Int))) (fun n => by
        simp only [qbv, hlen, qu (Nat.le_refl _), cond_false])
      (fun j hj X hX => by
        have e : idx (marked k m) (j : Int) = some (k + (j : Int)) := by
          rw [qgN (by rw [hlen]; exact hj)]; simp [marked]
        simp only [qbv, hlen, qt hj, cond_true, e, Option.bind_some, bne_self_eq_false, cond_false, qq (show j < 9223372036854775807 by omega), qbo (show -9223372036854775808 ≤ k + (j : Int) + 1 by omega) (by omega)]
        rw [show k + (j : Int) + 1 = k + ((j + 1 : Nat) : Int) by omega]
        exact hX)
    simpa using this
  unfold qep
  exact Ev.bind hL .done

theorem qpi {a b : ByteArray} (h : a.size + b.size ≤ 1000000) : catB a b = some (a ++ b) := by
  unfold catB
  rw [if_pos]
  show ((a.size + b.size : Nat) : Int) ≤ 9223372036854775807
  omega
theorem qmQ {x : IntK .u8} : (strOf [x]).size = 1 := rfl
theorem qhM {k : Int} (hk : k ≤ 1000000000001000) : ∃ s, Ev (fun n => qdp n k) s := by
  have main : ∀ m : Nat, ∀ i1 : Int, ∀ z : ByteArray, 0 ≤ i1 → i1 ≤ 9000000000000000000 → i1 < 10 ^ m → z.size + m ≤ 1000 → ∃ o : Int × ByteArray, o.2.size ≤ 1000 ∧ Ev (fun n => qdl n i1 z) o := by
    intro m
    induction m with
    | zero =>
      intro i1 z h0 hb h1 hz
      have : i1 = 0 := by have : (10 : Int) ^ 0 = 1 := rfl; omega
      subst this
      exact ⟨(0, z), by show z.size ≤ 1000; omega, Ev.succ (Ev.ff (by decide) .done)⟩
    | succ m ih =>
      intro i1 z h0 hb h1 hz
      by_cases hp : i1 = 0
      · subst hp
        exact ⟨(0, z), by show z.size ≤ 1000; omega, Ev.succ (Ev.ff (by decide) .done)⟩
      · have hd : i1.tdiv 10 = i1 / 10 := Int.tdiv_eq_ediv_of_nonneg h0
        have h10 : (10 : Int) ^ (m + 1) = 10 ^ m * 10 := Int.pow_succ _ _
        have hc : catB (strOf ([(⟨IntKind.wrap .u8 (W64 (48 + (i1.tmod 10)))⟩ : IntK .u8)])) z = some (strOf ([(⟨IntKind.wrap .u8 (W64 (48 + (i1.tmod 10)))⟩ : IntK .u8)]) ++ z) := qpi (by rw [qmQ]; omega)
        obtain ⟨o, ho, e⟩ := ih (i1 / 10) (strOf ([(⟨IntKind.wrap .u8 (W64 (48 + (i1.tmod 10)))⟩ : IntK .u8)]) ++ z) (by omega) (by omega) (by omega) (by rw [ByteArray.size_append, qmQ]; omega)
        refine ⟨o, ho, Ev.succ ?_⟩
        simp only [qdl, show decide (i1 > 0) = true by simp; omega, cond_true, hc, Option.bind_some, hd, qbo (show -9223372036854775808 ≤ i1 / 10 by omega) (by omega)]
        exact e
  unfold qdp
  by_cases h0 : k ≤ 0
  · exact ⟨_, Ev.tt (by simpa using h0) .done⟩
  · obtain ⟨⟨o1, o2⟩, ho, e⟩ := main 16 k ⟨#[]⟩ (by omega) (by omega) (by have : (10 : Int) ^ 16 = 10000000000000000 := rfl; omega) (by decide)
    refine ⟨(⟨#[109]⟩ : ByteArray) ++ o2, Ev.ff (by simp; omega) (Ev.bind e ?_)⟩
    have ho : o2.size ≤ 1000 := ho
    show Ev (fun n => (catB ⟨#[109]⟩ o2).bind fun z3 => some z3) _
    rw [qpi (show (⟨#[109]⟩ : ByteArray).size + o2.size ≤ 1000000 by have : (⟨#[109]⟩ : ByteArray).size = 1 := rfl; omega)]
    exact .done

theorem qj6 {a : (List qC)} {k : Int} (h0 : 0 ≤ k) (h1 : k + 16 * (qdc a : Int) ≤ 1000000000000) (hw : qdc a ≤ 1048576) : Mk (fun n => qfp n a k) k (qdc a) := by
  refine qfY (a := a) (wt := (fun x : qC => qdR x)) h0 h1 (Lf := qbX a) (fun n t k => by simp only [qbX, qu (Nat.le_refl _), cond_false]) (fun x hx k h0 h1 => ?_) (by simp only [qdc] at hw; omega) (fun _ => rfl)
  have hs := qcd (wt := (fun x : qC => qdR x)) hx
  have ew : qdR x = qaq x.Slews + qaq x.Loads + qaq x.Values := rfl
  have hw : a.length + (a.map (fun x : qC => qdR x)).sum ≤ 1048576 := hw
  simp only [ew] at hs h1 ⊢
  obtain ⟨k1, x1, q1, l1, u1⟩ := qdJ (a := x.Slews) (k := k) (by omega) (by omega) (by omega)
  obtain ⟨k2, x2, q2, l2, u2⟩ := qdJ (a := x.Loads) (k := k1) (by omega) (by omega) (by omega)
  obtain ⟨k3, x3, q3, l3, u3⟩ := qdJ (a := x.Values) (k := k2) (by omega) (by omega) (by omega)
  refine ⟨⟨x1, x2, x3⟩, k3, by omega, by omega, fun t j hb hj ht hx X hX => ?_⟩
  simp only [qbX, qt hj, cond_true, qq hb]
  try simp only [qam hx, Option.bind_some]
  refine Ev.bind q1 ?_
  refine Ev.bind q2 ?_
  refine Ev.bind q3 ?_
  exact hX

theorem qor {a : (List qY)} {k : Int} (h0 : 0 ≤ k) (h1 : k + 16 * (qf6 a : Int) ≤ 1000000000000) (hw : qf6 a ≤ 1048576) : Mk (fun n => qhx n a k) k (qf6 a) := by
  refine qfY (a := a) (wt := (fun x : qY => qhg x)) h0 h1 (Lf := qcC a) (fun n t k => by simp only [qcC, qu (Nat.le_refl _), cond_false]) (fun x hx k h0 h1 => ?_) (by simp only [qf6] at hw; omega) (fun _ => rfl)
  have hs := qcd (wt := (fun x : qY => qhg x)) hx
  have ew : qhg x = qdc x.Delay + qdc x.Slew := rfl
  have hw : a.length + (a.map (fun x : qY => qhg x)).sum ≤ 1048576 := hw
  simp only [ew] at hs h1 ⊢
  have e1 : W64 (k + 1) = k + 1 := qbo (by omega) (by omega)
  have e2 : W64 (k + 1 + 1) = k + 1 + 1 := qbo (by omega) (by omega)
  have e3 : W64 (k + 1 + 1 + 1) = k + 1 + 1 + 1 := qbo (by omega) (by omega)
  have e4 : W64 (k + 1 + 1 + 1 + 1) = k + 1 + 1 + 1 + 1 := qbo (by omega) (by omega)
  obtain ⟨k1, x1, q1, l1, u1⟩ := qj6 (a := x.Delay) (k := k + 1 + 1 + 1 + 1) (by omega) (by omega) (by omega)
  obtain ⟨k2, x2, q2, l2, u2⟩ := qj6 (a := x.Slew) (k := k1) (by omega) (by omega) (by omega)
  refine ⟨⟨k, k + 1, k + 1 + 1, k + 1 + 1 + 1, x1, x2⟩, k2, by omega, by omega, fun t j hb hj ht hx X hX => ?_⟩
  simp only [qcC, qt hj, cond_true, qq hb]
  try simp only [qam hx, Option.bind_some, e1, e2, e3, e4]
  refine Ev.bind q1 ?_
  refine Ev.bind q2 ?_
  exact hX

theorem qnM {a : (List qaf)} {k : Int} (h0 : 0 ≤ k) (h1 : k + 16 * (qf3 a : Int) ≤ 1000000000000) (hw : qf3 a ≤ 1048576) : Mk (fun n => qhB n a k) k (qf3 a) := by
  refine qfY (a := a) (wt := (fun x : qaf => qid x)) h0 h1 (Lf := qcE a) (fun n t k => by simp only [qcE, qu (Nat.le_refl _), cond_false]) (fun x hx k h0 h1 => ?_) (by simp only [qf3] at hw; omega) (fun _ => rfl)
  have hs := qcd (wt := (fun x : qaf => qid x)) hx
  have ew : qid x = x.Name.size := rfl
  have hw : a.length + (a.map (fun x : qaf => qid x)).sum ≤ 1048576 := hw
  simp only [ew] at hs h1 ⊢
  obtain ⟨s1, es1⟩ := qhM (k := k) (by omega)
  have e1 : W64 (k + 1) = k + 1 := qbo (by omega) (by omega)
  have e2 : W64 (k + 1 + 1) = k + 1 + 1 := qbo (by omega) (by omega)
  have e3 : W64 (k + 1 + 1 + 1) = k + 1 + 1 + 1 := qbo (by omega) (by omega)
  have e4 : W64 (k + 1 + 1 + 1 + 1) = k + 1 + 1 + 1 + 1 := qbo (by omega) (by omega)
  refine ⟨⟨s1, k + 1, k + 1 + 1, ((k + 1 + 1 + 1).tmod 3) == 0⟩, k + 1 + 1 + 1 + 1, by omega, by omega, fun t j hb hj ht hx X hX => ?_⟩
  simp only [qcE, qt hj, cond_true, qq hb]
  try simp only [qam hx, qoe ht, Option.bind_some, qm9]
  refine Ev.bind es1 ?_
  try simp only [e1, e2, e3, e4]
  exact hX

theorem qnh {a : (List qB)} {k : Int} (h0 : 0 ≤ k) (h1 : k + 16 * (qfh a : Int) ≤ 1000000000000) (hw : qfh a ≤ 1048576) : Mk (fun n => qg6 n a k) k (qfh a) := by
  refine qfY (a := a) (wt := (fun x : qB => qe2 x)) h0 h1 (Lf := qck a) (fun n t k => by simp only [qck, qu (Nat.le_refl _), cond_false]) (fun x hx k h0 h1 => ?_) (by simp only [qfh] at hw; omega) (fun _ => rfl)
  have hs := qcd (wt := (fun x : qB => qe2 x)) hx
  have ew : qe2 x = x.Name.size + qf3 x.Pins + qf6 x.Arcs + qaq x.Truth := rfl
  have hw : a.length + (a.map (fun x : qB => qe2 x)).sum ≤ 1048576 := hw
  simp only [ew] at hs h1 ⊢
  obtain ⟨s1, es1⟩ := qhM (k := k) (by omega)
  have e1 : W64 (k + 1) = k + 1 := qbo (by omega) (by omega)
  have e2 : W64 (k + 1 + 1) = k + 1 + 1 := qbo (by omega) (by omega)
  obtain ⟨k2, x2, q2, l2, u2⟩ := qnM (a := x.Pins) (k := k + 1 + 1) (by omega) (by omega) (by omega)
  obtain ⟨k3, x3, q3, l3, u3⟩ := qor (a := x.Arcs) (k := k2) (by omega) (by omega) (by omega)
  obtain ⟨k4, x4, q4, l4, u4⟩ := qdJ (a := x.Truth) (k := k3) (by omega) (by omega) (by omega)
  have e3 : W64 (k4 + 1) = k4 + 1 := qbo (by omega) (by omega)
  have e4 : W64 (k4 + 1 + 1) = k4 + 1 + 1 := qbo (by omega) (by omega)
  refine ⟨⟨s1, k + 1, x2, x3, x4, k4, k4 + 1⟩, k4 + 1 + 1, by omega, by omega, fun t j hb hj ht hx X hX => ?_⟩
  simp only [qck, qt hj, cond_true, qq hb]
  try simp only [qam hx, Option.bind_some]
  refine Ev.bind es1 ?_
  try simp only [e1, e2]
  refine Ev.bind q2 ?_
  refine Ev.bind q3 ?_
  refine Ev.bind q4 ?_
  try simp only [e3, e4]
  exact hX

theorem qmf {a : qz} {k : Int} (h0 : 0 ≤ k) (h1 : k + 16 * (qdW a : Int) ≤ 1000000000000) (hw : qdW a ≤ 1048576) : Mk (fun n => qeU n a k) k (qdW a) := by
  simp only [qdW] at h1 hw ⊢
  obtain ⟨k1, x1, q1, l1, u1⟩ := qnh (a := a.Cells) (k := k) (by omega) (by omega) (by omega)
  refine ⟨k1, x1, ?_, by omega, by omega⟩
  unfold qeU
  exact Ev.bind q1 (.done)

theorem qkU {a : (List qk)} {k : Int} (h0 : 0 ≤ k) (h1 : k + 16 * (qbV a : Int) ≤ 1000000000000) (hw : qbV a ≤ 1048576) : Mk (fun n => qfb n a k) k (qbV a) := by
  refine qfY (a := a) (wt := (fun x : qk => qbH x)) h0 h1 (Lf := qbk a) (fun n t k => by simp only [qbk, qu (Nat.le_refl _), cond_false]) (fun x hx k h0 h1 => ?_) (by simp only [qbV] at hw; omega) (fun _ => rfl)
  have hs := qcd (wt := (fun x : qk => qbH x)) hx
  have ew : qbH x = x.Name.size + qaq x.Nets := rfl
  have hw : a.length + (a.map (fun x : qk => qbH x)).sum ≤ 1048576 := hw
  simp only [ew] at hs h1 ⊢
  obtain ⟨s1, es1⟩ := qhM (k := k) (by omega)
  have e1 : W64 (k + 1) = k + 1 := qbo (by omega) (by omega)
  have e2 : W64 (k + 1 + 1) = k + 1 + 1 := qbo (by omega) (by omega)
  obtain ⟨k2, x2, q2, l2, u2⟩ := qdJ (a := x.Nets) (k := k + 1 + 1) (by omega) (by omega) (by omega)
  refine ⟨⟨s1, k + 1, x2⟩, k2, by omega, by omega, fun t j hb hj ht hx X hX => ?_⟩
  simp only [qbk, qt hj, cond_true, qq hb]
  try simp only [qam hx, Option.bind_some]
  refine Ev.bind es1 ?_
  try simp only [e1, e2]
  refine Ev.bind q2 ?_
  exact hX

theorem qmj {a : (List ByteArray)} {k : Int} (h0 : 0 ≤ k) (h1 : k + 16 * (qdZ a : Int) ≤ 1000000000000) (hw : qdZ a ≤ 1048576) : Mk (fun n => qfX n a k) k (qdZ a) := by
  refine qfY (a := a) (wt := (fun x : ByteArray => x.size)) h0 h1 (Lf := qbG a) (fun n t k => by simp only [qbG, qu (Nat.le_refl _), cond_false]) (fun x hx k h0 h1 => ?_) (by simp only [qdZ] at hw; omega) (fun _ => rfl)
  obtain ⟨s, es⟩ := qhM (k := k) (by omega)
  have e1 : W64 (k + 1) = k + 1 := qbo (by omega) (by omega)
  refine ⟨s, k + 1, by omega, by omega, fun t j hb hj ht hx X hX => ?_⟩
  simp only [qbG, qt hj, cond_true, e1, qq hb]
  refine Ev.bind es ?_
  try simp only [qam hx, Option.bind_some]
  exact hX

theorem qnn {a : (List qV)} {k : Int} (h0 : 0 ≤ k) (h1 : k + 16 * (qfi a : Int) ≤ 1000000000000) (hw : qfi a ≤ 1048576) : Mk (fun n => qg2 n a k) k (qfi a) := by
  refine qfY (a := a) (wt := (fun x : qV => qgo x)) h0 h1 (Lf := qcm a) (fun n t k => by simp only [qcm, qu (Nat.le_refl _), cond_false]) (fun x hx k h0 h1 => ?_) (by simp only [qfi] at hw; omega) (fun _ => rfl)
  have hs := qcd (wt := (fun x : qV => qgo x)) hx
  have ew : qgo x = x.Name.size := rfl
  have hw : a.length + (a.map (fun x : qV => qgo x)).sum ≤ 1048576 := hw
  simp only [ew] at hs h1 ⊢
  obtain ⟨s1, es1⟩ := qhM (k := k) (by omega)
  have e1 : W64 (k + 1) = k + 1 := qbo (by omega) (by omega)
  have e2 : W64 (k + 1 + 1) = k + 1 + 1 := qbo (by omega) (by omega)
  have e3 : W64 (k + 1 + 1 + 1) = k + 1 + 1 + 1 := qbo (by omega) (by omega)
  refine ⟨⟨s1, k + 1, k + 1 + 1⟩, k + 1 + 1 + 1, by omega, by omega, fun t j hb hj ht hx X hX => ?_⟩
  simp only [qcm, qt hj, cond_true, qq hb]
  try simp only [qam hx, qoe ht, Option.bind_some, qm9]
  refine Ev.bind es1 ?_
  try simp only [e1, e2, e3]
  exact hX

theorem qmq {a : ql} {k : Int} (h0 : 0 ≤ k) (h1 : k + 16 * (qeg a : Int) ≤ 1000000000000) (hw : qeg a ≤ 1048576) : Mk (fun n => qfq n a k) k (qeg a) := by
  simp only [qeg] at h1 hw ⊢
  obtain ⟨k1, x1, q1, l1, u1⟩ := qkU (a := a.Instances) (k := k) (by omega) (by omega) (by omega)
  obtain ⟨k2, x2, q2, l2, u2⟩ := qmj (a := a.Nets) (k := k1) (by omega) (by omega) (by omega)
  obtain ⟨k3, x3, q3, l3, u3⟩ := qnn (a := a.Ports) (k := k2) (by omega) (by omega) (by omega)
  refine ⟨k3, (x1, x2, x3), ?_, by omega, by omega⟩
  unfold qfq
  exact Ev.bind q1 (Ev.bind q2 (Ev.bind q3 (.done)))

theorem qny {a : (List qP)} {k : Int} (h0 : 0 ≤ k) (h1 : k + 16 * (qfm a : Int) ≤ 1000000000000) (hw : qfm a ≤ 1048576) : Mk (fun n => qg5 n a k) k (qfm a) := by
  refine qfY (a := a) (wt := (fun x : qP => qe9 x)) h0 h1 (Lf := qcl a) (fun n t k => by simp only [qcl, qu (Nat.le_refl _), cond_false]) (fun x hx k h0 h1 => ?_) (by simp only [qfm] at hw; omega) (fun _ => rfl)
  have hs := qcd (wt := (fun x : qP => qe9 x)) hx
  have ew : qe9 x = qaq x.Parent + qaq x.Res + qaq x.Cap + qaq x.Sink := rfl
  have hw : a.length + (a.map (fun x : qP => qe9 x)).sum ≤ 1048576 := hw
  simp only [ew] at hs h1 ⊢
  obtain ⟨k1, x1, q1, l1, u1⟩ := qdJ (a := x.Parent) (k := k) (by omega) (by omega) (by omega)
  obtain ⟨k2, x2, q2, l2, u2⟩ := qdJ (a := x.Res) (k := k1) (by omega) (by omega) (by omega)
  obtain ⟨k3, x3, q3, l3, u3⟩ := qdJ (a := x.Cap) (k := k2) (by omega) (by omega) (by omega)
  obtain ⟨k4, x4, q4, l4, u4⟩ := qdJ (a := x.Sink) (k := k3) (by omega) (by omega) (by omega)
  refine ⟨⟨x1, x2, x3, x4⟩, k4, by omega, by omega, fun t j hb hj ht hx X hX => ?_⟩
  simp only [qcl, qt hj, cond_true, qq hb]
  try simp only [qam hx, Option.bind_some]
  refine Ev.bind q1 ?_
  refine Ev.bind q2 ?_
  refine Ev.bind q3 ?_
  refine Ev.bind q4 ?_
  exact hX

theorem qnI {a : qF} {k : Int} (h0 : 0 ≤ k) (h1 : k + 16 * (qff a : Int) ≤ 1000000000000) (hw : qff a ≤ 1048576) : Mk (fun n => qfH n a k) k (qff a) := by
  simp only [qff] at h1 hw ⊢
  obtain ⟨k1, x1, q1, l1, u1⟩ := qmf (a := a.Library) (k := k) (by omega) (by omega) (by omega)
  obtain ⟨k2, ⟨x2_0, x2_1, x2_2⟩, q2, l2, u2⟩ := qmq (a := a.Design) (k := k1) (by omega) (by omega) (by omega)
  obtain ⟨k3, x3, q3, l3, u3⟩ := qny (a := a.Wires) (k := k2) (by omega) (by omega) (by omega)
  refine ⟨k3, (x1, x2_0, x2_1, x2_2, x3), ?_, by omega, by omega⟩
  unfold qfH
  exact Ev.bind q1 (Ev.bind q2 (Ev.bind q3 (.done)))

theorem qkH {a : (List qf)} {k : Int} (h0 : 0 ≤ k) (h1 : k + 16 * (qbu a : Int) ≤ 1000000000000) (hw : qbu a ≤ 1048576) : Mk (fun n => qeS n a k) k (qbu a) := by
  refine qfY (a := a) (wt := (fun x : qf => qba x)) h0 h1 (Lf := qbc a) (fun n t k => by simp only [qbc, qu (Nat.le_refl _), cond_false]) (fun x hx k h0 h1 => ?_) (by simp only [qbu] at hw; omega) (fun _ => rfl)
  have hs := qcd (wt := (fun x : qf => qba x)) hx
  have ew : qba x = qaq x.From + qaq x.Through + qaq x.To := rfl
  have hw : a.length + (a.map (fun x : qf => qba x)).sum ≤ 1048576 := hw
  simp only [ew] at hs h1 ⊢
  have e1 : W64 (k + 1) = k + 1 := qbo (by omega) (by omega)
  have e2 : W64 (k + 1 + 1) = k + 1 + 1 := qbo (by omega) (by omega)
  obtain ⟨k1, x1, q1, l1, u1⟩ := qdJ (a := x.From) (k := k + 1 + 1) (by omega) (by omega) (by omega)
  obtain ⟨k2, x2, q2, l2, u2⟩ := qdJ (a := x.Through) (k := k1) (by omega) (by omega) (by omega)
  obtain ⟨k3, x3, q3, l3, u3⟩ := qdJ (a := x.To) (k := k2) (by omega) (by omega) (by omega)
  refine ⟨⟨k, k + 1, x1, x2, x3⟩, k3, by omega, by omega, fun t j hb hj ht hx X hX => ?_⟩
  simp only [qbc, qt hj, cond_true, qq hb]
  try simp only [qam hx, Option.bind_some, e1, e2]
  refine Ev.bind q1 ?_
  refine Ev.bind q2 ?_
  refine Ev.bind q3 ?_
  exact hX

end Go.Fw


namespace Go.Fw
open Go
set_option maxRecDepth 100000

/-! ### Codes -/

def codeX (b : qF) (es : List qf) : Int := bif blockB b then (bif decide (es.length ≤ 6) then (bif es.all (excB b) then 0 else 5) else 3) else 1
def codeP (b : qF) (es : List qf) (p : Int) : Int := bif codeX b es == 0 then (bif inPl b p then codeX b es else 2) else codeX b es
theorem qmk {b : qF} {es : List qf} (h : codeX b es = 0) : blockB b = true ∧ es.length ≤ 6 ∧ es.all (excB b) = true := by
  unfold codeX at h
  cases h1 : blockB b
  · rw [h1] at h; cases h
  · rw [h1] at h
    cases h2 : decide (es.length ≤ 6)
    · rw [h2] at h; cases h
    · rw [h2] at h
      cases h3 : es.all (excB b)
      · rw [h3] at h; cases h
      · exact ⟨rfl, of_decide_eq_true h2, rfl⟩
theorem qoL {b : qF} {es : List qf} (hok : qgV b) (hes : okL qbK es) : Ev (fun n => qg4 n b es) (codeX b es) := by
  have hlen := hes.len
  unfold qg4 codeX
  refine Ev.chk1 (qk6 hok) fun h => ?_
  rw [show decide ((es.length : Int) > 6) = !decide (es.length ≤ 6) from qjQ (k := 6)]
  simp only [qbO]
  refine Ev.okP1 fun _ => ?_
  have hL : Ev (fun n => qc2 b es n 0) (bif es.all (excB b) then .nxt (es.length : Int) else .ret 5) := by
    rw [qhu]
    refine qeP (Ev.succ ?_) (fun j hj X hX => Ev.succ ?_)
    · simp only [qc2, qu (Nat.le_refl _), cond_false]; exact .done
    · simp only [qc2, qt hj, cond_true, qaC hj, Option.bind_some, qq (show j < 9223372036854775807 by omega)]
      have := qlB hok (qhX hes hj)
      rw [h, Bool.true_and] at this
      exact Ev.chk1 this fun _ => hX
  refine Ev.bind hL ?_
  cases es.all (excB b) <;> exact .done

theorem qp9 {b : qF} {es : List qf} (hok : qgV b) (hes : okL qbK es) :
    ∃ o, Ev (fun n => qeb n b es) (o, codeX b es) ∧ (codeX b es = 0 → ∃ ls lo de, o = some ⟨b, places b.Design, ls, lo, de, []⟩) := by
  have hlen := hes.len
  unfold qeb codeX
  cases h : blockB b
  · exact ⟨none, Ev.bind (qmc hok) (Ev.tt (by rw [h]; rfl) .done), fun h => by cases h⟩
  · have hb := qmc hok
    rw [h] at hb
    obtain ⟨ls, lo, de, ev⟩ := qou h
    cases h6 : decide (es.length ≤ 6)
    · exact ⟨none, Ev.bind hb (Ev.ff rfl (Ev.tt (by rw [show decide ((es.length : Int) > 6) = !decide (es.length ≤ 6) from qjQ (k := 6), h6]; rfl) .done)), fun h => by cases h⟩
    · have hc : Ev (fun n => qW n es (some ⟨b, places b.Design, ls, lo, de, []⟩)) (!es.all (excB b)) := by
        unfold qW
        refine Ev.bind (b := ixL (fun e => !excB b e) es) (qfN (fin := (es.length : Int)) (Lf := qG es (some ⟨b, places b.Design, ls, lo, de, []⟩))
          (pf := fun n x => qdx n x (some ⟨b, places b.Design, ls, lo, de, []⟩)) (fun x hx => ?_)
          (fun n => by simp only [qG, qu (Nat.le_refl _), cond_false])
          (fun n j x hx => by
            have hj := (List.getElem?_eq_some_iff.1 hx).1
            simp only [qG, qt hj, cond_true, qam hx, Option.bind_some, qq (show j < 9223372036854775807 by omega)])
          (fun n => by unfold qak; congr 1; funext o; cases o <;> rfl)) (Ev.now ?_)
        · unfold qdx
          exact Ev.neg (qlV h rfl (hes.2 x hx))
        · rw [qix, ← qkL, Bool.not_not]
      cases h3 : es.all (excB b)
      · rw [h3] at hc
        exact ⟨none, Ev.bind hb (Ev.ff rfl (Ev.ff (by rw [show decide ((es.length : Int) > 6) = !decide (es.length ≤ 6) from qjQ (k := 6), h6]; rfl) (Ev.bind ev (Ev.bind hc .done)))), fun h => by cases h⟩
      · rw [h3] at hc
        exact ⟨_, Ev.bind hb (Ev.ff rfl (Ev.ff (by rw [show decide ((es.length : Int) > 6) = !decide (es.length ≤ 6) from qjQ (k := 6), h6]; rfl) (Ev.bind ev (Ev.bind hc .done)))), fun _ => ⟨ls, lo, de, rfl⟩⟩

theorem qnu {b : qF} (h : blockB b = true) : Ev (fun n => qdV n b) ((places b.Design).length : Int) := by
  unfold qdV
  exact Ev.bind (qkn (qcq (qd9 h))) (Ev.now (by rw [List.length_map]))
theorem qoz {b : qF} {es : List qf} {p : Int} (hok : qgV b) (hes : okL qbK es) : Ev (fun n => qgR n b es p) (codeP b es p) := by
  unfold qgR codeP
  refine Ev.bind (qoL hok hes) ?_
  refine Ev.iff (fun h0 => ?_) fun _ => .done
  have h0 : codeX b es = 0 := by simpa using h0
  have h := (qmk h0).1
  have hpl := qeN (qcq (qd9 h))
  refine Ev.bind (qnu h) ?_
  rw [qc8 (by omega)]
  simp only [qeJ, Option.bind_some, qbO]
  exact Ev.iff (fun _ => .done) fun _ => .done
theorem qob {b : qF} {V : Tview} {p : Int} (h : blockB b = true) (hP : V.places = places b.Design) : Ev (fun n => qeH n (some V) p) (inPl b p) := by
  have hpl := qeN (qcq (qd9 h))
  refine Ev.now (x := some (inPl b p)) rfl |>.congr fun n => ?_
  unfold qeH
  simp only [Option.bind_some, qbb, hP, qd4]
  rw [qc8 (by omega)]
  rfl
theorem qqv {b : qF} {es : List qf} {p : Int} (hok : qgV b) (hes : okL qbK es) :
    ∃ o, Ev (fun n => qgL n b es p) (o, codeP b es p) ∧ (codeP b es p = 0 → ∃ ls lo de, o = some ⟨b, places b.Design, ls, lo, de, []⟩) := by
  obtain ⟨o, e, hv⟩ := qp9 hok hes
  unfold qgL codeP
  by_cases h0 : codeX b es = 0
  · obtain ⟨ls, lo, de, rfl⟩ := hv h0
    rw [h0] at e ⊢
    have hi := qob (V := ⟨b, places b.Design, ls, lo, de, []⟩) (p := p) (qmk h0).1 rfl
    cases hp : inPl b p
    · rw [hp] at hi
      exact ⟨none, Ev.bind e (Ev.tt rfl (Ev.bind hi .done)), fun h => by cases h⟩
    · rw [hp] at hi
      exact ⟨_, Ev.bind e (Ev.tt rfl (Ev.bind hi .done)), fun _ => ⟨ls, lo, de, rfl⟩⟩
  · have hc : (codeX b es == 0) = false := by simpa using h0
    rw [hc]
    exact ⟨o, Ev.bind e (Ev.ff hc .done), fun h => absurd h h0⟩

/-! ### Tags step by step -/

def stepTs (es : List qf) (tag : List Int) (p : Int) : List Int := (List.range es.length).map fun i => stepT (gt es i) (at0 tag i) p
def startTs (es : List qf) (p : Int) : List Int := es.map fun e => beginT e p
def pre {α : Type} (f : Nat → α) (j : Nat) : List α := (List.range j).map f
theorem qpe {α : Type} {f : Nat → α} {j : Nat} : (pre f j).length = j := by simp [pre]
theorem qqh {α : Type} {f : Nat → α} {j : Nat} : pre f j ++ [f j] = pre f (j + 1) := by unfold pre; rw [List.range_succ, List.map_append]; rfl
theorem qpc {α : Type} {f : Nat → α} {j : Nat} (h : j ≤ 1048576) : appS (pre f j) [f j] = some (pre f (j + 1)) := by
  rw [qeI (by rw [qpe, List.length_singleton]; omega), qqh]
theorem qrh {α β : Type} [Inhabited α] {xs : List α} {f : α → β} : pre (fun i => f (gt xs i)) xs.length = xs.map f := by
  refine List.ext_getElem (by simp [pre]) fun i h1 h2 => ?_
  have hi : i < xs.length := by simpa [pre] using h1
  simp [pre, qjh hi]

theorem qqr {es : List qf} {tag : List Int} {p : Int} (hes : okL qbK es) (ht : tag.length = es.length) : Ev (fun n => qgQ n es tag p) (stepTs es tag p) := by
  have hl := hes.len
  have hL : Ev (fun n => qbZ es tag p n ([] : List Int) 0) (stepTs es tag p, (es.length : Int)) := by
    refine loopF (Lf := qbZ es tag p) (S := pre fun i => stepT (gt es i) (at0 tag i) p) (len := es.length) (fun n => ?_) (fun j hj X hX => ?_)
    · simp only [qbZ, qu (Nat.le_refl _), cond_false]; rfl
    · have hT := (qhX hes hj).Through.len
      have hap := qpc (f := fun i => stepT (gt es i) (at0 tag i) p) (show j ≤ 1048576 by omega)
      have hst : stepT (gt es j) (at0 tag j) p = bif decide (at0 tag j ≥ 0) && (decide (at0 tag j < ((gt es j).Through.length : Int)) && (at0 (gt es j).Through (at0 tag j).toNat == p)) then at0 tag j + 1 else at0 tag j := rfl
      simp only [qbZ, qt hj, cond_true, qaC hj, qb9 (show j < tag.length by omega), Option.bind_some, qq (show j < 9223372036854775807 by omega)]
      rw [hst] at hap
      cases h1 : decide (at0 tag j ≥ 0)
      · rw [h1] at hap
        exact Ev.bindN rfl (Ev.ff rfl (Ev.bindN hap hX))
      · cases h2 : decide (at0 tag j < ((gt es j).Through.length : Int))
        · rw [h1, h2] at hap
          exact Ev.bindN rfl (Ev.ff rfl (Ev.bindN hap hX))
        · have h1' := of_decide_eq_true h1
          have h2' := of_decide_eq_true h2
          obtain ⟨k, hk⟩ : ∃ k : Nat, at0 tag j = (k : Int) := ⟨(at0 tag j).toNat, by omega⟩
          rw [h1, h2, hk, Int.toNat_natCast] at hap
          rw [hk] at h2'
          rw [hk]
          simp only [cond_true, qb9 (show k < (gt es j).Through.length by omega), Option.bind_some]
          cases h3 : (at0 (gt es j).Through k == p)
          · rw [h3] at hap
            exact Ev.ff rfl (Ev.bindN hap hX)
          · rw [h3] at hap
            rw [qbo (show -9223372036854775808 ≤ (k : Int) + 1 by omega) (by omega)]
            exact Ev.tt rfl (Ev.bindN hap hX)
  unfold qgQ
  exact Ev.bind hL .done

theorem qod {es : List qf} {p : Int} : (startTs es p).length = es.length := by simp [startTs]
theorem qpB {es : List qf} {p : Int} (hes : okL qbK es) : Ev (fun n => qgh n es p) (startTs es p) := by
  have hl := hes.len
  have hL : Ev (fun n => qby es p n ([] : List Int) 0) (pre (fun i => bif fromB (gt es i) p then 0 else -1) es.length, (es.length : Int)) := by
    refine loopF (Lf := qby es p) (S := pre fun i => bif fromB (gt es i) p then 0 else -1) (len := es.length) (fun n => ?_) (fun j hj X hX => ?_)
    · simp only [qby, qu (Nat.le_refl _), cond_false]
    · have hap := qpc (f := fun i => (bif fromB (gt es i) p then 0 else -1 : Int)) (show j ≤ 1048576 by omega)
      simp only [qby, qt hj, cond_true, qaC hj, Option.bind_some, qq (show j < 9223372036854775807 by omega)]
      refine Ev.bind (b := !fromB (gt es j) p) ?_ ?_
      · unfold fromB
        by_cases h0 : (gt es j).From.length = 0
        · exact Ev.ff (by simp [h0]) (Ev.now (by rw [decide_eq_true h0]; rfl))
        · refine Ev.tt (by simp; omega) ?_
          rw [decide_eq_false h0, Bool.false_or]
          exact Ev.bind (qpZ (qhX hes hj).From.len) (Ev.now (by rw [qrM]; rfl))
      · cases h3 : fromB (gt es j) p
        · simp only [h3, cond_false] at hap
          exact Ev.tt rfl (Ev.bindN hap hX)
        · simp only [h3, cond_true] at hap
          exact Ev.ff rfl (Ev.bindN hap hX)
  unfold qgh
  refine Ev.bind hL (Ev.bind (qqr hes (by rw [qpe])) (Ev.now ?_))
  congr 1
  unfold startTs
  rw [← qrh]
  unfold stepTs
  refine List.map_congr_left fun i hi => ?_
  have hi := List.mem_range.1 hi
  rw [show at0 (pre (fun i => (bif fromB (gt es i) p then 0 else -1 : Int)) es.length) i = bif fromB (gt es i) p then 0 else -1 by simp [at0, pre, hi]]
  unfold beginT
  cases fromB (gt es i) p
  · exact qpY
  · rfl

/-! ### Effects -/

/-! ### Tags that fit -/

end Go.Fw


namespace Go.Fw
open Go Go.Proofs
open Go.RowKit (Below)
set_option maxRecDepth 100000
set_option maxHeartbeats 1600000
def qgb (n : Nat) (b : qF) (list : (List qf)) (place : Int) : Option ((List Int) × Int) :=
 (qgR n b list place).bind fun r1 =>
 bif (r1 != 0) then
  some ([], r1)
 else
  (qgh n list place).bind fun r2 =>
  some (r2, 0)

theorem qkT {n : Nat} {w : World} {b : qF} {list : (List qf)} {place : Int} {cs1 : List Value} (ha1 : GoT.R w (old w) b cs1) {cs2 : List Value} (ha2 : GoT.R w (old w) list cs2) {r : ((List Int) × Int)} (hF : qgb n b list place = some r) : RetV Tryz.prog 26 [GoT.v qF cs1, GoT.v (List qf) cs2, .int .i64 place] w r := by
 obtain ⟨p1, k1, p2, k2, p3, k3, p4, k4, p5, k5, rfl, s1, s2, s3, s4, s5⟩ := qar ha1
 obtain ⟨p6, k6, rfl, s6⟩ := ha2
 refine qe Tryz.func26 rfl (m := 19) rfl rfl (fun h => ?_)
 rw [qgb] at hF
 refine zSR (qO h rfl rfl ?_)
 intro w1 bb1 h
 refine zp2 rfl (zNSR (zl 0 0 h rfl (zp2 rfl ?_)))
 obtain ⟨r1, hr1, hF⟩ := qd hF
 refine qT r1 h call41 (qlt (h.old ha1) ⟨_, _, rfl, (h.oldS s6)⟩ hr1) rfl rfl rfl rfl ?_
 intro w2 h
 refine zp1 rfl (zNSSR (zp2 rfl (qb ?_)))
 refine qr rfl hF ?_ ?_ <;> intro hF
 ·refine zSR (zp3 rfl (qb ?_))
  obtain rfl := qh hF
  exact qav qc (ρ := ((List Int) × Int)) [GoT.v (List Int) [.slice none 0 0], GoT.v Int [.int .i64 r1]] h ⟨rfl, rfl, trivial⟩ (PV.done h (qhe h qne (qaG (qax (S := fun _ => False) rfl)) (by rfl)))
 refine zKSR (zp2 rfl ?_)
 obtain ⟨r2, hr2, hF⟩ := qd hF
 refine qat r2 h call60 (qkY ⟨_, _, rfl, (h.oldS s6)⟩ hr2) rfl rfl rfl rfl ?_
 intro w3 S1 p7 k7 h
 refine zp2 rfl (qb ?_)
 obtain rfl := qh hF
 exact qav qc (ρ := ((List Int) × Int)) [GoT.v (List Int) [.slice p7 r2.length k7], GoT.v Int [.int .i64 0]] h ⟨rfl, rfl, trivial⟩ (PV.done h (qhe h (qab 0 h rfl) (qaG (qax (S := fun _ => False) rfl)) (by rfl)))

def qfy (n : Nat) (b : qF) (list : (List qf)) (place : Int) : Option ((List Int) × Int) :=
 (qgL n b list place).bind fun o => match o with
  | (_, r3) =>
   bif (r3 != 0) then
    some ([], r3)
   else
    (qig n list ([place] : List Int)).bind fun r4 =>
    some (r4, 0)

theorem qiD {n : Nat} {w : World} {b : qF} {list : (List qf)} {place : Int} {cs1 : List Value} (ha1 : GoT.R w (old w) b cs1) {cs2 : List Value} (ha2 : GoT.R w (old w) list cs2) {r : ((List Int) × Int)} (hF : qfy n b list place = some r) : RetV Tryz.prog 27 [GoT.v qF cs1, GoT.v (List qf) cs2, .int .i64 place] w r := by
 obtain ⟨p1, k1, p2, k2, p3, k3, p4, k4, p5, k5, rfl, s1, s2, s3, s4, s5⟩ := qar ha1
 obtain ⟨p6, k6, rfl, s6⟩ := ha2
 refine qe Tryz.func27 rfl (m := 24) rfl rfl (fun h => ?_)
 rw [qfy] at hF
 refine zSR (qO h rfl rfl ?_)
 intro w1 bb1 h
 refine zp2 rfl (zNSSR (zl 0 0 h rfl (zp2 rfl ?_)))
 have hg1 : Rg (old w) w (old w) w := .start (fun _ h => h)
 obtain ⟨r1, hr1, hF⟩ := qd hF
 obtain ⟨r2, r3⟩ := r1
 refine qnj (r2, r3) hg1 h call48 (qlh (hg1.regOld h) (hg1.inR h ha1) ⟨_, _, rfl, (hg1.inS h s6)⟩ hr1) rfl rfl rfl rfl ?_
 intro w2 us1 B1 hg2 hu1 hz1 hv1
 have hL1 := h.ext hu1.below
 have s7 := Up.S hg1 h hu1 s6
 have hb1 := h.below.trans (hu1.below.mono h.below.size)
 replace h := hz1
 obtain ⟨cs3, us2, rfl, hr2, hv2⟩ := qpk hv1
 obtain ⟨p7, rfl, s8⟩ := qhF hr2
 obtain ⟨cs4, rfl, hr3⟩ := qpb hv2
 obtain rfl := hr3
 refine zp5 rfl (zNSR (zp2 rfl (qb ?_)))
 refine qr rfl hF ?_ ?_ <;> intro hF
 ·refine zSR (zp3 rfl (qb ?_))
  replace h := h.unbase hg2.below (show NoD [] from trivial)
  obtain rfl := qh hF
  exact qav qc (ρ := ((List Int) × Int)) [GoT.v (List Int) [.slice none 0 0], GoT.v Int [.int .i64 r3]] h ⟨rfl, rfl, trivial⟩ (PV.done h (qhe h qne (qaG (qax (S := fun _ => False) rfl)) (by rfl)))
 refine zKSR (zp2 rfl (qaB qc [.tmp 21] _ ([place] : List Int) h rfl rfl rfl rfl rfl rfl rfl rfl rfl ⟨rfl, trivial⟩ rfl ?_))
 intro w3 p8 S1 h
 obtain ⟨r4, hr4, hF⟩ := qd hF
 refine qat r4 h call61 (qmv ⟨_, _, rfl, (h.oldS (s7.mono hg2.old))⟩ (h.own 0 rfl) hr4) rfl rfl rfl rfl ?_
 intro w4 S2 p9 k7 h
 refine zp2 rfl (qb ?_)
 replace h := h.unbase hg2.below ⟨fun _ h => h, ⟨fun _ h => h, trivial⟩⟩
 obtain rfl := qh hF
 exact qav qc (ρ := ((List Int) × Int)) [GoT.v (List Int) [.slice p9 r4.length k7], GoT.v Int [.int .i64 0]] h ⟨rfl, rfl, trivial⟩ (PV.done h (qhe h (qab 0 h rfl) (qaG (qax (S := fun _ => False) rfl)) (by rfl)))

def qeB (n : Nat) (a_0 : qF) (a_1 : (List qf)) (a_2 : Int) : Option Bool :=
 (qgW n a_0 1048576).bind fun r1 =>
 bif decide (r1 < 0) then
  some true
 else
  (qfA n a_1 r1).bind fun r2 =>
  bif decide (r2 < 0) then
   some true
  else
   (qeF n a_0).bind fun r3 =>
   (qcg n a_1).bind fun r4 =>
   (qgb n r3 r4 a_2).bind fun o => match o with
    | (r6, r7) =>
     (qeF n a_0).bind fun r8 =>
     (qcg n a_1).bind fun r9 =>
     (qfy n r8 r9 a_2).bind fun o => match o with
      | (r11, r12) =>
       (
        (qaD n r11 r6).bind fun r29 =>
        bif (!r29) then
         some true
        else
         some (r12 != r7)).bind fun b1 =>
       bif b1 then
        some false
       else
        (qeF n a_0).bind fun r13 =>
        (qgM n r8 r13).bind fun r14 =>
        bif (!r14) then
         some false
        else
         (qcg n a_1).bind fun r15 =>
         (qeC n r9 r15).bind fun r16 =>
         bif (!r16) then
          some false
         else
          (qfH n (⟨(⟨r8.Library.Cells⟩ : qz), (⟨r8.Design.Instances, r8.Design.Nets, r8.Design.Ports⟩ : ql), r8.Wires⟩ : qF) 1).bind fun o => match o with
           | (r17, _, _, _, _, _) =>
            (qeS n r9 r17).bind fun o => match o with
             | (r18, _) =>
              (
               bif decide (r18 < 0) then
                some true
               else
                (qaD n r11 r6).bind fun r28 =>
                bif (!r28) then
                 some true
                else
                 some (r12 != r7)).bind fun b2 =>
              bif b2 then
               some false
              else
               (qal n r11 1).bind fun o => match o with
                | (r19, x7) =>
                 (qep n x7 1).bind fun r20 =>
                 bif decide (r20 < 0) then
                  some false
                 else
                  bif (r20 != r19) then
                   some false
                  else
                   (qeF n (⟨(⟨a_0.Library.Cells⟩ : qz), (⟨a_0.Design.Instances, a_0.Design.Nets, a_0.Design.Ports⟩ : ql), a_0.Wires⟩ : qF)).bind fun r21 =>
                   (qcg n a_1).bind fun r22 =>
                   (qfy n r21 r22 a_2).bind fun o => match o with
                    | (r24, r25) =>
                     (
                      (qaD n r24 r6).bind fun r27 =>
                      bif (!r27) then
                       some true
                      else
                       some (r25 != r7)).bind fun b3 =>
                     bif b3 then
                      some false
                     else
                      (qep n x7 1).bind fun r26 =>
                      bif decide (r26 < 0) then
                       some false
                      else
                       bif (r26 != r19) then
                        some false
                       else
                        some true

theorem qiS {n : Nat} {w : World} {a_0 : qF} {a_1 : (List qf)} {a_2 : Int} {cs1 : List Value} (ha1 : GoT.R w (old w) a_0 cs1) {cs2 : List Value} (ha2 : GoT.R w (old w) a_1 cs2) {r : Bool} (hF : qeB n a_0 a_1 a_2 = some r) : RetV Tryz.prog 5 [GoT.v qF cs1, GoT.v (List qf) cs2, .int .i64 a_2] w r := by
 obtain ⟨p1, k1, p2, k2, p3, k3, p4, k4, p5, k5, rfl, s1, s2, s3, s4, s5⟩ := qar ha1
 obtain ⟨p6, k6, rfl, s6⟩ := ha2
 refine qe Tryz.func5 rfl (m := 124) rfl rfl (fun h => ?_)
 rw [qeB] at hF
 refine zSR (qO h rfl rfl ?_)
 intro w1 bb1 h
 refine zp1 rfl (zNSR (zp1 rfl (zNSR (zl 0 0 h rfl (zp1 rfl ?_)))))
 obtain ⟨r1, hr1, hF⟩ := qd hF
 refine qT r1 h call9 (qlo (h.old ha1) hr1) rfl rfl rfl rfl ?_
 intro w2 h
 refine zp1 rfl (zNSSR (zp2 rfl (qb ?_)))
 refine qr rfl hF ?_ ?_ <;> intro hF
 ·exact zSR (zp1 rfl (qb (qw qc h hF ⟨rfl, trivial⟩)))
 refine zKSR (zp2 rfl ?_)
 obtain ⟨r2, hr2, hF⟩ := qd hF
 refine qT r2 h call10 (qjt ⟨_, _, rfl, (h.oldS s6)⟩ hr2) rfl rfl rfl rfl ?_
 intro w3 h
 refine zp1 rfl (zNSSR (zp2 rfl (qb ?_)))
 refine qr rfl hF ?_ ?_ <;> intro hF
 ·exact zSR (zp1 rfl (qb (qw qc h hF ⟨rfl, trivial⟩)))
 refine zKSR (zl 0 0 h rfl ?_)
 obtain ⟨r3, hr3, hF⟩ := qd hF
 refine qfD r3 h call12 (qgm (h.old ha1) hr3) rfl rfl rfl rfl ?_
 intro w4 S1 cs3 h
 obtain ⟨p7, k7, p8, k8, p9, k9, p10, k10, p11, k11, rfl, -, -, -, -, -⟩ := qar (h.own 0 rfl)
 refine zp1 rfl ?_
 obtain ⟨r4, hr4, hF⟩ := qd hF
 refine qat r4 h call13 (qeK ⟨_, _, rfl, (h.oldS s6)⟩ hr4) rfl rfl rfl rfl ?_
 intro w5 S2 p12 k12 h
 refine zp1 rfl ?_
 obtain ⟨r5, hr5, hF⟩ := qd hF
 obtain ⟨r6, r7⟩ := r5
 refine qiu (r6, r7) h call26 (qkT (h.own 1 rfl) (h.own 0 rfl) hr5) rfl rfl rfl rfl ?_
 intro w6 S3 us1 hv1 hr6
 obtain ⟨S4, S5, p13, k13, us2, rfl, hv2, hr7⟩ := hv1.consL hr6
 obtain ⟨rfl, h⟩ := hv2.lastI hr7
 refine zp5 rfl (zNSR (zl 3 0 h rfl ?_))
 obtain ⟨r8, hr9, hF⟩ := qd hF
 refine qfD r8 h call12 (qgm (h.old ha1) hr9) rfl rfl rfl rfl ?_
 intro w7 S7 cs4 h
 obtain ⟨p14, k14, p15, k15, p16, k16, p17, k17, p18, k18, rfl, -, -, -, -, -⟩ := qar (h.own 0 rfl)
 refine qah qc h rfl rfl rfl ?_
 intro w8 bb2 h
 refine zs 0 h rfl ?_
 intro w9 h
 refine zNSR (zp1 rfl ?_)
 obtain ⟨r9, hr10, hF⟩ := qd hF
 refine qat r9 h call13 (qeK ⟨_, _, rfl, (h.oldS s6)⟩ hr10) rfl rfl rfl rfl ?_
 intro w10 S8 p19 k19 h
 refine zp1 rfl (zNSR (zl 1 0 h rfl (zp2 rfl ?_)))
 obtain ⟨r10, hr11, hF⟩ := qd hF
 obtain ⟨r11, r12⟩ := r10
 refine qiu (r11, r12) h call27 (qiD (h.own 2 rfl) (h.own 0 rfl) hr11) rfl rfl rfl rfl ?_
 intro w11 S9 us3 hv4 hr12
 obtain ⟨S10, S11, p20, k20, us4, rfl, hv5, hr13⟩ := hv4.consL hr12
 obtain ⟨rfl, h⟩ := hv5.lastI hr13
 refine zp5 rfl (zNSS ?_)
 obtain ⟨KF3, hKF3, o6, hF, hK3⟩ := bindE hF
 refine qen (fun e w' => ∃ (b1 : Bool), KF3 b1 = some r ∧ e = [(1, .slice p6 a_1.length k6), (2, .int .i64 a_2), (3, .pointer (some ⟨bb1, 0, none⟩)), (8, .slice p13 r6.length k13), (9, .int .i64 r7), (10, .pointer (some ⟨bb2, 0, none⟩)), (11, .slice p19 r9.length k19), (12, .slice p20 r11.length k20), (13, .int .i64 r12), (57, .bool b1)] ∧ SH w w' [Ch.own S10 (r11 : List Int) [.slice p20 r11.length k20], Ch.own S8 (r9 : List qf) [.slice p19 r9.length k19], Ch.box bb2 [.slice p14 r8.Library.Cells.length k14, .slice p15 r8.Design.Instances.length k15, .slice p16 r8.Design.Nets.length k16, .slice p17 r8.Design.Ports.length k17, .slice p18 r8.Wires.length k18] 50, Ch.own S7 (r8 : qF) [.slice p14 r8.Library.Cells.length k14, .slice p15 r8.Design.Instances.length k15, .slice p16 r8.Design.Nets.length k16, .slice p17 r8.Design.Ports.length k17, .slice p18 r8.Wires.length k18], Ch.own S4 (r6 : List Int) [.slice p13 r6.length k13], Ch.box bb1 [.slice p1 a_0.Library.Cells.length k1, .slice p2 a_0.Design.Instances.length k2, .slice p3 a_0.Design.Nets.length k3, .slice p4 a_0.Design.Ports.length k4, .slice p5 a_0.Wires.length k5] 32]) ?_ ?_
 ·refine qy (zp2 rfl ?_)
  obtain ⟨r29, hr32, hF⟩ := qd hF
  refine qn r29 h call19 (qaz (h.own 0 rfl) (h.own 4 rfl) hr32) rfl rfl rfl rfl ?_
  intro w29 h
  refine zp2 rfl ?_
  by_cases hc15 : (!r29) = true
  ·replace hF := bifT hc15 hF
   refine qD hc15 (t := 53) rfl (zn3 rfl (zp1 rfl (qb ?_)))
   replace h := h.pick [0, 1, 2, 3, 4, 7] rfl
   obtain rfl := qh hF
   exact qx [(1, _), (2, _), (3, _), (8, _), (9, _), (10, _), (11, _), (12, _), (13, _), (57, _)] ⟨rfl, rfl, rfl, rfl, rfl, rfl, rfl, rfl, rfl, rfl, trivial⟩ ⟨_, hK3, rfl, h⟩
  replace hc15 := zb hc15
  replace hF := bifF hc15 hF
  refine qE hc15 (t := 53) rfl (qa rfl (zp1 rfl (qa rfl (zp1 rfl (qa rfl (zp2 rfl (qb ?_)))))))
  replace h := h.pick [0, 1, 2, 3, 4, 7] rfl
  obtain rfl := qh hF
  exact qx [(1, _), (2, _), (3, _), (8, _), (9, _), (10, _), (11, _), (12, _), (13, _), (57, _)] ⟨rfl, rfl, rfl, rfl, rfl, rfl, rfl, rfl, rfl, rfl, trivial⟩ ⟨_, hK3, rfl, h⟩
 rintro e3 w30 ⟨b1, hF, rfl, h⟩
 subst hKF3
 refine qr rfl hF ?_ ?_ <;> intro hF
 ·exact zSR (zp1 rfl (qb (qw qc h hF ⟨rfl, trivial⟩)))
 refine zKSS ?_
 refine qhV [] (fun w' => SH w w' [Ch.box bb2 [.slice p14 r8.Library.Cells.length k14, .slice p15 r8.Design.Instances.length k15, .slice p16 r8.Design.Nets.length k16, .slice p17 r8.Design.Ports.length k17, .slice p18 r8.Wires.length k18] 50, Ch.box bb1 [.slice p1 a_0.Library.Cells.length k1, .slice p2 a_0.Design.Instances.length k2, .slice p3 a_0.Design.Nets.length k3, .slice p4 a_0.Design.Ports.length k4, .slice p5 a_0.Wires.length k5] 32]) rfl 5 rfl #[ff, ff, ff, ff, ff] (by kernel_rfl) (fun w12 hb => ?_)
 replace h := h.ext hb
 clear hb
 refine qp 0 rfl #[tt, ff, ff, ff, ff] (by kernel_rfl) (by kernel_rfl) (fun w' hw => qda qc (hw.box 0 rfl) (j := 0) rfl rfl rfl) (h.pick [2, 5] rfl) rfl ?_
 refine qp 1 rfl #[tt, tt, ff, ff, ff] (by kernel_rfl) (by kernel_rfl) (fun w' hw => qda qc (hw.box 1 rfl) (j := 0) rfl rfl rfl) (h.pick [2, 5] rfl) rfl ?_
 refine qbi 2 rfl #[tt, tt, tt, ff, ff] (by kernel_rfl) (by kernel_rfl) ?_
 obtain ⟨r13, hr15, hF⟩ := qd hF
 refine qfD r13 h call12 (qgm (h.old ha1) hr15) rfl rfl rfl rfl ?_
 intro w13 S13 cs5 h
 obtain ⟨p21, k21, p22, k22, p23, k23, p24, k24, p25, k25, rfl, -, -, -, -, -⟩ := qar (h.own 0 rfl)
 refine qbf (fun _ => (h.pick [3, 6] rfl)) ?_
 refine qbi 3 rfl #[tt, tt, tt, tt, ff] (by kernel_rfl) (by kernel_rfl) ?_
 obtain ⟨r14, hr16, hF⟩ := qd hF
 refine qn r14 h call17 (qls (h.own 4 rfl) (h.own 0 rfl) hr16) rfl rfl rfl rfl ?_
 intro w14 h
 refine qbf (fun _ => (h.pick [3, 6] rfl)) ?_
 refine qp 4 rfl #[tt, tt, tt, tt, tt] (by kernel_rfl) (by kernel_rfl) (fun w' hw => v_p qc rfl w') (h.pick [3, 6] rfl) rfl ?_
 refine qf4 (by kernel_rfl) ?_
 refine qr rfl hF ?_ ?_ <;> intro hF
 ·exact zSR (zp1 rfl (qb (qw qc h hF ⟨rfl, trivial⟩)))
 refine zKSSR (zp2 rfl ?_)
 obtain ⟨r15, hr17, hF⟩ := qd hF
 refine qat r15 h call13 (qeK ⟨_, _, rfl, (h.oldS s6)⟩ hr17) rfl rfl rfl rfl ?_
 intro w15 S14 p26 k26 h
 obtain ⟨r16, hr18, hF⟩ := qd hF
 refine qn r16 h call18 (qjk (h.own 3 rfl) (h.own 0 rfl) hr18) rfl rfl rfl rfl ?_
 intro w16 h
 refine zp1 rfl (qb ?_)
 refine qr rfl hF ?_ ?_ <;> intro hF
 ·exact zSR (zp1 rfl (qb (qw qc h hF ⟨rfl, trivial⟩)))
 refine zKSR (zp1 rfl (zNSR (zl 4 0 h rfl (zp1 rfl ?_))))
 replace h := h.pick [5, 0, 1, 2, 3, 4, 6, 7] rfl
 obtain ⟨S15, S16, S17, h⟩ := qmz h
 replace h := h.pick [2, 0, 1, 3, 4, 5, 6, 7, 8, 9] rfl
 obtain ⟨S18, h⟩ := ql2 h
 replace h := h.pick [2, 0, 1, 3, 4, 5, 6, 7, 8, 9] rfl
 obtain ⟨S19, S20, S21, h⟩ := qmK h
 replace h := h.pick [4, 0, 1, 2, 3, 7, 8, 10, 11] rfl
 obtain ⟨o1, hr19, hF⟩ := qd hF
 obtain ⟨r17, x1, x2, x3, x4, x5⟩ := o1
 refine qch r17 call22 (qkg h hr19) rfl rfl rfl rfl ?_
 rintro w17 ⟨S22, S23, S24, S25, S26, h⟩
 replace h : SH _ _ [Ch.own S26 (x5 : List qP) [.slice p18 r8.Wires.length k18], Ch.own S25 (x4 : List qV) [.slice p17 r8.Design.Ports.length k17], Ch.own S24 (x3 : List ByteArray) [.slice p16 r8.Design.Nets.length k16], Ch.own S23 (x2 : List qk) [.slice p15 r8.Design.Instances.length k15], Ch.own S22 (x1 : List qB) [.slice p14 r8.Library.Cells.length k14], Ch.own S10 (r11 : List Int) [.slice p20 r11.length k20], Ch.own S8 (r9 : List qf) [.slice p19 r9.length k19], Ch.own S4 (r6 : List Int) [.slice p13 r6.length k13], Ch.box bb1 [.slice p1 a_0.Library.Cells.length k1, .slice p2 a_0.Design.Instances.length k2, .slice p3 a_0.Design.Nets.length k3, .slice p4 a_0.Design.Ports.length k4, .slice p5 a_0.Wires.length k5] 32] := h
 refine zp1 rfl (zNSR (zp2 rfl ?_))
 replace h := h.pick [6, 5, 7, 8] rfl
 obtain ⟨o2, hr20, hF⟩ := qd hF
 obtain ⟨r18, x6⟩ := o2
 refine qch r18 call23 (qiH h hr20) rfl rfl rfl rfl ?_
 rintro w18 ⟨S27, h⟩
 replace h : SH _ _ [Ch.own S27 (x6 : List qf) [.slice p19 r9.length k19], Ch.own S10 (r11 : List Int) [.slice p20 r11.length k20], Ch.own S4 (r6 : List Int) [.slice p13 r6.length k13], Ch.box bb1 [.slice p1 a_0.Library.Cells.length k1, .slice p2 a_0.Design.Instances.length k2, .slice p3 a_0.Design.Nets.length k3, .slice p4 a_0.Design.Ports.length k4, .slice p5 a_0.Wires.length k5] 32] := h
 refine zp1 rfl (zNSS ?_)
 obtain ⟨KF2, hKF2, o5, hF, hK2⟩ := bindE hF
 refine qen (fun e w' => ∃ (b2 : Bool), KF2 b2 = some r ∧ e = [(1, .slice p6 a_1.length k6), (2, .int .i64 a_2), (3, .pointer (some ⟨bb1, 0, none⟩)), (8, .slice p13 r6.length k13), (9, .int .i64 r7), (12, .slice p20 r11.length k20), (86, .bool b2)] ∧ SH w w' [Ch.own S10 (r11 : List Int) [.slice p20 r11.length k20], Ch.own S4 (r6 : List Int) [.slice p13 r6.length k13], Ch.box bb1 [.slice p1 a_0.Library.Cells.length k1, .slice p2 a_0.Design.Instances.length k2, .slice p3 a_0.Design.Nets.length k3, .slice p4 a_0.Design.Ports.length k4, .slice p5 a_0.Wires.length k5] 32]) ?_ ?_
 ·refine qy (zp3 rfl ?_)
  by_cases hc13 : (decide (r18 < 0)) = true
  ·replace hF := bifT hc13 hF
   refine qD hc13 (t := 76) rfl (zn4 rfl (zp2 rfl (zn3 rfl (zp1 rfl (qb ?_)))))
   replace h := h.pick [1, 2, 3] rfl
   obtain rfl := qh hF
   exact qx [(1, _), (2, _), (3, _), (8, _), (9, _), (12, _), (86, _)] ⟨rfl, rfl, rfl, rfl, rfl, rfl, rfl, trivial⟩ ⟨_, hK2, rfl, h⟩
  replace hc13 := zb hc13
  replace hF := bifF hc13 hF
  refine qE hc13 (t := 76) rfl (qa rfl (zp1 rfl (qa rfl (zp1 rfl (qa rfl ?_)))))
  obtain ⟨r28, hr31, hF⟩ := qd hF
  refine qn r28 h call19 (qaz (h.own 1 rfl) (h.own 2 rfl) hr31) rfl rfl rfl rfl ?_
  intro w27 h
  refine qa rfl (zp3 rfl ?_)
  by_cases hc14 : (!r28) = true
  ·replace hF := bifT hc14 hF
   refine qD hc14 (t := 82) rfl (zn3 rfl (zp1 rfl (qb ?_)))
   replace h := h.pick [1, 2, 3] rfl
   obtain rfl := qh hF
   exact qx [(1, _), (2, _), (3, _), (8, _), (9, _), (12, _), (86, _)] ⟨rfl, rfl, rfl, rfl, rfl, rfl, rfl, trivial⟩ ⟨_, hK2, rfl, h⟩
  replace hc14 := zb hc14
  replace hF := bifF hc14 hF
  refine qE hc14 (t := 82) rfl (qa rfl (zp1 rfl (qa rfl (zp1 rfl (qa rfl (zp2 rfl (qb ?_)))))))
  replace h := h.pick [1, 2, 3] rfl
  obtain rfl := qh hF
  exact qx [(1, _), (2, _), (3, _), (8, _), (9, _), (12, _), (86, _)] ⟨rfl, rfl, rfl, rfl, rfl, rfl, rfl, trivial⟩ ⟨_, hK2, rfl, h⟩
 rintro e2 w28 ⟨b2, hF, rfl, h⟩
 subst hKF2
 refine qr rfl hF ?_ ?_ <;> intro hF
 ·exact zSR (zp1 rfl (qb (qw qc h hF ⟨rfl, trivial⟩)))
 refine zKSR (zp1 rfl (zNSR (zp2 rfl ?_)))
 obtain ⟨o3, hr21, hF⟩ := qd hF
 obtain ⟨r19, x7⟩ := o3
 refine qch r19 call24 (qao h hr21) rfl rfl rfl rfl ?_
 rintro w19 ⟨S28, h⟩
 replace h : SH _ _ [Ch.own S28 (x7 : List Int) [.slice p20 r11.length k20], Ch.own S4 (r6 : List Int) [.slice p13 r6.length k13], Ch.box bb1 [.slice p1 a_0.Library.Cells.length k1, .slice p2 a_0.Design.Instances.length k2, .slice p3 a_0.Design.Nets.length k3, .slice p4 a_0.Design.Ports.length k4, .slice p5 a_0.Wires.length k5] 32] := h
 refine zp1 rfl (zNSR (zp1 rfl (zNSR (zp2 rfl ?_))))
 obtain ⟨r20, hr22, hF⟩ := qd hF
 refine qT r20 h call25 (qic (h.own 0 rfl) hr22) rfl rfl rfl rfl ?_
 intro w20 h
 refine zp1 rfl (zNSSR (zp2 rfl (qb ?_)))
 refine qr rfl hF ?_ ?_ <;> intro hF
 ·exact zSR (zp1 rfl (qb (qw qc h hF ⟨rfl, trivial⟩)))
 refine zKSSR (zp3 rfl (qb ?_))
 refine qr rfl hF ?_ ?_ <;> intro hF
 ·exact zSR (zp1 rfl (qb (qw qc h hF ⟨rfl, trivial⟩)))
 refine zKSR (zl 2 0 h rfl ?_)
 obtain ⟨r21, hr23, hF⟩ := qd hF
 refine qfD r21 h call12 (qgm (qoN (⟨(⟨a_0.Library.Cells⟩ : qz), (⟨a_0.Design.Instances, a_0.Design.Nets, a_0.Design.Ports⟩ : ql), a_0.Wires⟩ : qF) (h.oldS s1) (h.oldS s2) (h.oldS s3) (h.oldS s4) (h.oldS s5)) hr23) rfl rfl rfl rfl ?_
 intro w21 S29 cs6 h
 obtain ⟨p27, k27, p28, k28, p29, k29, p30, k30, p31, k31, rfl, -, -, -, -, -⟩ := qar (h.own 0 rfl)
 refine zp1 rfl ?_
 obtain ⟨r22, hr24, hF⟩ := qd hF
 refine qat r22 h call13 (qeK ⟨_, _, rfl, (h.oldS s6)⟩ hr24) rfl rfl rfl rfl ?_
 intro w22 S30 p32 k32 h
 refine zp1 rfl ?_
 obtain ⟨r23, hr25, hF⟩ := qd hF
 obtain ⟨r24, r25⟩ := r23
 refine qiu (r24, r25) h call27 (qiD (h.own 1 rfl) (h.own 0 rfl) hr25) rfl rfl rfl rfl ?_
 intro w23 S31 us5 hv7 hr26
 obtain ⟨S32, S33, p33, k33, us6, rfl, hv8, hr27⟩ := hv7.consL hr26
 obtain ⟨rfl, h⟩ := hv8.lastI hr27
 refine zp5 rfl (zNSS ?_)
 obtain ⟨KF1, hKF1, o4, hF, hK1⟩ := bindE hF
 refine qen (fun e w' => ∃ (b3 : Bool), KF1 b3 = some r ∧ e = [(12, .slice p20 r11.length k20), (15, .int .i64 r19), (115, .bool b3)] ∧ SH w w' [Ch.own S28 (x7 : List Int) [.slice p20 r11.length k20]]) ?_ ?_
 ·refine qy (zp2 rfl ?_)
  obtain ⟨r27, hr30, hF⟩ := qd hF
  refine qn r27 h call19 (qaz (h.own 0 rfl) (h.own 4 rfl) hr30) rfl rfl rfl rfl ?_
  intro w25 h
  refine zp2 rfl ?_
  by_cases hc12 : (!r27) = true
  ·replace hF := bifT hc12 hF
   refine qD hc12 (t := 111) rfl (zn3 rfl (zp1 rfl (qb ?_)))
   replace h := h.pick [3] rfl
   obtain rfl := qh hF
   exact qx [(12, _), (15, _), (115, _)] ⟨rfl, rfl, rfl, trivial⟩ ⟨_, hK1, rfl, h⟩
  replace hc12 := zb hc12
  replace hF := bifF hc12 hF
  refine qE hc12 (t := 111) rfl (qa rfl (zp1 rfl (qa rfl (zp1 rfl (qa rfl (zp2 rfl (qb ?_)))))))
  replace h := h.pick [3] rfl
  obtain rfl := qh hF
  exact qx [(12, _), (15, _), (115, _)] ⟨rfl, rfl, rfl, trivial⟩ ⟨_, hK1, rfl, h⟩
 rintro e1 w26 ⟨b3, hF, rfl, h⟩
 subst hKF1
 refine qr rfl hF ?_ ?_ <;> intro hF
 ·exact zSR (zp1 rfl (qb (qw qc h hF ⟨rfl, trivial⟩)))
 refine zKSR (zp1 rfl (zNSR (zp2 rfl ?_)))
 obtain ⟨r26, hr29, hF⟩ := qd hF
 refine qT r26 h call25 (qic (h.own 0 rfl) hr29) rfl rfl rfl rfl ?_
 intro w24 h
 refine zp1 rfl (zNSSR (zp2 rfl (qb ?_)))
 refine qr rfl hF ?_ ?_ <;> intro hF
 ·exact zSR (zp1 rfl (qb (qw qc h hF ⟨rfl, trivial⟩)))
 refine zKSSR (zp3 rfl (qb ?_))
 refine qr rfl hF ?_ ?_ <;> intro hF
 ·exact zSR (zp1 rfl (qb (qw qc h hF ⟨rfl, trivial⟩)))
 exact zKSR (zp1 rfl (qb (qw qc h hF ⟨rfl, trivial⟩)))

end Go.Fw


namespace Go.Fw
open Go

structure qrS (x : qlF) : Prop where
  False : okT x.False
  Cycles : okI x.Cycles
  MaxLimit : okI x.MaxLimit
  MinLimit : okI x.MinLimit
end Go.Fw


namespace Go.Fw
open Go
set_option maxRecDepth 100000

theorem qoo {b : qF} {es : List qf} {p : Int} (hok : qgV b) (hes : okL qbK es) : ∃ R : List Int × Int, Ev (fun n => qgb n b es p) R ∧ Ev (fun n => qfy n b es p) R ∧ qaq R.1 ≤ 1048576 := by
  have hl := hes.len
  obtain ⟨o, ev, _⟩ := qqv (p := p) hok hes
  have hc := qoz (p := p) hok hes
  unfold qgb qfy
  by_cases h0 : codeP b es p = 0
  · rw [h0] at ev hc
    exact ⟨(startTs es p, 0), Ev.bind hc (Ev.ff rfl (Ev.bind (qpB hes) .done)), Ev.bind ev (Ev.ff rfl (Ev.bind (qqc (path := [p]) hes (by simp) (by simp)) .done)), by show qaq (startTs es p) ≤ _; unfold qaq; rw [qod]; omega⟩
  · have hne : (codeP b es p != 0) = true := by simpa using h0
    exact ⟨([], codeP b es p), Ev.bind hc (Ev.tt hne .done), Ev.bind ev (Ev.tt hne .done), Nat.zero_le _⟩

theorem qjY {b : qF} {es : (List qf)} {p : Int} (h0 : qjP b) (h1 : (rngL qeO) es) (_h2 : rngI p) : Ev (fun n => qeB n b es p) true := by
  unfold qeB
  obtain ⟨r1, e1, q1⟩ := qqb (a := b) (left := 1048576) h0 (by omega) (by omega)
  refine Ev.bind e1 ?_
  rcases q1 with q1 | ⟨p1, q1⟩
  · exact Ev.tt (by simpa using q1) .done
  refine Ev.ff (by simp; omega) ?_
  obtain ⟨r2, e2, q2⟩ := qmw (a := es) (left := r1) h1 p1 (by omega)
  refine Ev.bind e2 ?_
  rcases q2 with q2 | ⟨p2, q2⟩
  · exact Ev.tt (by simpa using q2) .done
  refine Ev.ff (by simp; omega) ?_
  have w0 : qff b ≤ 1048576 := by omega
  have k0 := qoy h0 w0
  have w1 : qbu es ≤ 1048576 := by omega
  have k1 := qla h1 w1
  obtain ⟨⟨R0, R1⟩, hs, hi, v0⟩ := qoo (b := b) (es := es) (p := p) k0 k1
  have v0 : qaq R0 ≤ 1048576 := v0
  refine Ev.bind (qkJ w0) ?_
  refine Ev.bind (qhz w1) ?_
  refine Ev.bind hs ?_
  refine Ev.bind (qkJ w0) ?_
  refine Ev.bind (qhz w1) ?_
  refine Ev.bind hi ?_
  refine Ev.bind (b := false) (Ev.bind (qdi v0) (Ev.ff rfl (Ev.now (by simp)))) (Ev.ff rfl ?_)
  refine Ev.bind (qkJ w0) ?_
  refine Ev.bind (qqu w0) (Ev.ff rfl ?_)
  refine Ev.bind (qhz w1) ?_
  refine Ev.bind (qmD w1) (Ev.ff rfl ?_)
  obtain ⟨m1, ⟨x1_0, x1_1, x1_2, x1_3, x1_4⟩, mk1, ml1, mu1⟩ := qnI (a := b) (k := 1) (by omega) (by omega) w0
  refine Ev.bind mk1 ?_
  obtain ⟨m2, x2_0, mk2, ml2, mu2⟩ := qkH (a := es) (k := m1) (by omega) (by omega) w1
  refine Ev.bind mk2 ?_
  refine Ev.bind (b := false) (Ev.ff (by simp; omega) (Ev.bind (qdi v0) (Ev.ff rfl (Ev.now (by simp))))) (Ev.ff rfl ?_)
  have hh1 := qq8 (k := 1) (m := R0.length) (by omega) (by omega) v0
  refine Ev.bind (qlN (by omega) (by omega) v0) ?_
  refine Ev.bind hh1 (Ev.ff (by simp; omega) (Ev.ff qbF ?_))
  refine Ev.bind (qkJ w0) ?_
  refine Ev.bind (qhz w1) ?_
  refine Ev.bind hi ?_
  refine Ev.bind (b := false) (Ev.bind (qdi v0) (Ev.ff rfl (Ev.now (by simp)))) (Ev.ff rfl ?_)
  refine Ev.bind hh1 (Ev.ff (by simp; omega) (Ev.ff qbF ?_))
  exact .done

end Go.Fw
