/- Plain laws: exceptions; the law. -/
import Derived.Test.YtihkipojhdehnaaGreatDoorEL
import Derived.Test.YtihkipojhdehnaaGreatDoorB7
import Derived.Test.YtihkipojhdehnaaGreatDoorFw34

namespace Go.Fw
open Go
set_option maxRecDepth 100000

theorem qm8 {b : qD} (h : blockB b = true) : Ev (fun n => qdR n b) ((places b.Design).length : Int) := by
  unfold qdR
  exact Ev.bind (qj9 (qcm (qef h))) (Ev.now (by rw [List.length_map]))

def plsB (b : qD) (xs : List Int) : Bool := decide (xs.length ≤ 4) && allN (fun j => inPl b (at0 xs j)) xs.length
def valB (k v : Int) : Bool := bif k == 1 then v == 0 else bif k == 2 then inI v 1 10 else bif (k == 3) || (k == 4) then inI v 0 1000000000 else false
def excB (b : qD) (e : qf) : Bool := (plsB b e.From && (plsB b e.Through && plsB b e.To)) && (valB e.Kind e.Value && (incB e.From && incB e.To))

theorem qiM {b : qD} {xs : List Int} {sorted : Bool} (h : blockB b = true) (hl : xs.length ≤ 1048576) : Ev (fun n => qd1 n b xs sorted) (plsB b xs && (!sorted || incB xs)) := by
  have hpl := qeK (qcm (qef h))
  have hL : Ev (fun n => qbn b xs sorted n 0) (bif allN (fun j => inPl b (at0 xs j) && (!sorted || stepB xs j)) xs.length then .nxt (xs.length : Int) else .ret false) := by
    refine qed ?_ (fun j hj X hX => Ev.succ ?_)
    · exact Ev.succ (by simp only [qbn, qu (Nat.le_refl _), cond_false]; exact .done)
    · simp only [qbn, qt hj, cond_true, qbN hj, Option.bind_some, qd6, qr (show j < 9223372036854775807 by omega)]
      refine Ev.bind (qm8 h) ?_
      rw [qdc (show (places b.Design).length ≤ 9223372036854775807 by omega)]
      simp only [qbh]
      refine Ev.okP (a := inPl b (at0 xs j)) fun _ => ?_
      cases sorted
      · exact hX
      · refine Ev.tt rfl ?_
        unfold stepB
        by_cases h0 : j = 0
        · subst h0
          exact Ev.ff (by decide) hX
        · refine Ev.tt (by simp; omega) ?_
          simp only [show (j : Int) - 1 = ((j - 1 : Nat) : Int) by omega, qbo (show -9223372036854775808 ≤ ((j - 1 : Nat) : Int) by omega) (by omega), qbN (show j - 1 < xs.length by omega), Option.bind_some]
          rw [show decide (at0 xs (j - 1) ≥ at0 xs j) = !decide (at0 xs (j - 1) < at0 xs j) by rw [Bool.eq_iff_iff]; simp, show decide (j = 0) = false by simp; omega]
          simp only [qbh, Bool.not_true, Bool.false_or]
          exact Ev.okP1 fun _ => hX
  unfold qd1
  have e : (plsB b xs && (!sorted || incB xs)) = (allN (fun j => inPl b (at0 xs j) && (!sorted || stepB xs j)) xs.length && decide (xs.length ≤ 4)) := by
    unfold plsB incB
    rw [qiG]
    cases sorted
    · simp only [Bool.not_false, Bool.true_or, Bool.and_true]
      rw [show allN (fun _ => true) xs.length = true from qbi.2 (fun _ _ => rfl), Bool.and_true, Bool.and_comm]
    · simp only [Bool.not_true, Bool.false_or]
      rw [Bool.and_assoc, Bool.and_comm]
  rw [e]
  refine Ev.bind hL ?_
  cases allN (fun j => inPl b (at0 xs j) && (!sorted || stepB xs j)) xs.length
  · exact .done
  · refine Ev.now ?_
    show some (decide ((xs.length : Int) ≤ ((4 : Nat) : Int))) = some (true && decide (xs.length ≤ 4))
    rw [qiR, Bool.true_and]

theorem qoI {n : Nat} {k v : Int} : qgG n k v = some (valB k v) := by
  simp only [qgG, qdB, Option.bind_some]
  unfold valB
  cases (k == 1) <;> cases (k == 2) <;> cases (k == 3) <;> cases (k == 4) <;> rfl

theorem qlO {b : qD} {V : Tview} {e : qf} (h : blockB b = true) (hP : V.places = places b.Design) (he : qcK e) : Ev (fun n => qdb n (some V) e) (excB b e) := by
  have hpl := qeK (qcm (qef h))
  have one : ∀ xs : List Int, xs.length ≤ 1048576 → ∀ {F : Nat → Option (Flow Bool Int)} {X : Flow Bool Int}, Ev F X →
      Ev (fun n => bif decide ((xs.length : Int) > 4) then some (.ret false) else (qby n xs 0 (((places b.Design).length : Int) - 1)).bind fun r2 => bif (!r2) then some (.ret false) else F n) (bif plsB b xs then X else .ret false) := by
    intro xs hx F X hX
    unfold plsB
    rw [show decide ((xs.length : Int) > 4) = !decide (xs.length ≤ 4) from qjB (k := 4)]
    simp only [qbh]
    refine Ev.okP fun _ => Ev.ok1 ((qfe hx).cast (by rw [qgY (d := 0)]; rfl)) fun _ => hX
  have hL : Ev (fun n => qaa (some V) e n 0) (bif plsB b e.From then (bif plsB b e.Through then (bif plsB b e.To then .nxt 3 else .ret false) else .ret false) else .ret false) := by
    refine Ev.succ ?_
    simp only [qaa, Option.bind_some, qbd, hP, qdc (show (places b.Design).length ≤ 9223372036854775807 by omega)]
    refine one e.From he.From.len (F := fun n => qaa (some V) e n 1) (Ev.succ ?_)
    simp only [qaa, Option.bind_some, qbd, hP, qdc (show (places b.Design).length ≤ 9223372036854775807 by omega)]
    refine one e.Through he.Through.len (F := fun n => qaa (some V) e n 2) (Ev.succ ?_)
    simp only [qaa, Option.bind_some, qbd, hP, qdc (show (places b.Design).length ≤ 9223372036854775807 by omega)]
    refine one e.To he.To.len (F := fun n => qaa (some V) e n 3) (Ev.succ ?_)
    exact .done
  unfold qdb excB
  refine Ev.bind hL ?_
  cases plsB b e.From
  · exact .done
  · cases plsB b e.Through
    · exact .done
    · cases plsB b e.To
      · exact .done
      · simp only [cond_true, qoI, Option.bind_some, Bool.and_self, Bool.true_and]
        exact Ev.andP fun _ => Ev.and (qhP he.From.len) fun _ => Ev.last (qhP he.To.len)

theorem qlh {b : qD} {e : qf} (hok : qg1 b) (he : qcK e) : Ev (fun n => qeP n b e) (blockB b && excB b e) := by
  have eq : (blockB b && excB b e) = ((blockB b && ((plsB b e.From && (!true || incB e.From)) && ((plsB b e.Through && (!false || incB e.Through)) && (plsB b e.To && (!true || incB e.To))))) && valB e.Kind e.Value) := by
    unfold excB
    generalize blockB b = a1
    generalize plsB b e.From = a2
    generalize plsB b e.Through = a3
    generalize plsB b e.To = a4
    generalize valB e.Kind e.Value = a5
    generalize incB e.From = a6
    generalize incB e.To = a7
    cases a1 <;> cases a2 <;> cases a3 <;> cases a4 <;> cases a5 <;> cases a6 <;> cases a7 <;> rfl
  rw [eq]
  unfold qeP
  refine Ev.guardB (Ev.or (qk1 hok) fun h => Ev.or (qiM h he.From.len) fun _ => Ev.or (qiM h he.Through.len) fun _ => Ev.neg (qiM h he.To.len)) fun _ => ?_
  simp only [qd6, Option.bind_some]
  unfold valB
  cases (e.Kind == 1) <;> cases (e.Kind == 2) <;> cases (e.Kind == 3) <;> cases (e.Kind == 4) <;> exact .done

end Go.Fw


namespace Go.Fw
open Go
set_option maxRecDepth 100000

/-! ### Data paths -/

/-! ### Tags -/

instance : Inhabited qf := ⟨⟨0, 0, [], [], []⟩⟩
def stepT (e : qf) (found place : Int) : Int := bif decide (found ≥ 0) && (decide (found < (e.Through.length : Int)) && (at0 e.Through found.toNat == place)) then found + 1 else found
theorem qra {e : qf} {found p : Int} (hl : e.Through.length ≤ 1048576) : Ev (fun n => qdI n e found p) (stepT e found p) := by
  unfold qdI stepT
  simp only [qas, Option.bind_some]
  cases h1 : decide (found ≥ 0)
  · exact .done
  · cases h2 : decide (found < (e.Through.length : Int))
    · exact .done
    · have h1 := of_decide_eq_true h1
      have h2 := of_decide_eq_true h2
      simp only [cond_true, Bool.true_and]
      obtain ⟨k, rfl⟩ : ∃ k : Nat, found = (k : Int) := ⟨found.toNat, by omega⟩
      rw [qbN (show k < e.Through.length by omega), Int.toNat_natCast]
      simp only [Option.bind_some]
      cases (at0 e.Through k == p)
      · exact .done
      · exact Ev.now (by rw [qbo (by omega) (by omega)]; rfl)
end Go.Fw


namespace Go.Fw
open Go
set_option maxRecDepth 100000

/-- A marking: the counter grows, by no more than sixteen for each thing. -/
def Mk {σ : Type} (F : Nat → Option (Int × σ)) (k : Int) (w : Nat) : Prop := ∃ k' x, Ev F (k', x) ∧ k ≤ k' ∧ k' ≤ k + 16 * (w : Int)

theorem qoc {α : Type} {t : List α} {j : Nat} {y : α} (h : j < t.length) : idx (setS t (j : Int) y) (j : Int) = some y := by
  rw [qgB (by rw [qhD]; exact h), qpF h]
theorem qm4 {α : Type} {t : List α} {i : Int} {y z : α} : setS (setS t i y) i z = setS t i z := by
  unfold setS; rw [List.set_set]
theorem qmr {α : Type} {a : List α} {wt : α → Nat} {j : Nat} (h : j < a.length) : ((a.take (j + 1)).map wt).sum = ((a.take j).map wt).sum + wt a[j] := by
  rw [List.take_succ_eq_append_getElem h, List.map_append, List.sum_append]; simp
theorem qn7 {α : Type} {a : List α} {wt : α → Nat} {j : Nat} : ((a.take j).map wt).sum ≤ (a.map wt).sum := by
  conv => rhs; rw [← List.take_append_drop j a]
  rw [List.map_append, List.sum_append]
  exact Nat.le_add_right _ _

theorem qfR {α : Type} {a : List α} {wt : α → Nat} {Lf : Nat → List α → Int → Int → Option (List α × Int × Int)} {F : Nat → Option (Int × List α)} {k : Int} (hk0 : 0 ≤ k) (hk1 : k + 16 * ((a.length + (a.map wt).sum : Nat) : Int) ≤ 1000000000000)
    (hend : ∀ n t k, Lf (n + 1) t k (a.length : Int) = some (t, k, (a.length : Int)))
    (hstep : ∀ x, x ∈ a → ∀ k : Int, 0 ≤ k → k + 16 * ((1 + wt x : Nat) : Int) ≤ 1000000000000 → ∃ y k', k ≤ k' ∧ k' ≤ k + 16 * ((1 + wt x : Nat) : Int) ∧
      ∀ (t : List α) (j : Nat), j < 9223372036854775807 → j < a.length → j < t.length → t[j]? = some x → ∀ X, Ev (fun n => Lf n (setS t (j : Int) y) k' ((j + 1 : Nat) : Int)) X → Ev (fun n => Lf (n + 1) t k (j : Int)) X)
    (hl : a.length ≤ 1048576)
    (hF : ∀ n, F n = (Lf n a k 0).bind fun o => match o with | (x1, i1, _) => some (i1, x1)) : Mk F k (a.length + (a.map wt).sum) := by
  obtain ⟨⟨t, k'⟩, ⟨_, _, h3, h4⟩, e⟩ := loopE (τ := List α × Int) (Lf := fun n t j => Lf n t.1 t.2 j) (fin := fun t => (t.1, t.2, (a.length : Int)))
    (fun j t => t.1.length = a.length ∧ (∀ i, j ≤ i → t.1[i]? = a[i]?) ∧ k ≤ t.2 ∧ t.2 ≤ k + 16 * ((j + ((a.take j).map wt).sum : Nat) : Int)) (len := a.length)
    (fun n t => hend n t.1 t.2)
    (fun j t hj ht => by
      obtain ⟨h1, h2, h3, h4⟩ := ht
      have hs := qmr (wt := wt) hj
      have hs2 := qn7 (a := a) (wt := wt) (j := j + 1)
      obtain ⟨y, k', q1, q2, q3⟩ := hstep a[j] (List.getElem_mem hj) t.2 (by omega) (by omega)
      refine ⟨(setS t.1 (j : Int) y, k'), ⟨by rw [qhD]; exact h1, fun i hi => ?_, by show k ≤ k'; omega, ?_⟩, fun X hX => ?_⟩
      · show (t.1.set _ _)[i]? = _
        rw [List.getElem?_set_ne (by rw [Int.toNat_natCast]; omega)]
        exact h2 i (by omega)
      · show k' ≤ k + _
        rw [hs]
        omega
      · exact q3 t.1 j (by omega) hj (by omega) (by rw [h2 j (Nat.le_refl _), List.getElem?_eq_getElem hj]) X hX) 0 (Nat.zero_le _) (a, k) ⟨rfl, fun _ _ => rfl, Int.le_refl _, by show k ≤ k + _; omega⟩
  rw [List.take_length] at h4
  exact ⟨k', t, Ev.congr hF (Ev.bind e .done), h3, h4⟩

theorem qqt {α : Type} {pre a : List α} {j : Nat} {y : α} (hp : pre.length = j) (hj : j < a.length) : setS (pre ++ a.drop j) (j : Int) y = (pre ++ [y]) ++ a.drop (j + 1) := by
  show (pre ++ a.drop j).set j y = _
  rw [List.set_append, if_neg (by omega), hp, Nat.sub_self, List.drop_eq_getElem_cons hj, List.set_cons_zero, List.append_assoc]
  rfl

def marked (k : Int) (m : Nat) : List Int := (List.range m).map fun (i : Nat) => k + (i : Int)
theorem qlE {a : List Int} {k : Int} (h0 : 0 ≤ k) (h1 : k ≤ 1000000000000) (hl : a.length ≤ 1048576) : Ev (fun n => qai n a k) (k + (a.length : Int), marked k a.length) := by
  have hL : Ev (fun n => qbw a n a k 0) (marked k a.length, k + (a.length : Int), (a.length : Int)) := by
    have := loopF (τ := List Int × Int) (Lf := fun n t j => qbw a n t.1 t.2 j) (S := fun j => (marked k j ++ a.drop j, k + (j : Int))) (len := a.length) (fin := (marked k a.length, k + (a.length : Int), (a.length : Int))) (fun n => by
        simp only [qbw, qu (Nat.le_refl _), cond_false, List.drop_length, List.append_nil])
      (fun j hj X hX => by
        have hp : (marked k j).length = j := by simp [marked]
        have hlt : j < (marked k j ++ a.drop j).length := by rw [List.length_append, hp, List.length_drop]; omega
        have hm : marked k (j + 1) = marked k j ++ [k + (j : Int)] := by unfold marked; rw [List.range_succ, List.map_append]; rfl
        simp only [qbw, qt hj, cond_true, qgB hlt, Option.bind_some, qqt hp hj, qr (show j < 9223372036854775807 by omega), qbo (show -9223372036854775808 ≤ k + (j : Int) + 1 by omega) (by omega)]
        rw [← hm]
        rw [show k + (j : Int) + 1 = k + ((j + 1 : Nat) : Int) by omega]
        exact hX)
    simpa [marked] using this
  unfold qai
  exact Ev.bind hL .done
theorem qdk {a : List Int} {k : Int} (h0 : 0 ≤ k) (h1 : k ≤ 1000000000000) (hl : qao a ≤ 1048576) : ∃ k' x, Ev (fun n => qai n a k) (k', x) ∧ k ≤ k' ∧ k' ≤ k + 16 * (qao a : Int) :=
  ⟨_, _, qlE h0 h1 hl, by omega, by unfold qao; omega⟩
theorem qqZ {k : Int} {m : Nat} (h0 : 0 ≤ k) (h1 : k ≤ 1000000000000) (hl : m ≤ 1048576) : Ev (fun n => qeo n (marked k m) k) (k + (m : Int)) := by
  have hlen : (marked k m).length = m := by simp [marked]
  have hL : Ev (fun n => qbv (marked k m) n k 0) (.nxt (k + (m : Int), (m : Int))) := by
    have := loopF (Lf := qbv (marked k m)) (S := fun j => k + (j : Int)) (len := m) (fin := .nxt (k + (m : Int), (m : Int))) (fun n => by
        simp only [qbv, hlen, qu (Nat.le_refl _), cond_false])
      (fun j hj X hX => by
        have e : idx (marked k m) (j : Int) = some (k + (j : Int)) := by
          rw [qgB (by rw [hlen]; exact hj)]; simp [marked]
        simp only [qbv, hlen, qt hj, cond_true, e, Option.bind_some, bne_self_eq_false, cond_false, qr (show j < 9223372036854775807 by omega), qbo (show -9223372036854775808 ≤ k + (j : Int) + 1 by omega) (by omega)]
        rw [show k + (j : Int) + 1 = k + ((j + 1 : Nat) : Int) by omega]
        exact hX)
    simpa using this
  unfold qeo
  exact Ev.bind hL .done

theorem qo0 {a b : ByteArray} (h : a.size + b.size ≤ 1000000) : catB a b = some (a ++ b) := by
  unfold catB
  rw [if_pos]
  show ((a.size + b.size : Nat) : Int) ≤ 9223372036854775807
  omega
theorem qmY {x : IntK .u8} : (strOf [x]).size = 1 := rfl
theorem qhA {k : Int} (hk : k ≤ 1000000000001000) : ∃ s, Ev (fun n => qdp n k) s := by
  have main : ∀ m : Nat, ∀ i1 : Int, ∀ z : ByteArray, 0 ≤ i1 → i1 ≤ 9000000000000000000 → i1 < 10 ^ m → z.size + m ≤ 1000 → ∃ o : Int × ByteArray, o.2.size ≤ 1000 ∧ Ev (fun n => qdj n i1 z) o := by
    intro m
    induction m with
    | zero =>
      intro i1 z h0 hb h1 hz
      have : i1 = 0 := by have : (10 : Int) ^ 0 = 1 := rfl; omega
      subst this
      exact ⟨(0, z), by show z.size ≤ 1000; omega, Ev.succ (Ev.ff (by decide) .done)⟩
    | succ m ih =>
      intro i1 z h0 hb h1 hz
      by_cases hp : i1 = 0
      · subst hp
        exact ⟨(0, z), by show z.size ≤ 1000; omega, Ev.succ (Ev.ff (by decide) .done)⟩
      · have hd : i1.tdiv 10 = i1 / 10 := Int.tdiv_eq_ediv_of_nonneg h0
        have h10 : (10 : Int) ^ (m + 1) = 10 ^ m * 10 := Int.pow_succ _ _
        have hc : catB (strOf ([(⟨IntKind.wrap .u8 (W64 (48 + (i1.tmod 10)))⟩ : IntK .u8)])) z = some (strOf ([(⟨IntKind.wrap .u8 (W64 (48 + (i1.tmod 10)))⟩ : IntK .u8)]) ++ z) := qo0 (by rw [qmY]; omega)
        obtain ⟨o, ho, e⟩ := ih (i1 / 10) (strOf ([(⟨IntKind.wrap .u8 (W64 (48 + (i1.tmod 10)))⟩ : IntK .u8)]) ++ z) (by omega) (by omega) (by omega) (by rw [ByteArray.size_append, qmY]; omega)
        refine ⟨o, ho, Ev.succ ?_⟩
        simp only [qdj, show decide (i1 > 0) = true by simp; omega, cond_true, hc, Option.bind_some, hd, qbo (show -9223372036854775808 ≤ i1 / 10 by omega) (by omega)]
        exact e
  unfold qdp
  by_cases h0 : k ≤ 0
  · exact ⟨_, Ev.tt (by simpa using h0) .done⟩
  · obtain ⟨⟨o1, o2⟩, ho, e⟩ := main 16 k ⟨#[]⟩ (by omega) (by omega) (by have : (10 : Int) ^ 16 = 10000000000000000 := rfl; omega) (by decide)
    refine ⟨(⟨#[109]⟩ : ByteArray) ++ o2, Ev.ff (by simp; omega) (Ev.bind e ?_)⟩
    have ho : o2.size ≤ 1000 := ho
    show Ev (fun n => (catB ⟨#[109]⟩ o2).bind fun z3 => some z3) _
    rw [qo0 (show (⟨#[109]⟩ : ByteArray).size + o2.size ≤ 1000000 by have : (⟨#[109]⟩ : ByteArray).size = 1 := rfl; omega)]
    exact .done

theorem qjX {a : (List qC)} {k : Int} (h0 : 0 ≤ k) (h1 : k + 16 * (qda a : Int) ≤ 1000000000000) (hw : qda a ≤ 1048576) : Mk (fun n => qfj n a k) k (qda a) := by
  refine qfR (a := a) (wt := (fun x : qC => qdQ x)) h0 h1 (Lf := qbO a) (fun n t k => by simp only [qbO, qu (Nat.le_refl _), cond_false]) (fun x hx k h0 h1 => ?_) (by simp only [qda] at hw; omega) (fun _ => rfl)
  have hs := qcb (wt := (fun x : qC => qdQ x)) hx
  have ew : qdQ x = qao x.Slews + qao x.Loads + qao x.Values := rfl
  have hw : a.length + (a.map (fun x : qC => qdQ x)).sum ≤ 1048576 := hw
  simp only [ew] at hs h1 ⊢
  obtain ⟨k1, x1, q1, l1, u1⟩ := qdk (a := x.Slews) (k := k) (by omega) (by omega) (by omega)
  obtain ⟨k2, x2, q2, l2, u2⟩ := qdk (a := x.Loads) (k := k1) (by omega) (by omega) (by omega)
  obtain ⟨k3, x3, q3, l3, u3⟩ := qdk (a := x.Values) (k := k2) (by omega) (by omega) (by omega)
  refine ⟨⟨x1, x2, x3⟩, k3, by omega, by omega, fun t j hb hj ht hx X hX => ?_⟩
  simp only [qbO, qt hj, cond_true, qr hb]
  try simp only [qav hx, Option.bind_some]
  refine Ev.bind q1 ?_
  refine Ev.bind q2 ?_
  refine Ev.bind q3 ?_
  exact hX

theorem qnD {a : (List qX)} {k : Int} (h0 : 0 ≤ k) (h1 : k + 16 * (qf1 a : Int) ≤ 1000000000000) (hw : qf1 a ≤ 1048576) : Mk (fun n => qhv n a k) k (qf1 a) := by
  refine qfR (a := a) (wt := (fun x : qX => qhd x)) h0 h1 (Lf := qcC a) (fun n t k => by simp only [qcC, qu (Nat.le_refl _), cond_false]) (fun x hx k h0 h1 => ?_) (by simp only [qf1] at hw; omega) (fun _ => rfl)
  have hs := qcb (wt := (fun x : qX => qhd x)) hx
  have ew : qhd x = qda x.Delay + qda x.Slew := rfl
  have hw : a.length + (a.map (fun x : qX => qhd x)).sum ≤ 1048576 := hw
  simp only [ew] at hs h1 ⊢
  have e1 : W64 (k + 1) = k + 1 := qbo (by omega) (by omega)
  have e2 : W64 (k + 1 + 1) = k + 1 + 1 := qbo (by omega) (by omega)
  have e3 : W64 (k + 1 + 1 + 1) = k + 1 + 1 + 1 := qbo (by omega) (by omega)
  have e4 : W64 (k + 1 + 1 + 1 + 1) = k + 1 + 1 + 1 + 1 := qbo (by omega) (by omega)
  obtain ⟨k1, x1, q1, l1, u1⟩ := qjX (a := x.Delay) (k := k + 1 + 1 + 1 + 1) (by omega) (by omega) (by omega)
  obtain ⟨k2, x2, q2, l2, u2⟩ := qjX (a := x.Slew) (k := k1) (by omega) (by omega) (by omega)
  refine ⟨⟨k, k + 1, k + 1 + 1, k + 1 + 1 + 1, x1, x2⟩, k2, by omega, by omega, fun t j hb hj ht hx X hX => ?_⟩
  simp only [qcC, qt hj, cond_true, qr hb]
  try simp only [qav hx, Option.bind_some, e1, e2, e3, e4]
  refine Ev.bind q1 ?_
  refine Ev.bind q2 ?_
  exact hX

theorem qnR {a : (List qag)} {k : Int} (h0 : 0 ≤ k) (h1 : k + 16 * (qf0 a : Int) ≤ 1000000000000) (hw : qf0 a ≤ 1048576) : Mk (fun n => qhu n a k) k (qf0 a) := by
  refine qfR (a := a) (wt := (fun x : qag => qia x)) h0 h1 (Lf := qcD a) (fun n t k => by simp only [qcD, qu (Nat.le_refl _), cond_false]) (fun x hx k h0 h1 => ?_) (by simp only [qf0] at hw; omega) (fun _ => rfl)
  have hs := qcb (wt := (fun x : qag => qia x)) hx
  have ew : qia x = x.Name.size := rfl
  have hw : a.length + (a.map (fun x : qag => qia x)).sum ≤ 1048576 := hw
  simp only [ew] at hs h1 ⊢
  obtain ⟨s1, es1⟩ := qhA (k := k) (by omega)
  have e1 : W64 (k + 1) = k + 1 := qbo (by omega) (by omega)
  have e2 : W64 (k + 1 + 1) = k + 1 + 1 := qbo (by omega) (by omega)
  have e3 : W64 (k + 1 + 1 + 1) = k + 1 + 1 + 1 := qbo (by omega) (by omega)
  have e4 : W64 (k + 1 + 1 + 1 + 1) = k + 1 + 1 + 1 + 1 := qbo (by omega) (by omega)
  refine ⟨⟨s1, k + 1, k + 1 + 1, ((k + 1 + 1 + 1).tmod 3) == 0⟩, k + 1 + 1 + 1 + 1, by omega, by omega, fun t j hb hj ht hx X hX => ?_⟩
  simp only [qcD, qt hj, cond_true, qr hb]
  try simp only [qav hx, qoc ht, Option.bind_some, qm4]
  refine Ev.bind es1 ?_
  try simp only [e1, e2, e3, e4]
  exact hX

theorem qni {a : (List qB)} {k : Int} (h0 : 0 ≤ k) (h1 : k + 16 * (qfc a : Int) ≤ 1000000000000) (hw : qfc a ≤ 1048576) : Mk (fun n => qgI n a k) k (qfc a) := by
  refine qfR (a := a) (wt := (fun x : qB => qeZ x)) h0 h1 (Lf := qcg a) (fun n t k => by simp only [qcg, qu (Nat.le_refl _), cond_false]) (fun x hx k h0 h1 => ?_) (by simp only [qfc] at hw; omega) (fun _ => rfl)
  have hs := qcb (wt := (fun x : qB => qeZ x)) hx
  have ew : qeZ x = x.Name.size + qf0 x.Pins + qf1 x.Arcs + qao x.Truth := rfl
  have hw : a.length + (a.map (fun x : qB => qeZ x)).sum ≤ 1048576 := hw
  simp only [ew] at hs h1 ⊢
  obtain ⟨s1, es1⟩ := qhA (k := k) (by omega)
  have e1 : W64 (k + 1) = k + 1 := qbo (by omega) (by omega)
  have e2 : W64 (k + 1 + 1) = k + 1 + 1 := qbo (by omega) (by omega)
  obtain ⟨k2, x2, q2, l2, u2⟩ := qnR (a := x.Pins) (k := k + 1 + 1) (by omega) (by omega) (by omega)
  obtain ⟨k3, x3, q3, l3, u3⟩ := qnD (a := x.Arcs) (k := k2) (by omega) (by omega) (by omega)
  obtain ⟨k4, x4, q4, l4, u4⟩ := qdk (a := x.Truth) (k := k3) (by omega) (by omega) (by omega)
  have e3 : W64 (k4 + 1) = k4 + 1 := qbo (by omega) (by omega)
  have e4 : W64 (k4 + 1 + 1) = k4 + 1 + 1 := qbo (by omega) (by omega)
  refine ⟨⟨s1, k + 1, x2, x3, x4, k4, k4 + 1⟩, k4 + 1 + 1, by omega, by omega, fun t j hb hj ht hx X hX => ?_⟩
  simp only [qcg, qt hj, cond_true, qr hb]
  try simp only [qav hx, Option.bind_some]
  refine Ev.bind es1 ?_
  try simp only [e1, e2]
  refine Ev.bind q2 ?_
  refine Ev.bind q3 ?_
  refine Ev.bind q4 ?_
  try simp only [e3, e4]
  exact hX

theorem ql1 {a : qx} {k : Int} (h0 : 0 ≤ k) (h1 : k + 16 * (qdT a : Int) ≤ 1000000000000) (hw : qdT a ≤ 1048576) : Mk (fun n => qe2 n a k) k (qdT a) := by
  simp only [qdT] at h1 hw ⊢
  obtain ⟨k1, x1, q1, l1, u1⟩ := qni (a := a.Cells) (k := k) (by omega) (by omega) (by omega)
  refine ⟨k1, x1, ?_, by omega, by omega⟩
  unfold qe2
  exact Ev.bind q1 (.done)

theorem qkL {a : (List qk)} {k : Int} (h0 : 0 ≤ k) (h1 : k + 16 * (qbS a : Int) ≤ 1000000000000) (hw : qbS a ≤ 1048576) : Mk (fun n => qe8 n a k) k (qbS a) := by
  refine qfR (a := a) (wt := (fun x : qk => qbH x)) h0 h1 (Lf := qbj a) (fun n t k => by simp only [qbj, qu (Nat.le_refl _), cond_false]) (fun x hx k h0 h1 => ?_) (by simp only [qbS] at hw; omega) (fun _ => rfl)
  have hs := qcb (wt := (fun x : qk => qbH x)) hx
  have ew : qbH x = x.Name.size + qao x.Nets := rfl
  have hw : a.length + (a.map (fun x : qk => qbH x)).sum ≤ 1048576 := hw
  simp only [ew] at hs h1 ⊢
  obtain ⟨s1, es1⟩ := qhA (k := k) (by omega)
  have e1 : W64 (k + 1) = k + 1 := qbo (by omega) (by omega)
  have e2 : W64 (k + 1 + 1) = k + 1 + 1 := qbo (by omega) (by omega)
  obtain ⟨k2, x2, q2, l2, u2⟩ := qdk (a := x.Nets) (k := k + 1 + 1) (by omega) (by omega) (by omega)
  refine ⟨⟨s1, k + 1, x2⟩, k2, by omega, by omega, fun t j hb hj ht hx X hX => ?_⟩
  simp only [qbj, qt hj, cond_true, qr hb]
  try simp only [qav hx, Option.bind_some]
  refine Ev.bind es1 ?_
  try simp only [e1, e2]
  refine Ev.bind q2 ?_
  exact hX

theorem qmb {a : (List ByteArray)} {k : Int} (h0 : 0 ≤ k) (h1 : k + 16 * (qdW a : Int) ≤ 1000000000000) (hw : qdW a ≤ 1048576) : Mk (fun n => qfM n a k) k (qdW a) := by
  refine qfR (a := a) (wt := (fun x : ByteArray => x.size)) h0 h1 (Lf := qbE a) (fun n t k => by simp only [qbE, qu (Nat.le_refl _), cond_false]) (fun x hx k h0 h1 => ?_) (by simp only [qdW] at hw; omega) (fun _ => rfl)
  obtain ⟨s, es⟩ := qhA (k := k) (by omega)
  have e1 : W64 (k + 1) = k + 1 := qbo (by omega) (by omega)
  refine ⟨s, k + 1, by omega, by omega, fun t j hb hj ht hx X hX => ?_⟩
  simp only [qbE, qt hj, cond_true, e1, qr hb]
  refine Ev.bind es ?_
  try simp only [qav hx, Option.bind_some]
  exact hX

theorem qm7 {a : (List qV)} {k : Int} (h0 : 0 ≤ k) (h1 : k + 16 * (qfd a : Int) ≤ 1000000000000) (hw : qfd a ≤ 1048576) : Mk (fun n => qgP n a k) k (qfd a) := by
  refine qfR (a := a) (wt := (fun x : qV => qgi x)) h0 h1 (Lf := qcf a) (fun n t k => by simp only [qcf, qu (Nat.le_refl _), cond_false]) (fun x hx k h0 h1 => ?_) (by simp only [qfd] at hw; omega) (fun _ => rfl)
  have hs := qcb (wt := (fun x : qV => qgi x)) hx
  have ew : qgi x = x.Name.size := rfl
  have hw : a.length + (a.map (fun x : qV => qgi x)).sum ≤ 1048576 := hw
  simp only [ew] at hs h1 ⊢
  obtain ⟨s1, es1⟩ := qhA (k := k) (by omega)
  have e1 : W64 (k + 1) = k + 1 := qbo (by omega) (by omega)
  have e2 : W64 (k + 1 + 1) = k + 1 + 1 := qbo (by omega) (by omega)
  have e3 : W64 (k + 1 + 1 + 1) = k + 1 + 1 + 1 := qbo (by omega) (by omega)
  refine ⟨⟨s1, k + 1, k + 1 + 1⟩, k + 1 + 1 + 1, by omega, by omega, fun t j hb hj ht hx X hX => ?_⟩
  simp only [qcf, qt hj, cond_true, qr hb]
  try simp only [qav hx, qoc ht, Option.bind_some, qm4]
  refine Ev.bind es1 ?_
  try simp only [e1, e2, e3]
  exact hX

theorem qmq {a : ql} {k : Int} (h0 : 0 ≤ k) (h1 : k + 16 * (qd7 a : Int) ≤ 1000000000000) (hw : qd7 a ≤ 1048576) : Mk (fun n => qfl n a k) k (qd7 a) := by
  simp only [qd7] at h1 hw ⊢
  obtain ⟨k1, x1, q1, l1, u1⟩ := qkL (a := a.Instances) (k := k) (by omega) (by omega) (by omega)
  obtain ⟨k2, x2, q2, l2, u2⟩ := qmb (a := a.Nets) (k := k1) (by omega) (by omega) (by omega)
  obtain ⟨k3, x3, q3, l3, u3⟩ := qm7 (a := a.Ports) (k := k2) (by omega) (by omega) (by omega)
  refine ⟨k3, (x1, x2, x3), ?_, by omega, by omega⟩
  unfold qfl
  exact Ev.bind q1 (Ev.bind q2 (Ev.bind q3 (.done)))

theorem qm6 {a : (List qQ)} {k : Int} (h0 : 0 ≤ k) (h1 : k + 16 * (qfi a : Int) ≤ 1000000000000) (hw : qfi a ≤ 1048576) : Mk (fun n => qgE n a k) k (qfi a) := by
  refine qfR (a := a) (wt := (fun x : qQ => qe0 x)) h0 h1 (Lf := qcj a) (fun n t k => by simp only [qcj, qu (Nat.le_refl _), cond_false]) (fun x hx k h0 h1 => ?_) (by simp only [qfi] at hw; omega) (fun _ => rfl)
  have hs := qcb (wt := (fun x : qQ => qe0 x)) hx
  have ew : qe0 x = qao x.Parent + qao x.Res + qao x.Cap + qao x.Sink := rfl
  have hw : a.length + (a.map (fun x : qQ => qe0 x)).sum ≤ 1048576 := hw
  simp only [ew] at hs h1 ⊢
  obtain ⟨k1, x1, q1, l1, u1⟩ := qdk (a := x.Parent) (k := k) (by omega) (by omega) (by omega)
  obtain ⟨k2, x2, q2, l2, u2⟩ := qdk (a := x.Res) (k := k1) (by omega) (by omega) (by omega)
  obtain ⟨k3, x3, q3, l3, u3⟩ := qdk (a := x.Cap) (k := k2) (by omega) (by omega) (by omega)
  obtain ⟨k4, x4, q4, l4, u4⟩ := qdk (a := x.Sink) (k := k3) (by omega) (by omega) (by omega)
  refine ⟨⟨x1, x2, x3, x4⟩, k4, by omega, by omega, fun t j hb hj ht hx X hX => ?_⟩
  simp only [qcj, qt hj, cond_true, qr hb]
  try simp only [qav hx, Option.bind_some]
  refine Ev.bind q1 ?_
  refine Ev.bind q2 ?_
  refine Ev.bind q3 ?_
  refine Ev.bind q4 ?_
  exact hX

theorem qnf {a : qD} {k : Int} (h0 : 0 ≤ k) (h1 : k + 16 * (qff a : Int) ≤ 1000000000000) (hw : qff a ≤ 1048576) : Mk (fun n => qfy n a k) k (qff a) := by
  simp only [qff] at h1 hw ⊢
  obtain ⟨k1, x1, q1, l1, u1⟩ := ql1 (a := a.Library) (k := k) (by omega) (by omega) (by omega)
  obtain ⟨k2, ⟨x2_0, x2_1, x2_2⟩, q2, l2, u2⟩ := qmq (a := a.Design) (k := k1) (by omega) (by omega) (by omega)
  obtain ⟨k3, x3, q3, l3, u3⟩ := qm6 (a := a.Wires) (k := k2) (by omega) (by omega) (by omega)
  refine ⟨k3, (x1, x2_0, x2_1, x2_2, x3), ?_, by omega, by omega⟩
  unfold qfy
  exact Ev.bind q1 (Ev.bind q2 (Ev.bind q3 (.done)))

theorem qkr {a : (List qf)} {k : Int} (h0 : 0 ≤ k) (h1 : k + 16 * (qbx a : Int) ≤ 1000000000000) (hw : qbx a ≤ 1048576) : Mk (fun n => qeM n a k) k (qbx a) := by
  refine qfR (a := a) (wt := (fun x : qf => qba x)) h0 h1 (Lf := qbb a) (fun n t k => by simp only [qbb, qu (Nat.le_refl _), cond_false]) (fun x hx k h0 h1 => ?_) (by simp only [qbx] at hw; omega) (fun _ => rfl)
  have hs := qcb (wt := (fun x : qf => qba x)) hx
  have ew : qba x = qao x.From + qao x.Through + qao x.To := rfl
  have hw : a.length + (a.map (fun x : qf => qba x)).sum ≤ 1048576 := hw
  simp only [ew] at hs h1 ⊢
  have e1 : W64 (k + 1) = k + 1 := qbo (by omega) (by omega)
  have e2 : W64 (k + 1 + 1) = k + 1 + 1 := qbo (by omega) (by omega)
  obtain ⟨k1, x1, q1, l1, u1⟩ := qdk (a := x.From) (k := k + 1 + 1) (by omega) (by omega) (by omega)
  obtain ⟨k2, x2, q2, l2, u2⟩ := qdk (a := x.Through) (k := k1) (by omega) (by omega) (by omega)
  obtain ⟨k3, x3, q3, l3, u3⟩ := qdk (a := x.To) (k := k2) (by omega) (by omega) (by omega)
  refine ⟨⟨k, k + 1, x1, x2, x3⟩, k3, by omega, by omega, fun t j hb hj ht hx X hX => ?_⟩
  simp only [qbb, qt hj, cond_true, qr hb]
  try simp only [qav hx, Option.bind_some, e1, e2]
  refine Ev.bind q1 ?_
  refine Ev.bind q2 ?_
  refine Ev.bind q3 ?_
  exact hX

end Go.Fw


namespace Go.Fw
open Go
set_option maxRecDepth 100000

/-! ### Codes -/

def codeX (b : qD) (es : List qf) : Int := bif blockB b then (bif decide (es.length ≤ 6) then (bif es.all (excB b) then 0 else 5) else 3) else 1
def codeP (b : qD) (es : List qf) (p : Int) : Int := bif codeX b es == 0 then (bif inPl b p then codeX b es else 2) else codeX b es
theorem qma {b : qD} {es : List qf} (h : codeX b es = 0) : blockB b = true ∧ es.length ≤ 6 ∧ es.all (excB b) = true := by
  unfold codeX at h
  cases h1 : blockB b
  · rw [h1] at h; cases h
  · rw [h1] at h
    cases h2 : decide (es.length ≤ 6)
    · rw [h2] at h; cases h
    · rw [h2] at h
      cases h3 : es.all (excB b)
      · rw [h3] at h; cases h
      · exact ⟨rfl, of_decide_eq_true h2, rfl⟩
theorem qoP {b : qD} {es : List qf} (hok : qg1 b) (hes : okL qcK es) : Ev (fun n => qgO n b es) (codeX b es) := by
  have hlen := hes.len
  unfold qgO codeX
  refine Ev.chk1 (qk1 hok) fun h => ?_
  rw [show decide ((es.length : Int) > 6) = !decide (es.length ≤ 6) from qjB (k := 6)]
  simp only [qbh]
  refine Ev.okP1 fun _ => ?_
  have hL : Ev (fun n => qc1 b es n 0) (bif es.all (excB b) then .nxt (es.length : Int) else .ret 5) := by
    rw [qhk]
    refine qed (Ev.succ ?_) (fun j hj X hX => Ev.succ ?_)
    · simp only [qc1, qu (Nat.le_refl _), cond_false]; exact .done
    · simp only [qc1, qt hj, cond_true, qaD hj, Option.bind_some, qr (show j < 9223372036854775807 by omega)]
      have := qlh hok (qii hes hj)
      rw [h, Bool.true_and] at this
      exact Ev.chk1 this fun _ => hX
  refine Ev.bind hL ?_
  cases es.all (excB b) <;> exact .done

theorem qqq {b : qD} {es : List qf} (hok : qg1 b) (hes : okL qcK es) :
    ∃ o, Ev (fun n => qec n b es) (o, codeX b es) ∧ (codeX b es = 0 → ∃ ls lo de, o = some ⟨b, places b.Design, ls, lo, de, []⟩) := by
  have hlen := hes.len
  unfold qec codeX
  cases h : blockB b
  · exact ⟨none, Ev.bind (ql5 hok) (Ev.tt (by rw [h]; rfl) .done), fun h => by cases h⟩
  · have hb := ql5 hok
    rw [h] at hb
    obtain ⟨ls, lo, de, ev⟩ := qow h
    cases h6 : decide (es.length ≤ 6)
    · exact ⟨none, Ev.bind hb (Ev.ff rfl (Ev.tt (by rw [show decide ((es.length : Int) > 6) = !decide (es.length ≤ 6) from qjB (k := 6), h6]; rfl) .done)), fun h => by cases h⟩
    · have hc : Ev (fun n => qW n es (some ⟨b, places b.Design, ls, lo, de, []⟩)) (!es.all (excB b)) := by
        unfold qW
        refine Ev.bind (b := ixL (fun e => !excB b e) es) (qg6 (fin := (es.length : Int)) (Lf := qG es (some ⟨b, places b.Design, ls, lo, de, []⟩))
          (pf := fun n x => qdu n x (some ⟨b, places b.Design, ls, lo, de, []⟩)) (fun x hx => ?_)
          (fun n => by simp only [qG, qu (Nat.le_refl _), cond_false])
          (fun n j x hx => by
            have hj := (List.getElem?_eq_some_iff.1 hx).1
            simp only [qG, qt hj, cond_true, qav hx, Option.bind_some, qr (show j < 9223372036854775807 by omega)])
          (fun n => by unfold qan; congr 1; funext o; cases o <;> rfl)) (Ev.now ?_)
        · unfold qdu
          exact Ev.neg (qlO h rfl (hes.2 x hx))
        · rw [qjh, ← qky, Bool.not_not]
      cases h3 : es.all (excB b)
      · rw [h3] at hc
        exact ⟨none, Ev.bind hb (Ev.ff rfl (Ev.ff (by rw [show decide ((es.length : Int) > 6) = !decide (es.length ≤ 6) from qjB (k := 6), h6]; rfl) (Ev.bind ev (Ev.bind hc .done)))), fun h => by cases h⟩
      · rw [h3] at hc
        exact ⟨_, Ev.bind hb (Ev.ff rfl (Ev.ff (by rw [show decide ((es.length : Int) > 6) = !decide (es.length ≤ 6) from qjB (k := 6), h6]; rfl) (Ev.bind ev (Ev.bind hc .done)))), fun _ => ⟨ls, lo, de, rfl⟩⟩

theorem qnd {b : qD} (h : blockB b = true) : Ev (fun n => qdR n b) ((places b.Design).length : Int) := by
  unfold qdR
  exact Ev.bind (qj9 (qcm (qef h))) (Ev.now (by rw [List.length_map]))
theorem qoU {b : qD} {es : List qf} {p : Int} (hok : qg1 b) (hes : okL qcK es) : Ev (fun n => qgF n b es p) (codeP b es p) := by
  unfold qgF codeP
  refine Ev.bind (qoP hok hes) ?_
  refine Ev.iff (fun h0 => ?_) fun _ => .done
  have h0 : codeX b es = 0 := by simpa using h0
  have h := (qma h0).1
  have hpl := qeK (qcm (qef h))
  refine Ev.bind (qnd h) ?_
  rw [qdc (by omega)]
  simp only [qd6, Option.bind_some, qbh]
  exact Ev.iff (fun _ => .done) fun _ => .done
theorem qoe {b : qD} {V : Tview} {p : Int} (h : blockB b = true) (hP : V.places = places b.Design) : Ev (fun n => qes n (some V) p) (inPl b p) := by
  have hpl := qeK (qcm (qef h))
  refine Ev.now (x := some (inPl b p)) rfl |>.congr fun n => ?_
  unfold qes
  simp only [Option.bind_some, qbd, hP, qdB]
  rw [qdc (by omega)]
  rfl
theorem qqA {b : qD} {es : List qf} {p : Int} (hok : qg1 b) (hes : okL qcK es) :
    ∃ o, Ev (fun n => qgV n b es p) (o, codeP b es p) ∧ (codeP b es p = 0 → ∃ ls lo de, o = some ⟨b, places b.Design, ls, lo, de, []⟩) := by
  obtain ⟨o, e, hv⟩ := qqq hok hes
  unfold qgV codeP
  by_cases h0 : codeX b es = 0
  · obtain ⟨ls, lo, de, rfl⟩ := hv h0
    rw [h0] at e ⊢
    have hi := qoe (V := ⟨b, places b.Design, ls, lo, de, []⟩) (p := p) (qma h0).1 rfl
    cases hp : inPl b p
    · rw [hp] at hi
      exact ⟨none, Ev.bind e (Ev.tt rfl (Ev.bind hi .done)), fun h => by cases h⟩
    · rw [hp] at hi
      exact ⟨_, Ev.bind e (Ev.tt rfl (Ev.bind hi .done)), fun _ => ⟨ls, lo, de, rfl⟩⟩
  · have hc : (codeX b es == 0) = false := by simpa using h0
    rw [hc]
    exact ⟨o, Ev.bind e (Ev.ff hc .done), fun h => absurd h h0⟩

/-! ### Tags step by step -/

def stepTs (es : List qf) (tag : List Int) (p : Int) : List Int := (List.range es.length).map fun i => stepT (gt es i) (at0 tag i) p
theorem qos {es : List qf} {tag : List Int} {p : Int} : (stepTs es tag p).length = es.length := by simp [stepTs]
def pre {α : Type} (f : Nat → α) (j : Nat) : List α := (List.range j).map f
theorem qrb {α : Type} {f : Nat → α} {j : Nat} : (pre f j).length = j := by simp [pre]
theorem qqc {α : Type} {f : Nat → α} {j : Nat} : pre f j ++ [f j] = pre f (j + 1) := by unfold pre; rw [List.range_succ, List.map_append]; rfl
theorem qq9 {α : Type} {f : Nat → α} {j : Nat} (h : j ≤ 1048576) : appS (pre f j) [f j] = some (pre f (j + 1)) := by
  rw [qet (by rw [qrb, List.length_singleton]; omega), qqc]
theorem qqp {es : List qf} {tag : List Int} {p : Int} (hes : okL qcK es) (ht : tag.length = es.length) : Ev (fun n => qg8 n es tag p) (stepTs es tag p) := by
  have hl := hes.len
  have hL : Ev (fun n => qb0 es tag p n ([] : List Int) 0) (stepTs es tag p, (es.length : Int)) := by
    refine loopF (Lf := qb0 es tag p) (S := pre fun i => stepT (gt es i) (at0 tag i) p) (len := es.length) (fun n => ?_) (fun j hj X hX => ?_)
    · simp only [qb0, qu (Nat.le_refl _), cond_false]; rfl
    · have hT := (qii hes hj).Through.len
      have hap := qq9 (f := fun i => stepT (gt es i) (at0 tag i) p) (show j ≤ 1048576 by omega)
      have hst : stepT (gt es j) (at0 tag j) p = bif decide (at0 tag j ≥ 0) && (decide (at0 tag j < ((gt es j).Through.length : Int)) && (at0 (gt es j).Through (at0 tag j).toNat == p)) then at0 tag j + 1 else at0 tag j := rfl
      simp only [qb0, qt hj, cond_true, qaD hj, qbN (show j < tag.length by omega), Option.bind_some, qr (show j < 9223372036854775807 by omega)]
      rw [hst] at hap
      cases h1 : decide (at0 tag j ≥ 0)
      · rw [h1] at hap
        exact Ev.bindN rfl (Ev.ff rfl (Ev.bindN hap hX))
      · cases h2 : decide (at0 tag j < ((gt es j).Through.length : Int))
        · rw [h1, h2] at hap
          exact Ev.bindN rfl (Ev.ff rfl (Ev.bindN hap hX))
        · have h1' := of_decide_eq_true h1
          have h2' := of_decide_eq_true h2
          obtain ⟨k, hk⟩ : ∃ k : Nat, at0 tag j = (k : Int) := ⟨(at0 tag j).toNat, by omega⟩
          rw [h1, h2, hk, Int.toNat_natCast] at hap
          rw [hk] at h2'
          rw [hk]
          simp only [cond_true, qbN (show k < (gt es j).Through.length by omega), Option.bind_some]
          cases h3 : (at0 (gt es j).Through k == p)
          · rw [h3] at hap
            exact Ev.ff rfl (Ev.bindN hap hX)
          · rw [h3] at hap
            rw [qbo (show -9223372036854775808 ≤ (k : Int) + 1 by omega) (by omega)]
            exact Ev.tt rfl (Ev.bindN hap hX)
  unfold qg8
  exact Ev.bind hL .done

theorem qob {es : List qf} {tag : List Int} {p : Int} (hes : okL qcK es) (ht : tag.length = es.length) : Ev (fun n => qgM n es tag p) (stepTs es tag p) := by
  have hl := hes.len
  have hcl : qdi 0 tag = some tag := by
    show appS [] tag = some tag
    rw [qet (by simp; omega)]; rfl
  have hL : Ev (fun n => qcs es tag p n tag 0) (stepTs es tag p, (es.length : Int)) := by
    have := loopF (Lf := qcs es tag p) (S := mixS (fun i => stepT (gt es i) (at0 tag i) p) tag) (len := es.length) (fin := (stepTs es tag p, (es.length : Int))) (fun n => by
        simp only [qcs, qu (Nat.le_refl _), cond_false]
        rw [← ht, qpg, ht]; rfl)
      (fun j hj X hX => by
        have hjt : j < tag.length := by omega
        simp only [qcs, qt hj, cond_true, qaD hj, qbN hjt, Option.bind_some, qr (show j < 9223372036854775807 by omega), qq8 hjt]
        refine Ev.bind (qra (qii hes hj).Through.len) ?_
        rw [qqG hjt]
        exact hX)
    rwa [qpf] at this
  unfold qgM
  exact Ev.bind (f := fun _ => qdi 0 tag) (Ev.now hcl) (Ev.bind hL .done)

/-! ### Effects -/

/-! ### Tags that fit -/

def fitsB (es : List qf) (tag : List Int) : Bool := decide (tag.length = es.length) && allN (fun i => inI (at0 tag i) (-1) ((gt es i).Through.length : Int)) es.length
theorem lenNe {α β : Type} {xs : List α} {ys : List β} : ((xs.length : Int) != (ys.length : Int)) = !decide (xs.length = ys.length) := by rw [Bool.eq_iff_iff]; simp; omega
theorem qqE {es : List qf} {tag : List Int} (hl : es.length ≤ 1048576) : Ev (fun n => qgZ n es tag) (fitsB es tag) := by
  unfold qgZ fitsB
  rw [lenNe]
  simp only [qbh]
  refine Ev.andP fun h => ?_
  have h := of_decide_eq_true h
  have hL : Ev (fun n => qcY es tag n 0) (bif allN (fun i => inI (at0 tag i) (-1) ((gt es i).Through.length : Int)) es.length then .nxt (es.length : Int) else .ret false) := by
    refine qed (Ev.succ ?_) (fun j hj X hX => Ev.succ ?_)
    · simp only [qcY, h, qu (Nat.le_refl _), cond_false]; exact .done
    · simp only [qcY, h, qt hj, cond_true, qaD hj, qbN (show j < tag.length by omega), Option.bind_some, qd6, qr (show j < 9223372036854775807 by omega), qbh]
      exact Ev.okP1 fun _ => hX
  refine Ev.bind hL ?_
  cases allN (fun i => inI (at0 tag i) (-1) ((gt es i).Through.length : Int)) es.length <;> exact .done
theorem qqy {es : List qf} {tag : List Int} (hl : es.length ≤ 1048576) : Ev (fun n => qiz n es tag) (fitsB es tag) := by
  unfold qiz fitsB
  rw [lenNe]
  simp only [qbh]
  refine Ev.andP fun h => ?_
  have h := of_decide_eq_true h
  have hL : Ev (fun n => qev es tag n 0) (bif allN (fun i => inI (at0 tag i) (-1) ((gt es i).Through.length : Int)) es.length then .nxt (es.length : Int) else .ret false) := by
    refine qed (Ev.succ ?_) (fun j hj X hX => Ev.succ ?_)
    · simp only [qev, qu (Nat.le_refl _), cond_false]; exact .done
    · simp only [qev, qt hj, cond_true, qaD hj, qbN (show j < tag.length by omega), Option.bind_some, qas, qdB, qr (show j < 9223372036854775807 by omega), qbh]
      exact Ev.okP1 fun _ => hX
  refine Ev.bind hL ?_
  cases allN (fun i => inI (at0 tag i) (-1) ((gt es i).Through.length : Int)) es.length <;> exact .done
theorem qpk {es : List qf} {tag : List Int} (h : fitsB es tag = true) : tag.length = es.length := by
  unfold fitsB at h
  rw [Bool.and_eq_true] at h
  exact of_decide_eq_true h.1
end Go.Fw


namespace Go.Fw
open Go Go.Proofs
open Go.RowKit (Below)
set_option maxRecDepth 100000
set_option maxHeartbeats 1600000
def qg9 (n : Nat) (b : qD) (list : (List qf)) (tag : (List Int)) (place : Int) : Option ((List Int) × Int) :=
 (qgF n b list place).bind fun r1 =>
 bif (r1 != 0) then
  some ([], r1)
 else
  (qgZ n list tag).bind fun r2 =>
  bif (!r2) then
   some ([], 2)
  else
   (qg8 n list tag place).bind fun r3 =>
   some (r3, 0)

theorem qlq {n : Nat} {w : World} {b : qD} {list : (List qf)} {tag : (List Int)} {place : Int} {cs1 : List Value} (ha1 : GoT.R w (old w) b cs1) {cs2 : List Value} (ha2 : GoT.R w (old w) list cs2) {cs3 : List Value} (ha3 : GoT.R w (old w) tag cs3) {r : ((List Int) × Int)} (hF : qg9 n b list tag place = some r) : RetV Tryz.prog 20 [GoT.v qD cs1, GoT.v (List qf) cs2, GoT.v (List Int) cs3, .int .i64 place] w r := by
 obtain ⟨p1, k1, p2, k2, p3, k3, p4, k4, p5, k5, rfl, s1, s2, s3, s4, s5⟩ := qax ha1
 obtain ⟨p6, k6, rfl, s6⟩ := ha2
 obtain ⟨p7, k7, rfl, s7⟩ := ha3
 refine qe Tryz.func20 rfl (m := 26) rfl rfl (fun h => ?_)
 rw [qg9] at hF
 refine zSR (qP h rfl rfl ?_)
 intro w1 bb1 h
 refine zp2 rfl (zNSR (zl 0 0 h rfl (zp2 rfl ?_)))
 obtain ⟨r1, hr1, hF⟩ := qd hF
 refine qU r1 h call41 (qly (h.old ha1) ⟨_, _, rfl, (h.oldS s6)⟩ hr1) rfl rfl rfl rfl ?_
 intro w2 h
 refine zp1 rfl (zNSSR (zp2 rfl (qb ?_)))
 refine qq rfl hF ?_ ?_ <;> intro hF
 ·refine zSR (zp3 rfl (qb ?_))
  obtain rfl := qh hF
  exact qay qc (ρ := ((List Int) × Int)) [GoT.v (List Int) [.slice none 0 0], GoT.v Int [.int .i64 r1]] h ⟨rfl, rfl, trivial⟩ (PV.done h (qfW h qkN (qaG (qaw (S := fun _ => False) rfl)) (by rfl)))
 refine zKSSR (zp2 rfl ?_)
 obtain ⟨r2, hr2, hF⟩ := qd hF
 refine qp r2 h call42 (qlf ⟨_, _, rfl, (h.oldS s6)⟩ ⟨_, _, rfl, (h.oldS s7)⟩ hr2) rfl rfl rfl rfl ?_
 intro w3 h
 refine zp1 rfl (qb ?_)
 refine qq rfl hF ?_ ?_ <;> intro hF
 ·refine zSR (zp2 rfl (qb ?_))
  obtain rfl := qh hF
  exact qay qc (ρ := ((List Int) × Int)) [GoT.v (List Int) [.slice none 0 0], GoT.v Int [.int .i64 2]] h ⟨rfl, rfl, trivial⟩ (PV.done h (qfW h qkN (qaG (qaw (S := fun _ => False) rfl)) (by rfl)))
 refine zKSR (zp3 rfl ?_)
 obtain ⟨r3, hr3, hF⟩ := qd hF
 refine qam r3 h call55 (qk8 ⟨_, _, rfl, (h.oldS s6)⟩ ⟨_, _, rfl, (h.oldS s7)⟩ hr3) rfl rfl rfl rfl ?_
 intro w4 S1 p8 k8 h
 refine zp2 rfl (qb ?_)
 obtain rfl := qh hF
 exact qay qc (ρ := ((List Int) × Int)) [GoT.v (List Int) [.slice p8 r3.length k8], GoT.v Int [.int .i64 0]] h ⟨rfl, rfl, trivial⟩ (PV.done h (qfW h (qab 0 h rfl) (qaG (qaw (S := fun _ => False) rfl)) (by rfl)))

def qfS (n : Nat) (b : qD) (list : (List qf)) (tag : (List Int)) (place : Int) : Option ((List Int) × Int) :=
 (qgV n b list place).bind fun o => match o with
  | (_, r3) =>
   bif (r3 != 0) then
    some ([], r3)
   else
    (qiz n list tag).bind fun r4 =>
    bif (!r4) then
     some ([], 2)
    else
     (qgM n list tag place).bind fun r5 =>
     some (r5, 0)

theorem qi0 {n : Nat} {w : World} {b : qD} {list : (List qf)} {tag : (List Int)} {place : Int} {cs1 : List Value} (ha1 : GoT.R w (old w) b cs1) {cs2 : List Value} (ha2 : GoT.R w (old w) list cs2) {cs3 : List Value} (ha3 : GoT.R w (old w) tag cs3) {r : ((List Int) × Int)} (hF : qfS n b list tag place = some r) : RetV Tryz.prog 21 [GoT.v qD cs1, GoT.v (List qf) cs2, GoT.v (List Int) cs3, .int .i64 place] w r := by
 obtain ⟨p1, k1, p2, k2, p3, k3, p4, k4, p5, k5, rfl, s1, s2, s3, s4, s5⟩ := qax ha1
 obtain ⟨p6, k6, rfl, s6⟩ := ha2
 obtain ⟨p7, k7, rfl, s7⟩ := ha3
 refine qe Tryz.func21 rfl (m := 32) rfl rfl (fun h => ?_)
 rw [qfS] at hF
 refine zSR (qP h rfl rfl ?_)
 intro w1 bb1 h
 refine zp2 rfl (zNSR (zl 0 0 h rfl (zp2 rfl ?_)))
 have hg1 : Rg (old w) w (old w) w := .start (fun _ h => h)
 obtain ⟨r1, hr1, hF⟩ := qd hF
 obtain ⟨r2, r3⟩ := r1
 refine qnm (r2, r3) hg1 h call48 (qk4 (hg1.regOld h) (hg1.inR h ha1) ⟨_, _, rfl, (hg1.inS h s6)⟩ hr1) rfl rfl rfl rfl ?_
 intro w2 us1 B1 hg2 hu1 hz1 hv1
 have hL1 := h.ext hu1.below
 have s8 := Up.S hg1 h hu1 s6
 have s9 := Up.S hg1 h hu1 s7
 have hb1 := h.below.trans (hu1.below.mono h.below.size)
 replace h := hz1
 obtain ⟨cs4, us2, rfl, hr2, hv2⟩ := qo7 hv1
 obtain ⟨p8, rfl, s10⟩ := qhy hr2
 obtain ⟨cs5, rfl, hr3⟩ := qoi hv2
 obtain rfl := hr3
 refine zp5 rfl (zNSB (zSR (zp2 rfl ?_)))
 refine zp1 rfl (qb ?_)
 refine qq rfl hF ?_ ?_ <;> intro hF
 ·refine zSR (zp3 rfl (qb ?_))
  replace h := h.unbase hg2.below (show NoD [] from trivial)
  obtain rfl := qh hF
  exact qay qc (ρ := ((List Int) × Int)) [GoT.v (List Int) [.slice none 0 0], GoT.v Int [.int .i64 r3]] h ⟨rfl, rfl, trivial⟩ (PV.done h (qfW h qkN (qaG (qaw (S := fun _ => False) rfl)) (by rfl)))
 refine zSR (zp2 rfl ?_)
 obtain ⟨r4, hr4, hF⟩ := qd hF
 refine qp r4 h call49 (qnp ⟨_, _, rfl, (h.oldS (s8.mono hg2.old))⟩ ⟨_, _, rfl, (h.oldS (s9.mono hg2.old))⟩ hr4) rfl rfl rfl rfl ?_
 intro w3 h
 refine zp2 rfl (qb ?_)
 refine qq rfl hF ?_ ?_ <;> intro hF
 ·refine zSR (zp2 rfl (qb ?_))
  replace h := h.unbase hg2.below (show NoD [] from trivial)
  obtain rfl := qh hF
  exact qay qc (ρ := ((List Int) × Int)) [GoT.v (List Int) [.slice none 0 0], GoT.v Int [.int .i64 2]] h ⟨rfl, rfl, trivial⟩ (PV.done h (qfW h qkN (qaG (qaw (S := fun _ => False) rfl)) (by rfl)))
 refine zKE (zSR (zp3 rfl ?_))
 obtain ⟨r5, hr5, hF⟩ := qd hF
 refine qam r5 h call56 (qk2 ⟨_, _, rfl, (h.oldS (s8.mono hg2.old))⟩ ⟨_, _, rfl, (h.oldS (s9.mono hg2.old))⟩ hr5) rfl rfl rfl rfl ?_
 intro w4 S1 p9 k8 h
 refine zp2 rfl (qb ?_)
 replace h := h.unbase hg2.below ⟨fun _ h => h, trivial⟩
 obtain rfl := qh hF
 exact qay qc (ρ := ((List Int) × Int)) [GoT.v (List Int) [.slice p9 r5.length k8], GoT.v Int [.int .i64 0]] h ⟨rfl, rfl, trivial⟩ (PV.done h (qfW h (qab 0 h rfl) (qaG (qaw (S := fun _ => False) rfl)) (by rfl)))

def qeO (n : Nat) (a_0 : qD) (a_1 : (List qf)) (a_2 : (List Int)) (a_3 : Int) : Option Bool :=
 bif decide ((a_2.length : Int) > 1048576) then
  some true
 else
  (qgT n a_0 1048576).bind fun r1 =>
  bif decide (r1 < 0) then
   some true
  else
   (qfw n a_1 r1).bind fun r2 =>
   bif decide (r2 < 0) then
    some true
   else
    (qex n a_0).bind fun r3 =>
    (qcd n a_1).bind fun r4 =>
    (qaA n a_2).bind fun r5 =>
    (qg9 n r3 r4 r5 a_3).bind fun o => match o with
     | (r7, r8) =>
      (qex n a_0).bind fun r9 =>
      (qcd n a_1).bind fun r10 =>
      (qaA n a_2).bind fun r11 =>
      (qfS n r9 r10 r11 a_3).bind fun o => match o with
       | (r13, r14) =>
        (
         (qaz n r13 r7).bind fun r35 =>
         bif (!r35) then
          some true
         else
          some (r14 != r8)).bind fun b1 =>
        bif b1 then
         some false
        else
         (qex n a_0).bind fun r15 =>
         (qgR n r9 r15).bind fun r16 =>
         bif (!r16) then
          some false
         else
          (qcd n a_1).bind fun r17 =>
          (qew n r10 r17).bind fun r18 =>
          bif (!r18) then
           some false
          else
           (qaA n a_2).bind fun r19 =>
           (qaz n r11 r19).bind fun r20 =>
           bif (!r20) then
            some false
           else
            (qfy n (⟨(⟨r9.Library.Cells⟩ : qx), (⟨r9.Design.Instances, r9.Design.Nets, r9.Design.Ports⟩ : ql), r9.Wires⟩ : qD) 1).bind fun o => match o with
             | (r21, _, _, _, _, _) =>
              (qeM n r10 r21).bind fun o => match o with
               | (r22, _) =>
                (qai n r11 r22).bind fun o => match o with
                 | (r23, _) =>
                  (
                   bif decide (r23 < 0) then
                    some true
                   else
                    (qaz n r13 r7).bind fun r34 =>
                    bif (!r34) then
                     some true
                    else
                     some (r14 != r8)).bind fun b2 =>
                  bif b2 then
                   some false
                  else
                   (qai n r13 1).bind fun o => match o with
                    | (r24, x8) =>
                     (qeo n x8 1).bind fun r25 =>
                     bif decide (r25 < 0) then
                      some false
                     else
                      bif (r25 != r24) then
                       some false
                      else
                       (qex n (⟨(⟨a_0.Library.Cells⟩ : qx), (⟨a_0.Design.Instances, a_0.Design.Nets, a_0.Design.Ports⟩ : ql), a_0.Wires⟩ : qD)).bind fun r26 =>
                       (qcd n a_1).bind fun r27 =>
                       (qaA n a_2).bind fun r28 =>
                       (qfS n r26 r27 r28 a_3).bind fun o => match o with
                        | (r30, r31) =>
                         (
                          (qaz n r30 r7).bind fun r33 =>
                          bif (!r33) then
                           some true
                          else
                           some (r31 != r8)).bind fun b3 =>
                         bif b3 then
                          some false
                         else
                          (qeo n x8 1).bind fun r32 =>
                          bif decide (r32 < 0) then
                           some false
                          else
                           bif (r32 != r24) then
                            some false
                           else
                            some true

theorem qiX {n : Nat} {w : World} {a_0 : qD} {a_1 : (List qf)} {a_2 : (List Int)} {a_3 : Int} {cs1 : List Value} (ha1 : GoT.R w (old w) a_0 cs1) {cs2 : List Value} (ha2 : GoT.R w (old w) a_1 cs2) {cs3 : List Value} (ha3 : GoT.R w (old w) a_2 cs3) {r : Bool} (hF : qeO n a_0 a_1 a_2 a_3 = some r) : RetV Tryz.prog 4 [GoT.v qD cs1, GoT.v (List qf) cs2, GoT.v (List Int) cs3, .int .i64 a_3] w r := by
 obtain ⟨p1, k1, p2, k2, p3, k3, p4, k4, p5, k5, rfl, s1, s2, s3, s4, s5⟩ := qax ha1
 obtain ⟨p6, k6, rfl, s6⟩ := ha2
 obtain ⟨p7, k7, rfl, s7⟩ := ha3
 refine qe Tryz.func4 rfl (m := 145) rfl rfl (fun h => ?_)
 rw [qeO] at hF
 refine zSR (qP h rfl rfl ?_)
 intro w1 bb1 h
 refine zp1 rfl (zNSSR (zp3 rfl (qb ?_)))
 refine qq rfl hF ?_ ?_ <;> intro hF
 ·exact zSR (zp1 rfl (qb (qv qc h hF ⟨rfl, trivial⟩)))
 refine zKSR (zp1 rfl (zNSR (zl 0 0 h rfl (zp1 rfl ?_))))
 obtain ⟨r1, hr1, hF⟩ := qd hF
 refine qU r1 h call9 (qlk (h.old ha1) hr1) rfl rfl rfl rfl ?_
 intro w2 h
 refine zp1 rfl (zNSSR (zp2 rfl (qb ?_)))
 refine qq rfl hF ?_ ?_ <;> intro hF
 ·exact zSR (zp1 rfl (qb (qv qc h hF ⟨rfl, trivial⟩)))
 refine zKSR (zp2 rfl ?_)
 obtain ⟨r2, hr2, hF⟩ := qd hF
 refine qU r2 h call10 (qjv ⟨_, _, rfl, (h.oldS s6)⟩ hr2) rfl rfl rfl rfl ?_
 intro w3 h
 refine zp1 rfl (zNSSR (zp2 rfl (qb ?_)))
 refine qq rfl hF ?_ ?_ <;> intro hF
 ·exact zSR (zp1 rfl (qb (qv qc h hF ⟨rfl, trivial⟩)))
 refine zKSR (zl 0 0 h rfl ?_)
 obtain ⟨r3, hr3, hF⟩ := qd hF
 refine qft r3 h call12 (qgg (h.old ha1) hr3) rfl rfl rfl rfl ?_
 intro w4 S1 cs4 h
 obtain ⟨p8, k8, p9, k9, p10, k10, p11, k11, p12, k12, rfl, -, -, -, -, -⟩ := qax (h.own 0 rfl)
 refine zp1 rfl ?_
 obtain ⟨r4, hr4, hF⟩ := qd hF
 refine qam r4 h call13 (qer ⟨_, _, rfl, (h.oldS s6)⟩ hr4) rfl rfl rfl rfl ?_
 intro w5 S2 p13 k13 h
 refine zp1 rfl ?_
 obtain ⟨r5, hr5, hF⟩ := qd hF
 refine qam r5 h call14 (qau ⟨_, _, rfl, (h.oldS s7)⟩ hr5) rfl rfl rfl rfl ?_
 intro w6 S3 p14 k14 h
 refine zp1 rfl ?_
 obtain ⟨r6, hr6, hF⟩ := qd hF
 obtain ⟨r7, r8⟩ := r6
 refine qir (r7, r8) h call20 (qlq (h.own 2 rfl) (h.own 1 rfl) (h.own 0 rfl) hr6) rfl rfl rfl rfl ?_
 intro w7 S4 us1 hv1 hr7
 obtain ⟨S5, S6, p15, k15, us2, rfl, hv2, hr8⟩ := hv1.consL hr7
 obtain ⟨rfl, h⟩ := hv2.lastI hr8
 refine zp5 rfl (zNSR (zl 4 0 h rfl ?_))
 obtain ⟨r9, hr10, hF⟩ := qd hF
 refine qft r9 h call12 (qgg (h.old ha1) hr10) rfl rfl rfl rfl ?_
 intro w8 S8 cs5 h
 obtain ⟨p16, k16, p17, k17, p18, k18, p19, k19, p20, k20, rfl, -, -, -, -, -⟩ := qax (h.own 0 rfl)
 refine qah qc h rfl rfl rfl ?_
 intro w9 bb2 h
 refine zs 0 h rfl ?_
 intro w10 h
 refine zNSR (zp1 rfl ?_)
 obtain ⟨r10, hr11, hF⟩ := qd hF
 refine qam r10 h call13 (qer ⟨_, _, rfl, (h.oldS s6)⟩ hr11) rfl rfl rfl rfl ?_
 intro w11 S9 p21 k21 h
 refine zp1 rfl (zNSR (zp1 rfl ?_))
 obtain ⟨r11, hr12, hF⟩ := qd hF
 refine qam r11 h call14 (qau ⟨_, _, rfl, (h.oldS s7)⟩ hr12) rfl rfl rfl rfl ?_
 intro w12 S10 p22 k22 h
 refine zp1 rfl (zNSR (zl 2 0 h rfl (zp3 rfl ?_)))
 obtain ⟨r12, hr13, hF⟩ := qd hF
 obtain ⟨r13, r14⟩ := r12
 refine qir (r13, r14) h call21 (qi0 (h.own 3 rfl) (h.own 1 rfl) (h.own 0 rfl) hr13) rfl rfl rfl rfl ?_
 intro w13 S11 us3 hv4 hr14
 obtain ⟨S12, S13, p23, k23, us4, rfl, hv5, hr15⟩ := hv4.consL hr14
 obtain ⟨rfl, h⟩ := hv5.lastI hr15
 refine zp5 rfl (zNSS ?_)
 obtain ⟨KF3, hKF3, o7, hF, hK3⟩ := bindE hF
 refine qeG (fun e w' => ∃ (b1 : Bool), KF3 b1 = some r ∧ e = [(1, .slice p6 a_1.length k6), (2, .slice p7 a_2.length k7), (3, .int .i64 a_3), (4, .pointer (some ⟨bb1, 0, none⟩)), (10, .slice p15 r7.length k15), (11, .int .i64 r8), (12, .pointer (some ⟨bb2, 0, none⟩)), (13, .slice p21 r10.length k21), (14, .slice p22 r11.length k22), (15, .slice p23 r13.length k23), (16, .int .i64 r14), (68, .bool b1)] ∧ SH w w' [Ch.own S12 (r13 : List Int) [.slice p23 r13.length k23], Ch.own S10 (r11 : List Int) [.slice p22 r11.length k22], Ch.own S9 (r10 : List qf) [.slice p21 r10.length k21], Ch.box bb2 [.slice p16 r9.Library.Cells.length k16, .slice p17 r9.Design.Instances.length k17, .slice p18 r9.Design.Nets.length k18, .slice p19 r9.Design.Ports.length k19, .slice p20 r9.Wires.length k20] 50, Ch.own S8 (r9 : qD) [.slice p16 r9.Library.Cells.length k16, .slice p17 r9.Design.Instances.length k17, .slice p18 r9.Design.Nets.length k18, .slice p19 r9.Design.Ports.length k19, .slice p20 r9.Wires.length k20], Ch.own S5 (r7 : List Int) [.slice p15 r7.length k15], Ch.box bb1 [.slice p1 a_0.Library.Cells.length k1, .slice p2 a_0.Design.Instances.length k2, .slice p3 a_0.Design.Nets.length k3, .slice p4 a_0.Design.Ports.length k4, .slice p5 a_0.Wires.length k5] 32]) ?_ ?_
 ·refine qz (zp2 rfl ?_)
  obtain ⟨r35, hr38, hF⟩ := qd hF
  refine qp r35 h call19 (qat (h.own 0 rfl) (h.own 5 rfl) hr38) rfl rfl rfl rfl ?_
  intro w35 h
  refine zp2 rfl ?_
  by_cases hc17 : (!r35) = true
  ·replace hF := bifT hc17 hF
   refine qF hc17 (t := 64) rfl (zn3 rfl (zp1 rfl (qb ?_)))
   replace h := h.pick [0, 1, 2, 3, 4, 5, 9] rfl
   obtain rfl := qh hF
   exact qy [(1, _), (2, _), (3, _), (4, _), (10, _), (11, _), (12, _), (13, _), (14, _), (15, _), (16, _), (68, _)] ⟨rfl, rfl, rfl, rfl, rfl, rfl, rfl, rfl, rfl, rfl, rfl, rfl, trivial⟩ ⟨_, hK3, rfl, h⟩
  replace hc17 := zb hc17
  replace hF := bifF hc17 hF
  refine qE hc17 (t := 64) rfl (qa rfl (zp1 rfl (qa rfl (zp1 rfl (qa rfl (zp2 rfl (qb ?_)))))))
  replace h := h.pick [0, 1, 2, 3, 4, 5, 9] rfl
  obtain rfl := qh hF
  exact qy [(1, _), (2, _), (3, _), (4, _), (10, _), (11, _), (12, _), (13, _), (14, _), (15, _), (16, _), (68, _)] ⟨rfl, rfl, rfl, rfl, rfl, rfl, rfl, rfl, rfl, rfl, rfl, rfl, trivial⟩ ⟨_, hK3, rfl, h⟩
 rintro e3 w36 ⟨b1, hF, rfl, h⟩
 subst hKF3
 refine qq rfl hF ?_ ?_ <;> intro hF
 ·exact zSR (zp1 rfl (qb (qv qc h hF ⟨rfl, trivial⟩)))
 refine zKSS ?_
 refine qhB [] (fun w' => SH w w' [Ch.box bb2 [.slice p16 r9.Library.Cells.length k16, .slice p17 r9.Design.Instances.length k17, .slice p18 r9.Design.Nets.length k18, .slice p19 r9.Design.Ports.length k19, .slice p20 r9.Wires.length k20] 50, Ch.box bb1 [.slice p1 a_0.Library.Cells.length k1, .slice p2 a_0.Design.Instances.length k2, .slice p3 a_0.Design.Nets.length k3, .slice p4 a_0.Design.Ports.length k4, .slice p5 a_0.Wires.length k5] 32]) rfl 5 rfl #[ff, ff, ff, ff, ff] (by kernel_rfl) (fun w14 hb => ?_)
 replace h := h.ext hb
 clear hb
 refine qm 0 rfl #[tt, ff, ff, ff, ff] (by kernel_rfl) (by kernel_rfl) (fun w' hw => qcX qc (hw.box 0 rfl) (j := 0) rfl rfl rfl) (h.pick [3, 6] rfl) rfl ?_
 refine qm 1 rfl #[tt, tt, ff, ff, ff] (by kernel_rfl) (by kernel_rfl) (fun w' hw => qcX qc (hw.box 1 rfl) (j := 0) rfl rfl rfl) (h.pick [3, 6] rfl) rfl ?_
 refine qbe 2 rfl #[tt, tt, tt, ff, ff] (by kernel_rfl) (by kernel_rfl) ?_
 obtain ⟨r15, hr17, hF⟩ := qd hF
 refine qft r15 h call12 (qgg (h.old ha1) hr17) rfl rfl rfl rfl ?_
 intro w15 S15 cs6 h
 obtain ⟨p24, k24, p25, k25, p26, k26, p27, k27, p28, k28, rfl, -, -, -, -, -⟩ := qax (h.own 0 rfl)
 refine qa6 (fun _ => (h.pick [4, 7] rfl)) ?_
 refine qbe 3 rfl #[tt, tt, tt, tt, ff] (by kernel_rfl) (by kernel_rfl) ?_
 obtain ⟨r16, hr18, hF⟩ := qd hF
 refine qp r16 h call17 (qlb (h.own 5 rfl) (h.own 0 rfl) hr18) rfl rfl rfl rfl ?_
 intro w16 h
 refine qa6 (fun _ => (h.pick [4, 7] rfl)) ?_
 refine qm 4 rfl #[tt, tt, tt, tt, tt] (by kernel_rfl) (by kernel_rfl) (fun w' hw => v_p qc rfl w') (h.pick [4, 7] rfl) rfl ?_
 refine qfK (by kernel_rfl) ?_
 refine qq rfl hF ?_ ?_ <;> intro hF
 ·exact zSR (zp1 rfl (qb (qv qc h hF ⟨rfl, trivial⟩)))
 refine zKSSR (zp2 rfl ?_)
 obtain ⟨r17, hr19, hF⟩ := qd hF
 refine qam r17 h call13 (qer ⟨_, _, rfl, (h.oldS s6)⟩ hr19) rfl rfl rfl rfl ?_
 intro w17 S16 p29 k29 h
 obtain ⟨r18, hr20, hF⟩ := qd hF
 refine qp r18 h call18 (qjc (h.own 4 rfl) (h.own 0 rfl) hr20) rfl rfl rfl rfl ?_
 intro w18 h
 refine zp1 rfl (qb ?_)
 refine qq rfl hF ?_ ?_ <;> intro hF
 ·exact zSR (zp1 rfl (qb (qv qc h hF ⟨rfl, trivial⟩)))
 refine zKSSR (zp2 rfl ?_)
 obtain ⟨r19, hr21, hF⟩ := qd hF
 refine qam r19 h call14 (qau ⟨_, _, rfl, (h.oldS s7)⟩ hr21) rfl rfl rfl rfl ?_
 intro w19 S17 p30 k30 h
 obtain ⟨r20, hr22, hF⟩ := qd hF
 refine qp r20 h call19 (qat (h.own 4 rfl) (h.own 0 rfl) hr22) rfl rfl rfl rfl ?_
 intro w20 h
 refine zp1 rfl (qb ?_)
 refine qq rfl hF ?_ ?_ <;> intro hF
 ·exact zSR (zp1 rfl (qb (qv qc h hF ⟨rfl, trivial⟩)))
 refine zKSR (zp1 rfl (zNSR (zl 6 0 h rfl (zp1 rfl ?_))))
 replace h := h.pick [7, 0, 1, 2, 3, 4, 5, 6, 8, 9] rfl
 obtain ⟨S18, S19, S20, h⟩ := qmC h
 replace h := h.pick [2, 0, 1, 3, 4, 5, 6, 7, 8, 9, 10, 11] rfl
 obtain ⟨S21, h⟩ := ql6 h
 replace h := h.pick [2, 0, 1, 3, 4, 5, 6, 7, 8, 9, 10, 11] rfl
 obtain ⟨S22, S23, S24, h⟩ := qmz h
 replace h := h.pick [4, 0, 1, 2, 3, 8, 9, 10, 12, 13] rfl
 obtain ⟨o1, hr23, hF⟩ := qd hF
 obtain ⟨r21, x1, x2, x3, x4, x5⟩ := o1
 refine qb3 r21 call22 (qj4 h hr23) rfl rfl rfl rfl ?_
 rintro w21 ⟨S25, S26, S27, S28, S29, h⟩
 replace h : SH _ _ [Ch.own S29 (x5 : List qQ) [.slice p20 r9.Wires.length k20], Ch.own S28 (x4 : List qV) [.slice p19 r9.Design.Ports.length k19], Ch.own S27 (x3 : List ByteArray) [.slice p18 r9.Design.Nets.length k18], Ch.own S26 (x2 : List qk) [.slice p17 r9.Design.Instances.length k17], Ch.own S25 (x1 : List qB) [.slice p16 r9.Library.Cells.length k16], Ch.own S12 (r13 : List Int) [.slice p23 r13.length k23], Ch.own S10 (r11 : List Int) [.slice p22 r11.length k22], Ch.own S9 (r10 : List qf) [.slice p21 r10.length k21], Ch.own S5 (r7 : List Int) [.slice p15 r7.length k15], Ch.box bb1 [.slice p1 a_0.Library.Cells.length k1, .slice p2 a_0.Design.Instances.length k2, .slice p3 a_0.Design.Nets.length k3, .slice p4 a_0.Design.Ports.length k4, .slice p5 a_0.Wires.length k5] 32] := h
 refine zp1 rfl (zNSR (zp2 rfl ?_))
 replace h := h.pick [7, 5, 6, 8, 9] rfl
 obtain ⟨o2, hr24, hF⟩ := qd hF
 obtain ⟨r22, x6⟩ := o2
 refine qb3 r22 call23 (qiH h hr24) rfl rfl rfl rfl ?_
 rintro w22 ⟨S30, h⟩
 replace h : SH _ _ [Ch.own S30 (x6 : List qf) [.slice p21 r10.length k21], Ch.own S12 (r13 : List Int) [.slice p23 r13.length k23], Ch.own S10 (r11 : List Int) [.slice p22 r11.length k22], Ch.own S5 (r7 : List Int) [.slice p15 r7.length k15], Ch.box bb1 [.slice p1 a_0.Library.Cells.length k1, .slice p2 a_0.Design.Instances.length k2, .slice p3 a_0.Design.Nets.length k3, .slice p4 a_0.Design.Ports.length k4, .slice p5 a_0.Wires.length k5] 32] := h
 refine zp1 rfl (zNSR (zp2 rfl ?_))
 replace h := h.pick [2, 1, 3, 4] rfl
 obtain ⟨o3, hr25, hF⟩ := qd hF
 obtain ⟨r23, x7⟩ := o3
 refine qb3 r23 call24 (qak h hr25) rfl rfl rfl rfl ?_
 rintro w23 ⟨S31, h⟩
 replace h : SH _ _ [Ch.own S31 (x7 : List Int) [.slice p22 r11.length k22], Ch.own S12 (r13 : List Int) [.slice p23 r13.length k23], Ch.own S5 (r7 : List Int) [.slice p15 r7.length k15], Ch.box bb1 [.slice p1 a_0.Library.Cells.length k1, .slice p2 a_0.Design.Instances.length k2, .slice p3 a_0.Design.Nets.length k3, .slice p4 a_0.Design.Ports.length k4, .slice p5 a_0.Wires.length k5] 32] := h
 refine zp1 rfl (zNSS ?_)
 obtain ⟨KF2, hKF2, o6, hF, hK2⟩ := bindE hF
 refine qeG (fun e w' => ∃ (b2 : Bool), KF2 b2 = some r ∧ e = [(1, .slice p6 a_1.length k6), (2, .slice p7 a_2.length k7), (3, .int .i64 a_3), (4, .pointer (some ⟨bb1, 0, none⟩)), (10, .slice p15 r7.length k15), (11, .int .i64 r8), (15, .slice p23 r13.length k23), (105, .bool b2)] ∧ SH w w' [Ch.own S12 (r13 : List Int) [.slice p23 r13.length k23], Ch.own S5 (r7 : List Int) [.slice p15 r7.length k15], Ch.box bb1 [.slice p1 a_0.Library.Cells.length k1, .slice p2 a_0.Design.Instances.length k2, .slice p3 a_0.Design.Nets.length k3, .slice p4 a_0.Design.Ports.length k4, .slice p5 a_0.Wires.length k5] 32]) ?_ ?_
 ·refine qz (zp3 rfl ?_)
  by_cases hc15 : (decide (r23 < 0)) = true
  ·replace hF := bifT hc15 hF
   refine qF hc15 (t := 95) rfl (zn4 rfl (zp2 rfl (zn3 rfl (zp1 rfl (qb ?_)))))
   replace h := h.pick [1, 2, 3] rfl
   obtain rfl := qh hF
   exact qy [(1, _), (2, _), (3, _), (4, _), (10, _), (11, _), (15, _), (105, _)] ⟨rfl, rfl, rfl, rfl, rfl, rfl, rfl, rfl, trivial⟩ ⟨_, hK2, rfl, h⟩
  replace hc15 := zb hc15
  replace hF := bifF hc15 hF
  refine qE hc15 (t := 95) rfl (qa rfl (zp1 rfl (qa rfl (zp1 rfl (qa rfl ?_)))))
  obtain ⟨r34, hr37, hF⟩ := qd hF
  refine qp r34 h call19 (qat (h.own 1 rfl) (h.own 2 rfl) hr37) rfl rfl rfl rfl ?_
  intro w33 h
  refine qa rfl (zp3 rfl ?_)
  by_cases hc16 : (!r34) = true
  ·replace hF := bifT hc16 hF
   refine qF hc16 (t := 101) rfl (zn3 rfl (zp1 rfl (qb ?_)))
   replace h := h.pick [1, 2, 3] rfl
   obtain rfl := qh hF
   exact qy [(1, _), (2, _), (3, _), (4, _), (10, _), (11, _), (15, _), (105, _)] ⟨rfl, rfl, rfl, rfl, rfl, rfl, rfl, rfl, trivial⟩ ⟨_, hK2, rfl, h⟩
  replace hc16 := zb hc16
  replace hF := bifF hc16 hF
  refine qE hc16 (t := 101) rfl (qa rfl (zp1 rfl (qa rfl (zp1 rfl (qa rfl (zp2 rfl (qb ?_)))))))
  replace h := h.pick [1, 2, 3] rfl
  obtain rfl := qh hF
  exact qy [(1, _), (2, _), (3, _), (4, _), (10, _), (11, _), (15, _), (105, _)] ⟨rfl, rfl, rfl, rfl, rfl, rfl, rfl, rfl, trivial⟩ ⟨_, hK2, rfl, h⟩
 rintro e2 w34 ⟨b2, hF, rfl, h⟩
 subst hKF2
 refine qq rfl hF ?_ ?_ <;> intro hF
 ·exact zSR (zp1 rfl (qb (qv qc h hF ⟨rfl, trivial⟩)))
 refine zKSR (zp1 rfl (zNSR (zp2 rfl ?_)))
 obtain ⟨o4, hr26, hF⟩ := qd hF
 obtain ⟨r24, x8⟩ := o4
 refine qb3 r24 call24 (qak h hr26) rfl rfl rfl rfl ?_
 rintro w24 ⟨S32, h⟩
 replace h : SH _ _ [Ch.own S32 (x8 : List Int) [.slice p23 r13.length k23], Ch.own S5 (r7 : List Int) [.slice p15 r7.length k15], Ch.box bb1 [.slice p1 a_0.Library.Cells.length k1, .slice p2 a_0.Design.Instances.length k2, .slice p3 a_0.Design.Nets.length k3, .slice p4 a_0.Design.Ports.length k4, .slice p5 a_0.Wires.length k5] 32] := h
 refine zp1 rfl (zNSR (zp1 rfl (zNSR (zp2 rfl ?_))))
 obtain ⟨r25, hr27, hF⟩ := qd hF
 refine qU r25 h call25 (qh5 (h.own 0 rfl) hr27) rfl rfl rfl rfl ?_
 intro w25 h
 refine zp1 rfl (zNSSR (zp2 rfl (qb ?_)))
 refine qq rfl hF ?_ ?_ <;> intro hF
 ·exact zSR (zp1 rfl (qb (qv qc h hF ⟨rfl, trivial⟩)))
 refine zKSSR (zp3 rfl (qb ?_))
 refine qq rfl hF ?_ ?_ <;> intro hF
 ·exact zSR (zp1 rfl (qb (qv qc h hF ⟨rfl, trivial⟩)))
 refine zKSR (zl 2 0 h rfl ?_)
 obtain ⟨r26, hr28, hF⟩ := qd hF
 refine qft r26 h call12 (qgg (qoQ (⟨(⟨a_0.Library.Cells⟩ : qx), (⟨a_0.Design.Instances, a_0.Design.Nets, a_0.Design.Ports⟩ : ql), a_0.Wires⟩ : qD) (h.oldS s1) (h.oldS s2) (h.oldS s3) (h.oldS s4) (h.oldS s5)) hr28) rfl rfl rfl rfl ?_
 intro w26 S33 cs7 h
 obtain ⟨p31, k31, p32, k32, p33, k33, p34, k34, p35, k35, rfl, -, -, -, -, -⟩ := qax (h.own 0 rfl)
 refine zp1 rfl ?_
 obtain ⟨r27, hr29, hF⟩ := qd hF
 refine qam r27 h call13 (qer ⟨_, _, rfl, (h.oldS s6)⟩ hr29) rfl rfl rfl rfl ?_
 intro w27 S34 p36 k36 h
 refine zp1 rfl ?_
 obtain ⟨r28, hr30, hF⟩ := qd hF
 refine qam r28 h call14 (qau ⟨_, _, rfl, (h.oldS s7)⟩ hr30) rfl rfl rfl rfl ?_
 intro w28 S35 p37 k37 h
 refine zp1 rfl ?_
 obtain ⟨r29, hr31, hF⟩ := qd hF
 obtain ⟨r30, r31⟩ := r29
 refine qir (r30, r31) h call21 (qi0 (h.own 2 rfl) (h.own 1 rfl) (h.own 0 rfl) hr31) rfl rfl rfl rfl ?_
 intro w29 S36 us5 hv7 hr32
 obtain ⟨S37, S38, p38, k38, us6, rfl, hv8, hr33⟩ := hv7.consL hr32
 obtain ⟨rfl, h⟩ := hv8.lastI hr33
 refine zp5 rfl (zNSS ?_)
 obtain ⟨KF1, hKF1, o5, hF, hK1⟩ := bindE hF
 refine qeG (fun e w' => ∃ (b3 : Bool), KF1 b3 = some r ∧ e = [(15, .slice p23 r13.length k23), (18, .int .i64 r24), (136, .bool b3)] ∧ SH w w' [Ch.own S32 (x8 : List Int) [.slice p23 r13.length k23]]) ?_ ?_
 ·refine qz (zp2 rfl ?_)
  obtain ⟨r33, hr36, hF⟩ := qd hF
  refine qp r33 h call19 (qat (h.own 0 rfl) (h.own 5 rfl) hr36) rfl rfl rfl rfl ?_
  intro w31 h
  refine zp2 rfl ?_
  by_cases hc14 : (!r33) = true
  ·replace hF := bifT hc14 hF
   refine qF hc14 (t := 132) rfl (zn3 rfl (zp1 rfl (qb ?_)))
   replace h := h.pick [4] rfl
   obtain rfl := qh hF
   exact qy [(15, _), (18, _), (136, _)] ⟨rfl, rfl, rfl, trivial⟩ ⟨_, hK1, rfl, h⟩
  replace hc14 := zb hc14
  replace hF := bifF hc14 hF
  refine qE hc14 (t := 132) rfl (qa rfl (zp1 rfl (qa rfl (zp1 rfl (qa rfl (zp2 rfl (qb ?_)))))))
  replace h := h.pick [4] rfl
  obtain rfl := qh hF
  exact qy [(15, _), (18, _), (136, _)] ⟨rfl, rfl, rfl, trivial⟩ ⟨_, hK1, rfl, h⟩
 rintro e1 w32 ⟨b3, hF, rfl, h⟩
 subst hKF1
 refine qq rfl hF ?_ ?_ <;> intro hF
 ·exact zSR (zp1 rfl (qb (qv qc h hF ⟨rfl, trivial⟩)))
 refine zKSR (zp1 rfl (zNSR (zp2 rfl ?_)))
 obtain ⟨r32, hr35, hF⟩ := qd hF
 refine qU r32 h call25 (qh5 (h.own 0 rfl) hr35) rfl rfl rfl rfl ?_
 intro w30 h
 refine zp1 rfl (zNSSR (zp2 rfl (qb ?_)))
 refine qq rfl hF ?_ ?_ <;> intro hF
 ·exact zSR (zp1 rfl (qb (qv qc h hF ⟨rfl, trivial⟩)))
 refine zKSSR (zp3 rfl (qb ?_))
 refine qq rfl hF ?_ ?_ <;> intro hF
 ·exact zSR (zp1 rfl (qb (qv qc h hF ⟨rfl, trivial⟩)))
 exact zKSR (zp1 rfl (qb (qv qc h hF ⟨rfl, trivial⟩)))

end Go.Fw


namespace Go.Fw
open Go

structure qrJ (x : qlA) : Prop where
  False : okT x.False
  Cycles : okI x.Cycles
  MaxLimit : okI x.MaxLimit
  MinLimit : okI x.MinLimit
end Go.Fw


namespace Go.Fw
open Go
set_option maxRecDepth 100000

theorem qoM {b : qD} {es : List qf} {tag : List Int} {p : Int} (hok : qg1 b) (hes : okL qcK es) (_ : okL okI tag) : ∃ R : List Int × Int, Ev (fun n => qg9 n b es tag p) R ∧ Ev (fun n => qfS n b es tag p) R ∧ qao R.1 ≤ 1048576 := by
  have hl := hes.len
  obtain ⟨o, ev, _⟩ := qqA (p := p) hok hes
  have hc := qoU (p := p) hok hes
  have f1 := qqE (tag := tag) hl
  have f2 := qqy (tag := tag) hl
  unfold qg9 qfS
  by_cases h0 : codeP b es p = 0
  · rw [h0] at ev hc
    cases hf : fitsB es tag
    · rw [hf] at f1 f2
      exact ⟨([], 2), Ev.bind hc (Ev.ff rfl (Ev.bind f1 (Ev.tt rfl .done))), Ev.bind ev (Ev.ff rfl (Ev.bind f2 (Ev.tt rfl .done))), Nat.zero_le _⟩
    · rw [hf] at f1 f2
      have ht := qpk hf
      exact ⟨(stepTs es tag p, 0), Ev.bind hc (Ev.ff rfl (Ev.bind f1 (Ev.ff rfl (Ev.bind (qqp hes ht) .done)))), Ev.bind ev (Ev.ff rfl (Ev.bind f2 (Ev.ff rfl (Ev.bind (qob hes ht) .done)))), by show qao (stepTs es tag p) ≤ _; unfold qao; rw [qos]; omega⟩
  · have hne : (codeP b es p != 0) = true := by simpa using h0
    exact ⟨([], codeP b es p), Ev.bind hc (Ev.tt hne .done), Ev.bind ev (Ev.tt hne .done), Nat.zero_le _⟩

theorem qke {b : qD} {es : (List qf)} {tag : (List Int)} {p : Int} (h0 : qjG b) (h1 : (rngL qeJ) es) (h2 : (rngL rngI) tag) (_h3 : rngI p) : Ev (fun n => qeO n b es tag p) true := by
  unfold qeO
  refine Ev.bif (fun _ => .done) (fun hl => ?_)
  have hl2 : tag.length ≤ 1048576 := by have := of_decide_eq_false hl; omega
  obtain ⟨r1, e1, q1⟩ := qpY (a := b) (left := 1048576) h0 (by omega) (by omega)
  refine Ev.bind e1 ?_
  rcases q1 with q1 | ⟨p1, q1⟩
  · exact Ev.tt (by simpa using q1) .done
  refine Ev.ff (by simp; omega) ?_
  obtain ⟨r2, e2, q2⟩ := qmx (a := es) (left := r1) h1 p1 (by omega)
  refine Ev.bind e2 ?_
  rcases q2 with q2 | ⟨p2, q2⟩
  · exact Ev.tt (by simpa using q2) .done
  refine Ev.ff (by simp; omega) ?_
  have w0 : qff b ≤ 1048576 := by omega
  have k0 := qoB h0 w0
  have w1 : qbx es ≤ 1048576 := by omega
  have k1 := qlt h1 w1
  have w2 : qao tag ≤ 1048576 := by unfold qao; omega
  have k2 := qcu h2 w2
  obtain ⟨⟨R0, R1⟩, hs, hi, v0⟩ := qoM (b := b) (es := es) (tag := tag) (p := p) k0 k1 k2
  have v0 : qao R0 ≤ 1048576 := v0
  refine Ev.bind (qkv w0) ?_
  refine Ev.bind (qhw w1) ?_
  refine Ev.bind (qcW w2) ?_
  refine Ev.bind hs ?_
  refine Ev.bind (qkv w0) ?_
  refine Ev.bind (qhw w1) ?_
  refine Ev.bind (qcW w2) ?_
  refine Ev.bind hi ?_
  refine Ev.bind (b := false) (Ev.bind (qcV v0) (Ev.ff rfl (Ev.now (by simp)))) (Ev.ff rfl ?_)
  refine Ev.bind (qkv w0) ?_
  refine Ev.bind (qqk w0) (Ev.ff rfl ?_)
  refine Ev.bind (qhw w1) ?_
  refine Ev.bind (qms w1) (Ev.ff rfl ?_)
  refine Ev.bind (qcW w2) ?_
  refine Ev.bind (qcV w2) (Ev.ff rfl ?_)
  obtain ⟨m1, ⟨x1_0, x1_1, x1_2, x1_3, x1_4⟩, mk1, ml1, mu1⟩ := qnf (a := b) (k := 1) (by omega) (by omega) w0
  refine Ev.bind mk1 ?_
  obtain ⟨m2, x2_0, mk2, ml2, mu2⟩ := qkr (a := es) (k := m1) (by omega) (by omega) w1
  refine Ev.bind mk2 ?_
  obtain ⟨m3, x3_0, mk3, ml3, mu3⟩ := qdk (a := tag) (k := m2) (by omega) (by omega) w2
  refine Ev.bind mk3 ?_
  refine Ev.bind (b := false) (Ev.ff (by simp; omega) (Ev.bind (qcV v0) (Ev.ff rfl (Ev.now (by simp))))) (Ev.ff rfl ?_)
  have hh1 := qqZ (k := 1) (m := R0.length) (by omega) (by omega) v0
  refine Ev.bind (qlE (by omega) (by omega) v0) ?_
  refine Ev.bind hh1 (Ev.ff (by simp; omega) (Ev.ff qbD ?_))
  refine Ev.bind (qkv w0) ?_
  refine Ev.bind (qhw w1) ?_
  refine Ev.bind (qcW w2) ?_
  refine Ev.bind hi ?_
  refine Ev.bind (b := false) (Ev.bind (qcV v0) (Ev.ff rfl (Ev.now (by simp)))) (Ev.ff rfl ?_)
  refine Ev.bind hh1 (Ev.ff (by simp; omega) (Ev.ff qbD ?_))
  exact .done

end Go.Fw
