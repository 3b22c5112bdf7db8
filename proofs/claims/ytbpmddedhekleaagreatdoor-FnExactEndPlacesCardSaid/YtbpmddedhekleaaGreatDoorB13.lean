/- Plain laws: what the laws own helpers do that mark. -/
import Derived.Test.YtbpmddedhekleaaGreatDoorB7
import Derived.Test.YtbpmddedhekleaaGreatDoorFw30
import Derived.Test.YtbpmddedhekleaaGreatDoorE1
namespace Go.Fw
open Go
set_option maxRecDepth 100000

/-- A marking: the counter grows, by no more than four for each thing. -/
def Mk {σ : Type} (F : Nat → Option (Int × σ)) (k : Int) (w : Nat) : Prop := ∃ k' x, Ev F (k', x) ∧ k ≤ k' ∧ k' ≤ k + 4 * (w : Int)

theorem idx_setS {α : Type} {t : List α} {j : Nat} {y : α} (h : j < t.length) : idx (setS t (j : Int) y) (j : Int) = some y := by
  rw [idx_lt (by rw [setS_len]; exact h), setS_self h]
theorem setS_setS {α : Type} {t : List α} {i : Int} {y z : α} : setS (setS t i y) i z = setS t i z := by
  unfold setS; rw [List.set_set]
theorem take_sum_succ {α : Type} {a : List α} {wt : α → Nat} {j : Nat} (h : j < a.length) : ((a.take (j + 1)).map wt).sum = ((a.take j).map wt).sum + wt a[j] := by
  rw [List.take_succ_eq_append_getElem h, List.map_append, List.sum_append]; simp
theorem take_sum_le {α : Type} {a : List α} {wt : α → Nat} {j : Nat} : ((a.take j).map wt).sum ≤ (a.map wt).sum := by
  conv => rhs; rw [← List.take_append_drop j a]
  rw [List.map_append, List.sum_append]
  exact Nat.le_add_right _ _

theorem mark_loop {α : Type} {a : List α} {wt : α → Nat} {Lf : Nat → List α → Int → Int → Option (List α × Int × Int)} {F : Nat → Option (Int × List α)} {k : Int} (hk0 : 0 ≤ k) (hk1 : k + 4 * ((a.length + (a.map wt).sum : Nat) : Int) ≤ 1000000000000)
    (hend : ∀ n t k, Lf (n + 1) t k (a.length : Int) = some (t, k, (a.length : Int)))
    (hstep : ∀ x, x ∈ a → ∀ k : Int, 0 ≤ k → k + 4 * ((1 + wt x : Nat) : Int) ≤ 1000000000000 → ∃ y k', k ≤ k' ∧ k' ≤ k + 4 * ((1 + wt x : Nat) : Int) ∧
      ∀ (t : List α) (j : Nat), j < 9223372036854775807 → j < a.length → j < t.length → t[j]? = some x → ∀ X, Ev (fun n => Lf n (setS t (j : Int) y) k' ((j + 1 : Nat) : Int)) X → Ev (fun n => Lf (n + 1) t k (j : Int)) X)
    (hl : a.length ≤ 1048576)
    (hF : ∀ n, F n = (Lf n a k 0).bind fun o => match o with | (x1, i1, _) => some (i1, x1)) : Mk F k (a.length + (a.map wt).sum) := by
  obtain ⟨⟨t, k'⟩, ⟨_, _, h3, h4⟩, e⟩ := loopE (τ := List α × Int) (Lf := fun n t j => Lf n t.1 t.2 j) (fin := fun t => (t.1, t.2, (a.length : Int)))
    (fun j t => t.1.length = a.length ∧ (∀ i, j ≤ i → t.1[i]? = a[i]?) ∧ k ≤ t.2 ∧ t.2 ≤ k + 4 * ((j + ((a.take j).map wt).sum : Nat) : Int)) (len := a.length)
    (fun n t => hend n t.1 t.2)
    (fun j t hj ht => by
      obtain ⟨h1, h2, h3, h4⟩ := ht
      have hs := take_sum_succ (wt := wt) hj
      have hs2 := take_sum_le (a := a) (wt := wt) (j := j + 1)
      obtain ⟨y, k', q1, q2, q3⟩ := hstep a[j] (List.getElem_mem hj) t.2 (by omega) (by omega)
      refine ⟨(setS t.1 (j : Int) y, k'), ⟨by rw [setS_len]; exact h1, fun i hi => ?_, by show k ≤ k'; omega, ?_⟩, fun X hX => ?_⟩
      · show (t.1.set _ _)[i]? = _
        rw [List.getElem?_set_ne (by rw [Int.toNat_natCast]; omega)]
        exact h2 i (by omega)
      · show k' ≤ k + _
        rw [hs]
        omega
      · exact q3 t.1 j (by omega) hj (by omega) (by rw [h2 j (Nat.le_refl _), List.getElem?_eq_getElem hj]) X hX) 0 (Nat.zero_le _) (a, k) ⟨rfl, fun _ _ => rfl, Int.le_refl _, by show k ≤ k + _; omega⟩
  rw [List.take_length] at h4
  exact ⟨k', t, Ev.congr hF (Ev.bind e .done), h3, h4⟩

theorem drop_set {α : Type} {pre a : List α} {j : Nat} {y : α} (hp : pre.length = j) (hj : j < a.length) : setS (pre ++ a.drop j) (j : Int) y = (pre ++ [y]) ++ a.drop (j + 1) := by
  show (pre ++ a.drop j).set j y = _
  rw [List.set_append, if_neg (by omega), hp, Nat.sub_self, List.drop_eq_getElem_cons hj, List.set_cons_zero, List.append_assoc]
  rfl

def marked (k : Int) (m : Nat) : List Int := (List.range m).map fun (i : Nat) => k + (i : Int)
theorem markInt_ev {a : List Int} {k : Int} (h0 : 0 ≤ k) (h1 : k ≤ 1000000000000) (hl : a.length ≤ 1048576) : Ev (fun n => laws_markInt64S n a k) (k + (a.length : Int), marked k a.length) := by
  have hL : Ev (fun n => laws_markInt64S_L1 a n a k 0) (marked k a.length, k + (a.length : Int), (a.length : Int)) := by
    have := loopF (τ := List Int × Int) (Lf := fun n t j => laws_markInt64S_L1 a n t.1 t.2 j) (S := fun j => (marked k j ++ a.drop j, k + (j : Int))) (len := a.length) (fin := (marked k a.length, k + (a.length : Int), (a.length : Int))) (fun n => by
        simp only [laws_markInt64S_L1, lt_nat_f (Nat.le_refl _), cond_false, List.drop_length, List.append_nil])
      (fun j hj X hX => by
        have hp : (marked k j).length = j := by simp [marked]
        have hlt : j < (marked k j ++ a.drop j).length := by rw [List.length_append, hp, List.length_drop]; omega
        have hm : marked k (j + 1) = marked k j ++ [k + (j : Int)] := by unfold marked; rw [List.range_succ, List.map_append]; rfl
        simp only [laws_markInt64S_L1, lt_nat_t hj, cond_true, idx_lt hlt, Option.bind_some, drop_set hp hj, w64_succ (show j < 9223372036854775807 by omega), w64_of (show -9223372036854775808 ≤ k + (j : Int) + 1 by omega) (by omega)]
        rw [← hm]
        rw [show k + (j : Int) + 1 = k + ((j + 1 : Nat) : Int) by omega]
        exact hX)
    simpa [marked] using this
  unfold laws_markInt64S
  exact Ev.bind hL .done
theorem markInt_mk {a : List Int} {k : Int} (h0 : 0 ≤ k) (h1 : k ≤ 1000000000000) (hl : w_Int64S a ≤ 1048576) : ∃ k' x, Ev (fun n => laws_markInt64S n a k) (k', x) ∧ k ≤ k' ∧ k' ≤ k + 4 * (w_Int64S a : Int) :=
  ⟨_, _, markInt_ev h0 h1 hl, by omega, by unfold w_Int64S; omega⟩
theorem held_ev {k : Int} {m : Nat} (h0 : 0 ≤ k) (h1 : k ≤ 1000000000000) (hl : m ≤ 1048576) : Ev (fun n => laws_heldInt64S n (marked k m) k) (k + (m : Int)) := by
  have hlen : (marked k m).length = m := by simp [marked]
  have hL : Ev (fun n => laws_heldInt64S_L1 (marked k m) n k 0) (.nxt (k + (m : Int), (m : Int))) := by
    have := loopF (Lf := laws_heldInt64S_L1 (marked k m)) (S := fun j => k + (j : Int)) (len := m) (fin := .nxt (k + (m : Int), (m : Int))) (fun n => by
        simp only [laws_heldInt64S_L1, hlen, lt_nat_f (Nat.le_refl _), cond_false])
      (fun j hj X hX => by
        have e : idx (marked k m) (j : Int) = some (k + (j : Int)) := by
          rw [idx_lt (by rw [hlen]; exact hj)]; simp [marked]
        simp only [laws_heldInt64S_L1, hlen, lt_nat_t hj, cond_true, e, Option.bind_some, bne_self_eq_false, cond_false, w64_succ (show j < 9223372036854775807 by omega), w64_of (show -9223372036854775808 ≤ k + (j : Int) + 1 by omega) (by omega)]
        rw [show k + (j : Int) + 1 = k + ((j + 1 : Nat) : Int) by omega]
        exact hX)
    simpa using this
  unfold laws_heldInt64S
  exact Ev.bind hL .done

theorem catB_ok {a b : ByteArray} (h : a.size + b.size ≤ 1000000) : catB a b = some (a ++ b) := by
  unfold catB
  rw [if_pos]
  show ((a.size + b.size : Nat) : Int) ≤ 9223372036854775807
  omega
theorem strOf_one {x : IntK .u8} : (strOf [x]).size = 1 := rfl
theorem markText_ev {k : Int} (hk : k ≤ 1000000000001000) : ∃ s, Ev (fun n => laws_markText n k) s := by
  have main : ∀ m : Nat, ∀ i1 : Int, ∀ z : ByteArray, 0 ≤ i1 → i1 ≤ 9000000000000000000 → i1 < 10 ^ m → z.size + m ≤ 1000 → ∃ o : Int × ByteArray, o.2.size ≤ 1000 ∧ Ev (fun n => laws_markText_L1 n i1 z) o := by
    intro m
    induction m with
    | zero =>
      intro i1 z h0 hb h1 hz
      have : i1 = 0 := by have : (10 : Int) ^ 0 = 1 := rfl; omega
      subst this
      exact ⟨(0, z), by show z.size ≤ 1000; omega, Ev.succ (Ev.ff (by decide) .done)⟩
    | succ m ih =>
      intro i1 z h0 hb h1 hz
      by_cases hp : i1 = 0
      · subst hp
        exact ⟨(0, z), by show z.size ≤ 1000; omega, Ev.succ (Ev.ff (by decide) .done)⟩
      · have hd : i1.tdiv 10 = i1 / 10 := Int.tdiv_eq_ediv_of_nonneg h0
        have h10 : (10 : Int) ^ (m + 1) = 10 ^ m * 10 := Int.pow_succ _ _
        have hc : catB (strOf ([(⟨IntKind.wrap .u8 (W64 (48 + (i1.tmod 10)))⟩ : IntK .u8)])) z = some (strOf ([(⟨IntKind.wrap .u8 (W64 (48 + (i1.tmod 10)))⟩ : IntK .u8)]) ++ z) := catB_ok (by rw [strOf_one]; omega)
        obtain ⟨o, ho, e⟩ := ih (i1 / 10) (strOf ([(⟨IntKind.wrap .u8 (W64 (48 + (i1.tmod 10)))⟩ : IntK .u8)]) ++ z) (by omega) (by omega) (by omega) (by rw [ByteArray.size_append, strOf_one]; omega)
        refine ⟨o, ho, Ev.succ ?_⟩
        simp only [laws_markText_L1, show decide (i1 > 0) = true by simp; omega, cond_true, hc, Option.bind_some, hd, w64_of (show -9223372036854775808 ≤ i1 / 10 by omega) (by omega)]
        exact e
  unfold laws_markText
  by_cases h0 : k ≤ 0
  · exact ⟨_, Ev.tt (by simpa using h0) .done⟩
  · obtain ⟨⟨o1, o2⟩, ho, e⟩ := main 16 k ⟨#[]⟩ (by omega) (by omega) (by have : (10 : Int) ^ 16 = 10000000000000000 := rfl; omega) (by decide)
    refine ⟨(⟨#[109]⟩ : ByteArray) ++ o2, Ev.ff (by simp; omega) (Ev.bind e ?_)⟩
    have ho : o2.size ≤ 1000 := ho
    show Ev (fun n => (catB ⟨#[109]⟩ o2).bind fun z3 => some z3) _
    rw [catB_ok (show (⟨#[109]⟩ : ByteArray).size + o2.size ≤ 1000000 by have : (⟨#[109]⟩ : ByteArray).size = 1 := rfl; omega)]
    exact .done

theorem markPinS_mk {a : List TPin} {k : Int} (h0 : 0 ≤ k) (h1 : k + 4 * (w_PinS a : Int) ≤ 1000000000000) (hw : w_PinS a ≤ 1048576) : Mk (fun n => laws_markPinS n a k) k (w_PinS a) := by
  refine mark_loop (a := a) (wt := w_Pin) h0 h1 (Lf := laws_markPinS_L1 a) (fun n t k => by simp only [laws_markPinS_L1, lt_nat_f (Nat.le_refl _), cond_false]) (fun x hx k h0 h1 => ?_) (by simp only [w_PinS] at hw; omega) (fun _ => rfl)
  obtain ⟨s, es⟩ := markText_ev (k := k) (by omega)
  have e1 : W64 (k + 1) = k + 1 := w64_of (by omega) (by omega)
  have e2 : W64 (k + 1 + 1) = k + 1 + 1 := w64_of (by omega) (by omega)
  have e3 : W64 (k + 1 + 1 + 1) = k + 1 + 1 + 1 := w64_of (by omega) (by omega)
  have e4 : W64 (k + 1 + 1 + 1 + 1) = k + 1 + 1 + 1 + 1 := w64_of (by omega) (by omega)
  refine ⟨⟨s, k + 1, k + 1 + 1, ((k + 1 + 1 + 1).tmod 3) == 0⟩, k + 1 + 1 + 1 + 1, by omega, by omega, fun t j hb hj ht hx X hX => ?_⟩
  simp only [laws_markPinS_L1, lt_nat_t hj, cond_true, e1, e2, e3, e4, w64_succ hb]
  refine Ev.bind es ?_
  simp only [idx_at hx, Option.bind_some, idx_setS ht, setS_setS]
  exact hX

theorem markStringS_mk {a : List ByteArray} {k : Int} (h0 : 0 ≤ k) (h1 : k + 4 * (w_StringS a : Int) ≤ 1000000000000) (hw : w_StringS a ≤ 1048576) : Mk (fun n => laws_markStringS n a k) k (w_StringS a) := by
  refine mark_loop (a := a) (wt := ByteArray.size) h0 h1 (Lf := laws_markStringS_L1 a) (fun n t k => by simp only [laws_markStringS_L1, lt_nat_f (Nat.le_refl _), cond_false]) (fun x hx k h0 h1 => ?_) (by simp only [w_StringS] at hw; omega) (fun _ => rfl)
  obtain ⟨s, es⟩ := markText_ev (k := k) (by omega)
  have e1 : W64 (k + 1) = k + 1 := w64_of (by omega) (by omega)
  refine ⟨s, k + 1, by omega, by omega, fun t j hb hj ht hx X hX => ?_⟩
  simp only [laws_markStringS_L1, lt_nat_t hj, cond_true, e1, w64_succ hb]
  refine Ev.bind es ?_
  simp only [idx_at hx, Option.bind_some]
  exact hX

theorem markPortS_mk {a : List TPort} {k : Int} (h0 : 0 ≤ k) (h1 : k + 4 * (w_PortS a : Int) ≤ 1000000000000) (hw : w_PortS a ≤ 1048576) : Mk (fun n => laws_markPortS n a k) k (w_PortS a) := by
  refine mark_loop (a := a) (wt := w_Port) h0 h1 (Lf := laws_markPortS_L1 a) (fun n t k => by simp only [laws_markPortS_L1, lt_nat_f (Nat.le_refl _), cond_false]) (fun x hx k h0 h1 => ?_) (by simp only [w_PortS] at hw; omega) (fun _ => rfl)
  obtain ⟨s, es⟩ := markText_ev (k := k) (by omega)
  have e1 : W64 (k + 1) = k + 1 := w64_of (by omega) (by omega)
  have e2 : W64 (k + 1 + 1) = k + 1 + 1 := w64_of (by omega) (by omega)
  have e3 : W64 (k + 1 + 1 + 1) = k + 1 + 1 + 1 := w64_of (by omega) (by omega)
  refine ⟨⟨s, k + 1, k + 1 + 1⟩, k + 1 + 1 + 1, by omega, by omega, fun t j hb hj ht hx X hX => ?_⟩
  simp only [laws_markPortS_L1, lt_nat_t hj, cond_true, e1, e2, e3, w64_succ hb]
  refine Ev.bind es ?_
  simp only [idx_at hx, Option.bind_some, idx_setS ht, setS_setS]
  exact hX

theorem markTableS_mk {a : List TTable} {k : Int} (h0 : 0 ≤ k) (h1 : k + 4 * (w_TableS a : Int) ≤ 1000000000000) (hw : w_TableS a ≤ 1048576) : Mk (fun n => laws_markTableS n a k) k (w_TableS a) := by
  refine mark_loop (a := a) (wt := w_Table) h0 h1 (Lf := laws_markTableS_L1 a) (fun n t k => by simp only [laws_markTableS_L1, lt_nat_f (Nat.le_refl _), cond_false]) (fun x hx k h0 h1 => ?_) (by simp only [w_TableS] at hw; omega) (fun _ => rfl)
  have hs := sum_le (wt := w_Table) hx
  have ew : w_Table x = w_Int64S x.Slews + w_Int64S x.Loads + w_Int64S x.Values := rfl
  have hw : a.length + (a.map w_Table).sum ≤ 1048576 := hw
  obtain ⟨k1, x1, e1, l1, u1⟩ := markInt_mk (a := x.Slews) (k := k) h0 (by omega) (by omega)
  obtain ⟨k2, x2, e2, l2, u2⟩ := markInt_mk (a := x.Loads) (k := k1) (by omega) (by omega) (by omega)
  obtain ⟨k3, x3, e3, l3, u3⟩ := markInt_mk (a := x.Values) (k := k2) (by omega) (by omega) (by omega)
  refine ⟨⟨x1, x2, x3⟩, k3, by omega, by omega, fun t j hb hj ht hx X hX => ?_⟩
  simp only [laws_markTableS_L1, lt_nat_t hj, cond_true, idx_at hx, Option.bind_some, w64_succ hb]
  exact Ev.bind e1 (Ev.bind e2 (Ev.bind e3 hX))

theorem markArcS_mk {a : List TArc} {k : Int} (h0 : 0 ≤ k) (h1 : k + 4 * (w_ArcS a : Int) ≤ 1000000000000) (hw : w_ArcS a ≤ 1048576) : Mk (fun n => laws_markArcS n a k) k (w_ArcS a) := by
  refine mark_loop (a := a) (wt := w_Arc) h0 h1 (Lf := laws_markArcS_L1 a) (fun n t k => by simp only [laws_markArcS_L1, lt_nat_f (Nat.le_refl _), cond_false]) (fun x hx k h0 h1 => ?_) (by simp only [w_ArcS] at hw; omega) (fun _ => rfl)
  have hs := sum_le (wt := w_Arc) hx
  have ew : w_Arc x = w_TableS x.Delay + w_TableS x.Slew := rfl
  have hw : a.length + (a.map w_Arc).sum ≤ 1048576 := hw
  have e1 : W64 (k + 1) = k + 1 := w64_of (by omega) (by omega)
  have e2 : W64 (k + 1 + 1) = k + 1 + 1 := w64_of (by omega) (by omega)
  have e3 : W64 (k + 1 + 1 + 1) = k + 1 + 1 + 1 := w64_of (by omega) (by omega)
  have e4 : W64 (k + 1 + 1 + 1 + 1) = k + 1 + 1 + 1 + 1 := w64_of (by omega) (by omega)
  obtain ⟨k1, x1, q1, l1, u1⟩ := markTableS_mk (a := x.Delay) (k := k + 1 + 1 + 1 + 1) (by omega) (by omega) (by omega)
  obtain ⟨k2, x2, q2, l2, u2⟩ := markTableS_mk (a := x.Slew) (k := k1) (by omega) (by omega) (by omega)
  refine ⟨⟨k, k + 1, k + 1 + 1, k + 1 + 1 + 1, x1, x2⟩, k2, by omega, by omega, fun t j hb hj ht hx X hX => ?_⟩
  simp only [laws_markArcS_L1, lt_nat_t hj, cond_true, idx_at hx, Option.bind_some, w64_succ hb, e1, e2, e3, e4]
  exact Ev.bind q1 (Ev.bind q2 hX)

theorem markCellS_mk {a : List TCell} {k : Int} (h0 : 0 ≤ k) (h1 : k + 4 * (w_CellS a : Int) ≤ 1000000000000) (hw : w_CellS a ≤ 1048576) : Mk (fun n => laws_markCellS n a k) k (w_CellS a) := by
  refine mark_loop (a := a) (wt := w_Cell) h0 h1 (Lf := laws_markCellS_L1 a) (fun n t k => by simp only [laws_markCellS_L1, lt_nat_f (Nat.le_refl _), cond_false]) (fun x hx k h0 h1 => ?_) (by simp only [w_CellS] at hw; omega) (fun _ => rfl)
  have hs := sum_le (wt := w_Cell) hx
  have ew : w_Cell x = x.Name.size + w_PinS x.Pins + w_ArcS x.Arcs + w_Int64S x.Truth := rfl
  have hw : a.length + (a.map w_Cell).sum ≤ 1048576 := hw
  obtain ⟨s, es⟩ := markText_ev (k := k) (by omega)
  have e1 : W64 (k + 1) = k + 1 := w64_of (by omega) (by omega)
  have e2 : W64 (k + 1 + 1) = k + 1 + 1 := w64_of (by omega) (by omega)
  obtain ⟨k1, x1, q1, l1, u1⟩ := markPinS_mk (a := x.Pins) (k := k + 1 + 1) (by omega) (by omega) (by omega)
  obtain ⟨k2, x2, q2, l2, u2⟩ := markArcS_mk (a := x.Arcs) (k := k1) (by omega) (by omega) (by omega)
  obtain ⟨k3, x3, q3, l3, u3⟩ := markInt_mk (a := x.Truth) (k := k2) (by omega) (by omega) (by omega)
  have e3 : W64 (k3 + 1) = k3 + 1 := w64_of (by omega) (by omega)
  have e4 : W64 (k3 + 1 + 1) = k3 + 1 + 1 := w64_of (by omega) (by omega)
  refine ⟨⟨s, k + 1, x1, x2, x3, k3, k3 + 1⟩, k3 + 1 + 1, by omega, by omega, fun t j hb hj ht hx X hX => ?_⟩
  simp only [laws_markCellS_L1, lt_nat_t hj, cond_true, idx_at hx, Option.bind_some, w64_succ hb, e1, e2]
  refine Ev.bind es (Ev.bind q1 (Ev.bind q2 (Ev.bind q3 ?_)))
  simp only [e3, e4]
  exact hX

theorem markInstanceS_mk {a : List TInstance} {k : Int} (h0 : 0 ≤ k) (h1 : k + 4 * (w_InstanceS a : Int) ≤ 1000000000000) (hw : w_InstanceS a ≤ 1048576) : Mk (fun n => laws_markInstanceS n a k) k (w_InstanceS a) := by
  refine mark_loop (a := a) (wt := w_Instance) h0 h1 (Lf := laws_markInstanceS_L1 a) (fun n t k => by simp only [laws_markInstanceS_L1, lt_nat_f (Nat.le_refl _), cond_false]) (fun x hx k h0 h1 => ?_) (by simp only [w_InstanceS] at hw; omega) (fun _ => rfl)
  have hs := sum_le (wt := w_Instance) hx
  have ew : w_Instance x = x.Name.size + w_Int64S x.Nets := rfl
  have hw : a.length + (a.map w_Instance).sum ≤ 1048576 := hw
  obtain ⟨s, es⟩ := markText_ev (k := k) (by omega)
  have e1 : W64 (k + 1) = k + 1 := w64_of (by omega) (by omega)
  have e2 : W64 (k + 1 + 1) = k + 1 + 1 := w64_of (by omega) (by omega)
  obtain ⟨k1, x1, q1, l1, u1⟩ := markInt_mk (a := x.Nets) (k := k + 1 + 1) (by omega) (by omega) (by omega)
  refine ⟨⟨s, k + 1, x1⟩, k1, by omega, by omega, fun t j hb hj ht hx X hX => ?_⟩
  simp only [laws_markInstanceS_L1, lt_nat_t hj, cond_true, idx_at hx, Option.bind_some, w64_succ hb, e1, e2]
  exact Ev.bind es (Ev.bind q1 hX)

theorem markWireS_mk {a : List TWire} {k : Int} (h0 : 0 ≤ k) (h1 : k + 4 * (w_WireS a : Int) ≤ 1000000000000) (hw : w_WireS a ≤ 1048576) : Mk (fun n => laws_markWireS n a k) k (w_WireS a) := by
  refine mark_loop (a := a) (wt := w_Wire) h0 h1 (Lf := laws_markWireS_L1 a) (fun n t k => by simp only [laws_markWireS_L1, lt_nat_f (Nat.le_refl _), cond_false]) (fun x hx k h0 h1 => ?_) (by simp only [w_WireS] at hw; omega) (fun _ => rfl)
  have hs := sum_le (wt := w_Wire) hx
  have ew : w_Wire x = w_Int64S x.Parent + w_Int64S x.Res + w_Int64S x.Cap + w_Int64S x.Sink := rfl
  have hw : a.length + (a.map w_Wire).sum ≤ 1048576 := hw
  obtain ⟨k1, x1, q1, l1, u1⟩ := markInt_mk (a := x.Parent) (k := k) h0 (by omega) (by omega)
  obtain ⟨k2, x2, q2, l2, u2⟩ := markInt_mk (a := x.Res) (k := k1) (by omega) (by omega) (by omega)
  obtain ⟨k3, x3, q3, l3, u3⟩ := markInt_mk (a := x.Cap) (k := k2) (by omega) (by omega) (by omega)
  obtain ⟨k4, x4, q4, l4, u4⟩ := markInt_mk (a := x.Sink) (k := k3) (by omega) (by omega) (by omega)
  refine ⟨⟨x1, x2, x3, x4⟩, k4, by omega, by omega, fun t j hb hj ht hx X hX => ?_⟩
  simp only [laws_markWireS_L1, lt_nat_t hj, cond_true, idx_at hx, Option.bind_some, w64_succ hb]
  exact Ev.bind q1 (Ev.bind q2 (Ev.bind q3 (Ev.bind q4 hX)))

theorem markBlock_mk {a : TBlock} {k : Int} (h0 : 0 ≤ k) (h1 : k ≤ 1000000) (hw : w_Block a ≤ 1048576) : Mk (fun n => laws_markBlock n a k) k (w_Block a) := by
  simp only [w_Block, w_Library, w_Design] at hw ⊢
  obtain ⟨k1, x1, q1, l1, u1⟩ := markCellS_mk (a := a.Library.Cells) (k := k) h0 (by omega) (by omega)
  obtain ⟨k2, x2, q2, l2, u2⟩ := markInstanceS_mk (a := a.Design.Instances) (k := k1) (by omega) (by omega) (by omega)
  obtain ⟨k3, x3, q3, l3, u3⟩ := markStringS_mk (a := a.Design.Nets) (k := k2) (by omega) (by omega) (by omega)
  obtain ⟨k4, x4, q4, l4, u4⟩ := markPortS_mk (a := a.Design.Ports) (k := k3) (by omega) (by omega) (by omega)
  obtain ⟨k5, x5, q5, l5, u5⟩ := markWireS_mk (a := a.Wires) (k := k4) (by omega) (by omega) (by omega)
  refine ⟨k5, (x1, x2, x3, x4, x5), ?_, by omega, by omega⟩
  unfold laws_markBlock laws_markLibrary laws_markDesign
  exact Ev.bind (b := (k1, x1)) (Ev.bind q1 .done) (Ev.bind (b := (k4, x2, x3, x4)) (Ev.bind q2 (Ev.bind q3 (Ev.bind q4 .done))) (Ev.bind q5 .done))
end Go.Fw
