/- Plain laws: names, tables. -/
import Derived.Test.YtbpmddedhekleaaGreatDoorAL
import Derived.Test.YtbpmddedhekleaaGreatDoorFw27
import Derived.Test.YtbpmddedhekleaaGreatDoorFw28

namespace Go.Fw
open Go
set_option maxRecDepth 100000


theorem l01In_eq {n : Nat} {x lo hi : Int} : spec_l01In n x lo hi = some (inI x lo hi) := by
  simp only [spec_l01In, bif_some, bif_and]; rfl
theorem within_eq {n : Nat} {x lo hi : Int} : impl_within n x lo hi = some (inI x lo hi) := by
  simp only [impl_within, bif_some, bif_and]; rfl

/-! ### Names -/

/-- The byte at a place, as a number. -/
def bt (s : ByteArray) (j : Nat) : Nat := (s.data.toList.getD j 0).toNat
theorem atS_at {s : ByteArray} {j : Nat} (h : j < s.size) : atS s (j : Int) = some (bt s j : Int) := by
  have h' : j < s.data.size := h
  have hl : j < s.data.toList.length := by simpa using h'
  unfold atS
  rw [if_pos (by omega), Int.toNat_natCast]
  have : s[j]? = some (s.data.toList.getD j 0) := by
    rw [getElem?_pos s j h, List.getD_eq_getElem?_getD, List.getElem?_eq_getElem hl]
    rfl
  rw [this]
  rfl

def letB (b : Nat) : Bool := decide (97 ≤ b) && decide (b ≤ 122)
def digB (b : Nat) : Bool := decide (48 ≤ b) && decide (b ≤ 57)
def chB (s : ByteArray) (j : Nat) : Bool := letB (bt s j) || digB (bt s j) && decide (0 < j)
def nameB (s : ByteArray) : Bool := (decide (1 ≤ s.size) && decide (s.size ≤ 8)) && allN (chB s) s.size

theorem l03Name_ev {s : ByteArray} (h : okS s) : Ev (fun n => spec_l03Name n s) (nameB s) := by
  unfold okS at h
  have hL : Ev (fun n => spec_l03Name_L1 s n 0) (bif allN (chB s) s.size then .nxt (s.size : Int) else .ret false) := by
    refine ev_all ?_ (fun j hj X hX => ?_)
    · exact Ev.succ (by simp only [spec_l03Name_L1, lt_nat_f (Nat.le_refl _), cond_false]; exact .done)
    · refine Ev.succ ?_
      simp only [spec_l03Name_L1, lt_nat_t hj, cond_true, atS_at hj, Option.bind_some, bif_some, bif_and, w64_succ (show j < 9223372036854775807 by omega)]
      have e1 : (decide ((bt s j : Int) ≥ 97) && decide ((bt s j : Int) ≤ 122)) = letB (bt s j) := by unfold letB; rw [Bool.eq_iff_iff]; simp; omega
      have e2 : (decide ((bt s j : Int) ≥ 48) && decide ((bt s j : Int) ≤ 57)) = digB (bt s j) := by unfold digB; rw [Bool.eq_iff_iff]; simp; omega
      have e3 : decide ((j : Int) > 0) = decide (0 < j) := by rw [Bool.eq_iff_iff]; simp
      rw [e1, e2, e3]
      unfold chB
      cases letB (bt s j) <;> cases digB (bt s j) <;> cases decide (0 < j) <;> first | exact hX | exact .done
  unfold spec_l03Name
  refine Ev.cast (r := bif allN (chB s) s.size then (decide (1 ≤ s.size) && decide (s.size ≤ 8)) else false) (Ev.bindB hL (fun _ => ?_) (fun _ => .done)) ?_
  · simp only [bif_some, bif_and]
    exact Ev.now (by congr 1; rw [Bool.eq_iff_iff]; simp; omega)
  · unfold nameB
    cases allN (chB s) s.size <;> simp

def cutset : List UInt8 := [97, 98, 99, 100, 101, 102, 103, 104, 105, 106, 107, 108, 109, 110, 111, 112, 113, 114, 115, 116, 117, 118, 119, 120, 121, 122, 48, 49, 50, 51, 52, 53, 54, 55, 56, 57]
theorem cutset_mem (b : UInt8) : cutset.contains b = (letB b.toNat || digB b.toNat) := by
  have h0 : (List.range 256).all (fun m => cutset.contains (UInt8.ofNat m) == (letB (UInt8.ofNat m).toNat || digB (UInt8.ofNat m).toNat)) = true := by kernel_rfl
  have h := List.all_eq_true.1 h0 b.toNat (List.mem_range.2 b.toNat_lt)
  rw [beq_iff_eq] at h
  simpa using h
def letters : List UInt8 := [97, 98, 99, 100, 101, 102, 103, 104, 105, 106, 107, 108, 109, 110, 111, 112, 113, 114, 115, 116, 117, 118, 119, 120, 121, 122]
theorem letters_ix (m : Nat) (hm : m < 256) : decide ((Lib.indexByte letters m.toUInt8) ≥ 0) = letB m := by
  have h0 : (List.range 256).all (fun m => decide ((Lib.indexByte letters m.toUInt8) ≥ 0) == letB m) = true := by kernel_rfl
  have h := List.all_eq_true.1 h0 m (List.mem_range.2 hm)
  rwa [beq_iff_eq] at h

theorem dropWhile_nil {α : Type} {p : α → Bool} {l : List α} : l.dropWhile p = [] ↔ ∀ x, x ∈ l → p x = true := by
  induction l with
  | nil => simp
  | cons y l ih =>
    rw [List.dropWhile_cons]
    by_cases h : p y = true
    · rw [if_pos h, ih]; simp [h]
    · rw [if_neg h]; simp [h]

theorem dropWhile_all {α : Type} {p : α → Bool} {l : List α} (h : ∀ x, x ∈ l.dropWhile p → p x = true) : ∀ x, x ∈ l → p x = true := by
  induction l with
  | nil => simp
  | cons y l ih =>
    rw [List.dropWhile_cons] at h
    by_cases hy : p y = true
    · rw [if_pos hy] at h
      intro x hx
      rcases List.mem_cons.1 hx with rfl | hx
      · exact hy
      · exact ih h x hx
    · rw [if_neg hy] at h
      exact h

theorem trim_nil {l cs : List UInt8} : Lib.trimS l cs = [] ↔ ∀ x, x ∈ l → cs.contains x = true := by
  unfold Lib.trimS Lib.trimRightS Lib.trimLeftS
  rw [dropWhile_nil]
  constructor
  · intro h x hx
    exact dropWhile_all (p := (cs.contains ·)) (l := l.reverse) (fun y hy => h y (List.mem_reverse.2 hy)) x (List.mem_reverse.2 hx)
  · intro h x hx
    exact h x (List.mem_reverse.1 ((List.dropWhile_suffix _).subset (List.mem_reverse.1 hx)))

theorem toList_eq_iff {a b : ByteArray} : (a.toList == b.toList) = decide (a = b) := by
  rw [Bool.eq_iff_iff, beq_iff_eq, decide_eq_true_iff]
  constructor
  · intro h
    exact ByteArray.ext (by have := congrArg List.toArray h; simpa [ByteArray.toList_eq] using this)
  · rintro rfl; rfl
end Go.Fw

/- Plain laws: names of the program, tables, arcs. -/
namespace Go.Fw
open Go
set_option maxRecDepth 100000

theorem bt_eq {s : ByteArray} {j : Nat} (h : j < s.data.toList.length) : bt s j = (s.data.toList[j]).toNat := by
  unfold bt; rw [List.getD_eq_getElem?_getD, List.getElem?_eq_getElem h]; rfl
theorem bt_lt {s : ByteArray} {j : Nat} : bt s j < 256 := UInt8.toNat_lt _

theorem isName_eq {n : Nat} {s : ByteArray} (h : okS s) : impl_isName n s = some (nameB s) := by
  unfold okS at h
  have hl : s.data.toList.length = s.size := by simp
  simp only [impl_isName, within_eq, Option.bind_some]
  cases hI : inI (s.size : Int) 1 8 with
  | false =>
    have hs : (decide (1 ≤ s.size) && decide (s.size ≤ 8)) = false := by rw [inI_false] at hI; rw [Bool.and_eq_false_iff, decide_eq_false_iff_not, decide_eq_false_iff_not]; omega
    simp [nameB, hs]
  | true =>
    have hs : 1 ≤ s.size ∧ s.size ≤ 8 := by rw [inI_iff] at hI; omega
    have hT : strings_Trim n s (⟨#[97, 98, 99, 100, 101, 102, 103, 104, 105, 106, 107, 108, 109, 110, 111, 112, 113, 114, 115, 116, 117, 118, 119, 120, 121, 122, 48, 49, 50, 51, 52, 53, 54, 55, 56, 57]⟩ : ByteArray) = some ⟨(Lib.trimS s.data.toList cutset).toArray⟩ := by
      unfold strings_Trim
      rw [if_pos ⟨by omega, by decide, by decide⟩]
      rfl
    rw [hT]
    simp only [cond_true, Option.bind_some]
    have hE : (((⟨(Lib.trimS s.data.toList cutset).toArray⟩ : ByteArray).toList == (⟨#[]⟩ : ByteArray).toList)) = allN (fun j => letB (bt s j) || digB (bt s j)) s.size := by
      rw [toList_eq_iff, Bool.eq_iff_iff, decide_eq_true_iff, allN_iff]
      have : ((⟨(Lib.trimS s.data.toList cutset).toArray⟩ : ByteArray) = ⟨#[]⟩) ↔ Lib.trimS s.data.toList cutset = [] := by
        constructor
        · intro he
          have := congrArg (fun x : ByteArray => x.data.toList) he
          simpa using this
        · intro he; rw [he]
      rw [this, trim_nil]
      constructor
      · intro hx j hj
        have hj' : j < s.data.toList.length := by omega
        have := hx _ (List.getElem_mem hj')
        rw [cutset_mem, ← bt_eq hj'] at this
        exact this
      · intro hx x hm
        obtain ⟨j, hj, rfl⟩ := List.getElem_of_mem hm
        have := hx j (by omega)
        rw [cutset_mem, ← bt_eq hj]
        exact this
    rw [hE]
    have h0 : atS s 0 = some (bt s 0 : Int) := atS_at (j := 0) (by omega)
    have hI2 : decide (Lib.indexByte letters (bt s 0 : Int).toNat.toUInt8 ≥ 0) = letB (bt s 0) := by
      rw [Int.toNat_natCast]; exact letters_ix _ bt_lt
    have hF : ∀ b : Bool, (bif b then (atS s 0).bind fun y1 => (strings_IndexByte n (⟨#[97, 98, 99, 100, 101, 102, 103, 104, 105, 106, 107, 108, 109, 110, 111, 112, 113, 114, 115, 116, 117, 118, 119, 120, 121, 122]⟩ : ByteArray) (⟨y1⟩ : IntK .u8)).bind fun r3 => some (decide (r3 ≥ 0)) else some false) = some (b && letB (bt s 0)) := by
      intro b
      cases b with
      | false => rfl
      | true =>
        rw [h0]
        simp only [cond_true, Option.bind_some, strings_IndexByte, Bool.true_and]
        exact congrArg some hI2
    rw [hF]
    congr 1
    have hs' : (decide (1 ≤ s.size) && decide (s.size ≤ 8)) = true := by simp [hs]
    unfold nameB
    rw [hs', Bool.true_and, Bool.eq_iff_iff, Bool.and_eq_true, allN_iff, allN_iff]
    simp only [chB, Bool.or_eq_true, Bool.and_eq_true, decide_eq_true_eq]
    constructor
    · rintro ⟨h1, h2⟩ j hj
      rcases Nat.eq_zero_or_pos j with rfl | hp
      · exact .inl h2
      · exact (h1 j hj).imp id (fun h => ⟨h, hp⟩)
    · intro h1
      refine ⟨fun j hj => (h1 j hj).imp id (fun h => h.1), ?_⟩
      rcases h1 0 (by omega) with h2 | h2
      · exact h2
      · omega

/-! ### Lists of names -/

def strAt (xs : List ByteArray) (j : Nat) : ByteArray := xs.getD j ByteArray.empty
theorem strAt_eq {xs : List ByteArray} {j : Nat} (h : j < xs.length) : strAt xs j = xs[j] := by simp [strAt, h]
theorem idx_str {xs : List ByteArray} {j : Nat} (h : j < xs.length) : idx xs (j : Int) = some (strAt xs j) := by rw [idx_lt h, strAt_eq h]
def neB (xs : List ByteArray) (j i : Nat) : Bool := !decide (strAt xs i = strAt xs j)
def namesB (xs : List ByteArray) : Bool := allN (fun j => nameB (strAt xs j) && allN (neB xs j) j) xs.length

theorem l05Names_ev {xs : List ByteArray} (h : okL okS xs) : Ev (fun n => spec_l05Names n xs) (namesB xs) := by
  have hl := h.len
  have hL2 : ∀ j, j < xs.length → Ev (fun n => spec_l05Names_L2 xs (j : Int) n 0) (bif allN (neB xs j) j then .nxt (j : Int) else .ret false) := by
    intro j hj
    refine ev_all ?_ (fun i hi X hX => Ev.succ ?_)
    · exact Ev.succ (by simp only [spec_l05Names_L2, lt_nat_f (Nat.le_refl _), cond_false]; exact .done)
    · simp only [spec_l05Names_L2, lt_nat_t hi, cond_true, idx_str (show i < xs.length by omega), idx_str hj, Option.bind_some, toList_eq_iff, w64_succ (show i < 9223372036854775807 by omega)]
      unfold neB
      cases decide (strAt xs i = strAt xs j)
      · exact hX
      · exact .done
  have hL1 : Ev (fun n => spec_l05Names_L1 xs n 0) (bif namesB xs then .nxt (xs.length : Int) else .ret false) := by
    refine ev_all ?_ (fun j hj X hX => Ev.succ ?_)
    · exact Ev.succ (by simp only [spec_l05Names_L1, lt_nat_f (Nat.le_refl _), cond_false]; exact .done)
    · simp only [spec_l05Names_L1, lt_nat_t hj, cond_true, idx_str hj, Option.bind_some, w64_succ (show j < 9223372036854775807 by omega)]
      refine Ev.bind (l03Name_ev (by rw [strAt_eq hj]; exact h.at hj)) ?_
      cases nameB (strAt xs j)
      · exact .done
      · refine Ev.ff rfl (Ev.bind (hL2 j hj) ?_)
        cases allN (neB xs j) j
        · exact .done
        · exact hX
  unfold spec_l05Names
  refine Ev.bind hL1 ?_
  cases namesB xs <;> exact .done

theorem strIndex_ev {xs : List ByteArray} {v : ByteArray} (hl : xs.length ≤ 1048576) : Ev (fun n => slices_Index_string n xs v) (ixL (fun x => decide (v = x)) xs) :=
  index_ev (fin := (xs.length : Int)) (Lf := slices_Index_string_L1 xs v) (pf := fun _ x => some (decide (v = x))) (fun _ _ => .done)
    (fun n => by simp only [slices_Index_string_L1, lt_nat_f (Nat.le_refl _), cond_false])
    (fun n j x hx => by
      have hj := (List.getElem?_eq_some_iff.1 hx).1
      simp only [slices_Index_string_L1, lt_nat_t hj, cond_true, idx_at hx, Option.bind_some, toList_eq_iff, w64_succ (show j < 9223372036854775807 by omega)])
    (fun n => by unfold slices_Index_string; congr 1; funext o; cases o <;> rfl)

theorem strContains_ev {xs : List ByteArray} {v : ByteArray} (hl : xs.length ≤ 1048576) : Ev (fun n => slices_Contains_string n xs v) (xs.any fun x => decide (v = x)) := by
  unfold slices_Contains_string
  exact Ev.bind (strIndex_ev hl) (Ev.now (by rw [ixL_ge]))

theorem areNames_ev {xs : List ByteArray} (h : okL okS xs) : Ev (fun n => impl_areNames n xs) (namesB xs) := by
  have hl := h.len
  have hL1 : Ev (fun n => impl_areNames_L1 xs n 0) (bif namesB xs then .nxt (xs.length : Int) else .ret false) := by
    refine ev_all ?_ (fun j hj X hX => Ev.succ ?_)
    · exact Ev.succ (by simp only [impl_areNames_L1, lt_nat_f (Nat.le_refl _), cond_false]; exact .done)
    · have hs : subS xs 0 (j : Int) = some (xs.take j) := by
        unfold subS
        rw [if_pos ⟨by omega, by omega, by omega⟩]
        simp
      simp only [impl_areNames_L1, lt_nat_t hj, cond_true, idx_str hj, Option.bind_some, hs, isName_eq (show okS (strAt xs j) by rw [strAt_eq hj]; exact h.at hj), w64_succ (show j < 9223372036854775807 by omega)]
      cases nameB (strAt xs j)
      · exact .done
      · refine Ev.ff rfl (Ev.bind (strContains_ev (by simp; omega)) ?_)
        have : ((xs.take j).any fun x => decide (strAt xs j = x)) = !allN (neB xs j) j := by
          rw [any_allN (d := ByteArray.empty)]
          congr 1
          rw [List.length_take, Nat.min_eq_left (by omega)]
          refine allN_congr (fun i hi => ?_)
          unfold neB strAt
          congr 1
          have : (xs.take j).getD i ByteArray.empty = xs.getD i ByteArray.empty := by simp [List.getD_eq_getElem?_getD, List.getElem?_take, hi]
          rw [this]
          exact decide_eq_decide.2 eq_comm
        rw [this]
        cases allN (neB xs j) j
        · exact .done
        · exact hX
  unfold impl_areNames
  refine Ev.bind hL1 ?_
  cases namesB xs <;> exact .done
end Go.Fw

/- Plain laws: tables. -/
namespace Go.Fw
open Go
set_option maxRecDepth 100000

theorem areWithin1_eq {n : Nat} {x lo hi : Int} : impl_areWithin_1 n x lo hi = some (!inI x lo hi) := by simp only [impl_areWithin_1, within_eq, Option.bind_some]

theorem areWithin_ev {xs : List Int} {lo hi : Int} (hl : xs.length ≤ 1048576) : Ev (fun n => impl_areWithin n xs lo hi) (xs.all fun x => inI x lo hi) := by
  have h1 : Ev (fun n => slices_IndexFunc_int64_impl_areWithin_1 n xs lo hi) (ixL (fun x => !inI x lo hi) xs) :=
    index_ev (fin := (xs.length : Int)) (Lf := slices_IndexFunc_int64_impl_areWithin_1_L1 xs lo hi) (pf := fun _ x => some (!inI x lo hi)) (fun _ _ => .done)
      (fun n => by simp only [slices_IndexFunc_int64_impl_areWithin_1_L1, lt_nat_f (Nat.le_refl _), cond_false])
      (fun n j x hx => by
        have hj := (List.getElem?_eq_some_iff.1 hx).1
        simp only [slices_IndexFunc_int64_impl_areWithin_1_L1, lt_nat_t hj, cond_true, idx_at hx, Option.bind_some, areWithin1_eq, w64_succ (show j < 9223372036854775807 by omega)])
      (fun n => by unfold slices_IndexFunc_int64_impl_areWithin_1; congr 1; funext o; cases o <;> rfl)
  unfold impl_areWithin slices_ContainsFunc_int64_impl_areWithin_1
  refine Ev.bind (Ev.bind h1 (Ev.now rfl)) (Ev.now ?_)
  rw [ixL_ge, not_any]

def stepB (xs : List Int) (j : Nat) : Bool := decide (j = 0) || decide (at0 xs (j - 1) < at0 xs j)
def incB (xs : List Int) : Bool := allN (stepB xs) xs.length

theorem isIncreasing_ev {xs : List Int} (hl : xs.length ≤ 1048576) : Ev (fun n => impl_isIncreasing n xs) (incB xs) := by
  have hL : Ev (fun n => impl_isIncreasing_L1 xs n 1) (bif incB xs then .nxt (max 1 xs.length : Int) else .ret false) := by
    by_cases h0 : xs.length = 0
    · have hb : incB xs = true := by unfold incB; rw [h0]; rfl
      rw [hb]
      refine Ev.succ ?_
      have : decide ((1 : Int) < (xs.length : Int)) = false := by rw [h0]; decide
      simp only [impl_isIncreasing_L1, this, cond_false]
      exact Ev.now (by rw [h0]; rfl)
    · have := ev_from (Lf := impl_isIncreasing_L1 xs) (len := xs.length) (i0 := 1) (f := stepB xs) (bad := false) (fin := .nxt (max 1 xs.length : Int)) (by omega)
        (Ev.succ (by
          simp only [impl_isIncreasing_L1, lt_nat_f (Nat.le_refl _), cond_false]
          exact Ev.now (by congr 2; omega)))
        (fun j h1 hj X hX => Ev.succ (by
          simp only [impl_isIncreasing_L1, lt_nat_t hj, cond_true, w64_succ (show j < 9223372036854775807 by omega), show (j : Int) - 1 = ((j - 1 : Nat) : Int) by omega, w64_of (show -9223372036854775808 ≤ ((j - 1 : Nat) : Int) by omega) (by omega), idx_at0 (show j - 1 < xs.length by omega), idx_at0 hj, Option.bind_some]
          unfold stepB
          by_cases hc : at0 xs (j - 1) < at0 xs j
          · have e1 : decide (at0 xs (j - 1) ≥ at0 xs j) = false := by simp; omega
            rw [e1]; simp only [hc, decide_true, Bool.or_true, cond_true, cond_false]; exact hX
          · have e1 : decide (at0 xs (j - 1) ≥ at0 xs j) = true := by simp; omega
            have e2 : decide (j = 0) = false := by simp; omega
            rw [e1, e2]; simp only [hc, decide_false, Bool.or_self, cond_true, cond_false]; exact .done))
      have e : allN (fun j => stepB xs (1 + j)) (xs.length - 1) = incB xs := by
        unfold incB
        rw [Bool.eq_iff_iff, allN_iff, allN_iff]
        constructor
        · intro h j hj
          cases j with
          | zero => rfl
          | succ j => have := h j (by omega); rwa [Nat.add_comm] at this
        · intro h j hj
          exact h (1 + j) (by omega)
      rw [e] at this
      exact this
  unfold impl_isIncreasing
  refine Ev.bind hL ?_
  cases incB xs <;> exact .done

def lenB {α : Type} (xs : List α) (lo hi : Nat) : Bool := decide (lo ≤ xs.length) && decide (xs.length ≤ hi)
theorem lenB_in {α : Type} {xs : List α} {lo hi : Nat} : inI (xs.length : Int) (lo : Int) (hi : Int) = lenB xs lo hi := by
  unfold inI lenB; rw [Bool.eq_iff_iff]; simp
def axisB (xs : List Int) : Bool := lenB xs 1 4 && ((xs.all fun x => inI x 0 100000) && incB xs)

theorem isAxis_ev {xs : List Int} (hl : xs.length ≤ 1048576) : Ev (fun n => impl_isAxis n xs) (axisB xs) := by
  simp only [impl_isAxis, impl_length_int64, Option.bind_some, within_eq, show inI (xs.length : Int) 1 4 = lenB xs 1 4 from lenB_in (lo := 1) (hi := 4)]
  unfold axisB
  cases lenB xs 1 4
  · exact .done
  · refine Ev.tt rfl (Ev.bind (areWithin_ev hl) ?_)
    cases (xs.all fun x => inI x 0 100000)
    · exact .done
    · exact Ev.tt rfl (Ev.bind (isIncreasing_ev hl) .done)

theorem l02Axis_ev {xs : List Int} (hl : xs.length ≤ 1048576) : Ev (fun n => spec_l02Axis n xs) (axisB xs) := by
  have hL : Ev (fun n => spec_l02Axis_L1 xs n 0) (bif allN (fun j => inI (at0 xs j) 0 100000 && stepB xs j) xs.length then .nxt (xs.length : Int) else .ret false) := by
    refine ev_all ?_ (fun j hj X hX => Ev.succ ?_)
    · exact Ev.succ (by simp only [spec_l02Axis_L1, lt_nat_f (Nat.le_refl _), cond_false]; exact .done)
    · simp only [spec_l02Axis_L1, lt_nat_t hj, cond_true, idx_at0 hj, Option.bind_some, l01In_eq, w64_succ (show j < 9223372036854775807 by omega)]
      cases inI (at0 xs j) 0 100000
      · exact .done
      · simp only [Bool.not_true, cond_false, Bool.true_and]
        unfold stepB
        by_cases h0 : j = 0
        · subst h0
          exact Ev.ff (by decide) hX
        · simp only [show (j : Int) - 1 = ((j - 1 : Nat) : Int) by omega, w64_of (show -9223372036854775808 ≤ ((j - 1 : Nat) : Int) by omega) (by omega), idx_at0 (show j - 1 < xs.length by omega), Option.bind_some]
          have e2 : decide (j = 0) = false := by simp; omega
          have e3 : decide ((j : Int) > 0) = true := by simp; omega
          rw [e2, e3]
          simp only [cond_true, Bool.false_or]
          by_cases hc : at0 xs (j - 1) < at0 xs j
          · have e1 : decide (at0 xs (j - 1) ≥ at0 xs j) = false := by simp; omega
            rw [e1]; simp only [hc, decide_true, cond_true, cond_false]; exact hX
          · have e1 : decide (at0 xs (j - 1) ≥ at0 xs j) = true := by simp; omega
            rw [e1]; simp only [hc, decide_false, cond_true, cond_false]; exact .done
  have e : axisB xs = (allN (fun j => inI (at0 xs j) 0 100000 && stepB xs j) xs.length && lenB xs 1 4) := by
    unfold axisB incB
    rw [allN_and, all_allN (d := 0), Bool.and_comm]
    rfl
  rw [e]
  unfold spec_l02Axis
  refine Ev.bind hL ?_
  cases allN (fun j => inI (at0 xs j) 0 100000 && stepB xs j) xs.length
  · exact .done
  · simp only [cond_true, bif_some, bif_and, Bool.true_and]
    exact Ev.now (by congr 1; unfold lenB; rw [Bool.eq_iff_iff]; simp; omega)

def tableB (t : TTable) : Bool := axisB t.Slews && (axisB t.Loads && (decide (t.Values.length = t.Slews.length * t.Loads.length) && (t.Values.all fun x => inI x (-1000000) 1000000)))

theorem mul_w64 {a b : Nat} (ha : a ≤ 1048576) (hb : b ≤ 1048576) : W64 ((a : Int) * (b : Int)) = ((a * b : Nat) : Int) := by
  have h : a * b ≤ 1048576 * 1048576 := Nat.mul_le_mul ha hb
  have e : (a : Int) * (b : Int) = ((a * b : Nat) : Int) := by simp
  rw [e]
  exact w64_of (by omega) (by omega)

theorem IsTable_ev {t : TTable} (h : ok_Table t) : Ev (fun n => impl_IsTable n t) (tableB t) := by
  unfold impl_IsTable tableB
  refine Ev.bind (isAxis_ev h.Slews.len) ?_
  cases axisB t.Slews
  · exact .done
  · refine Ev.tt rfl (Ev.bind (isAxis_ev h.Loads.len) ?_)
    cases axisB t.Loads
    · exact .done
    · rw [mul_w64 h.Slews.len h.Loads.len]
      have e : (((t.Values.length : Nat) : Int) == ((t.Slews.length * t.Loads.length : Nat) : Int)) = decide (t.Values.length = t.Slews.length * t.Loads.length) := by rw [Bool.eq_iff_iff]; simp [Int.natCast_inj]; omega
      rw [e]
      cases decide (t.Values.length = t.Slews.length * t.Loads.length)
      · exact .done
      · exact Ev.tt rfl (Ev.tt rfl (Ev.bind (areWithin_ev h.Values.len) .done))

theorem sIsTable_ev {t : TTable} (h : ok_Table t) : Ev (fun n => spec_IsTable n t) (tableB t) := by
  have hl := h.Values.len
  have hL : Ev (fun n => spec_IsTable_L1 t n 0) (bif (t.Values.all fun x => inI x (-1000000) 1000000) then .nxt (t.Values.length : Int) else .ret false) :=
    all_loop (fun n => by simp only [spec_IsTable_L1, lt_nat_f (Nat.le_refl _), cond_false]) (fun j hj X hX => by
      simp only [spec_IsTable_L1, lt_nat_t hj, cond_true, idx_lt hj, Option.bind_some, l01In_eq, w64_succ (show j < 9223372036854775807 by omega)]
      cases inI t.Values[j] (-1000000) 1000000
      · exact .done
      · exact hX)
  unfold spec_IsTable tableB
  refine Ev.bind (b := !(axisB t.Slews && (axisB t.Loads && decide (t.Values.length = t.Slews.length * t.Loads.length)))) ?_ ?_
  · refine Ev.bind (l02Axis_ev h.Slews.len) ?_
    cases axisB t.Slews
    · exact .done
    · refine Ev.ff rfl (Ev.bind (l02Axis_ev h.Loads.len) ?_)
      cases axisB t.Loads
      · exact .done
      · refine Ev.ff rfl (Ev.now ?_)
        rw [mul_w64 h.Slews.len h.Loads.len]
        congr 1
        rw [Bool.eq_iff_iff]; simp [Int.natCast_inj]; omega
  · cases axisB t.Slews
    · exact .done
    · cases axisB t.Loads
      · exact .done
      · cases decide (t.Values.length = t.Slews.length * t.Loads.length)
        · exact .done
        · refine Ev.ff rfl (Ev.bind hL ?_)
          cases (t.Values.all fun x => inI x (-1000000) 1000000) <;> exact .done
end Go.Fw

/- Plain laws: pins, lists of tables. -/
namespace Go.Fw
open Go
set_option maxRecDepth 100000

instance : Inhabited TPin := ⟨⟨ByteArray.empty, 0, 0, false⟩⟩
instance : Inhabited TTable := ⟨⟨[], [], []⟩⟩
instance : Inhabited TArc := ⟨⟨0, 0, 0, 0, [], []⟩⟩
instance : Inhabited TCell := ⟨⟨ByteArray.empty, 0, [], [], [], 0, 0⟩⟩
instance : Inhabited TInstance := ⟨⟨ByteArray.empty, 0, []⟩⟩
instance : Inhabited TPort := ⟨⟨ByteArray.empty, 0, 0⟩⟩
instance : Inhabited TWire := ⟨⟨[], [], [], []⟩⟩

theorem lastE {j m : Nat} (h : j < m) (hm : m ≤ 1048576) : ((j : Int) == W64 ((m : Int) - 1)) = decide (j + 1 = m) := by
  rcases last_eq h with h | h
  · exact h
  · omega
theorem strAt_map {α : Type} [Inhabited α] {xs : List α} {g : α → ByteArray} {j : Nat} (h : j < xs.length) : strAt (xs.map g) j = g (gt xs j) := by
  rw [strAt_eq (by simpa using h), gt_eq h]; simp
/-- Names that differ, by the list that they are taken from. -/
theorem okS_map {α : Type} {xs : List α} {g : α → ByteArray} {ok : α → Prop} (h : okL ok xs) (hg : ∀ x, ok x → okS (g x)) : okL okS (xs.map g) :=
  ⟨by rw [List.length_map]; exact h.1, fun y hy => by
    obtain ⟨x, hx, rfl⟩ := List.mem_map.1 hy
    exact hg x (h.2 x hx)⟩
theorem appS_one {α β : Type} {xs : List α} {g : α → β} {j : Nat} (h : j < xs.length) (hl : xs.length ≤ 1048576) {y : β} : appS ((xs.take j).map g) [y] = some ((xs.take j).map g ++ [y]) :=
  appS_ok (by simp; omega)

/-! ### Pins -/

def pinB (ps : List TPin) (j : Nat) : Bool :=
  bif decide (j + 1 = ps.length) then ((gt ps j).Dir == 2) && (((gt ps j).Cap == 0) && !(gt ps j).Clock) else ((gt ps j).Dir == 1) && inI (gt ps j).Cap 0 500
def pinsB (ps : List TPin) : Bool := allN (pinB ps) ps.length && (lenB ps 2 5 && namesB (ps.map TPin.Name))
def clkN (ps : List TPin) (j : Nat) : Nat := cntP (fun i => (gt ps i).Clock) j

theorem arePins_ev {ps : List TPin} (h : okL ok_Pin ps) : Ev (fun n => impl_arePins n ps) (pinsB ps) := by
  have hl := h.len
  have hL : Ev (fun n => impl_arePins_L1 ps n ([] : List ByteArray) 0) (bif allN (pinB ps) ps.length then .nxt (ps.map TPin.Name, (ps.length : Int)) else .ret false) := by
    refine loopN (Lf := impl_arePins_L1 ps) (S := fun j => (ps.take j).map TPin.Name) (pinB ps) (fun n => ?_) (fun j hj hp X hX => ?_)
    · simp only [impl_arePins_L1, lt_nat_f (Nat.le_refl _), cond_false, List.take_length]
    · simp only [impl_arePins_L1, lt_nat_t hj, cond_true, idx_gt hj, Option.bind_some, appS_one hj hl, take_succ_gt (g := TPin.Name) hj, lastE hj hl, bne, bnot_bif, within_eq, w64_succ (show j < 9223372036854775807 by omega)]
      generalize hc : pinB ps j = c at hX ⊢
      unfold pinB at hc
      cases hd : decide (j + 1 = ps.length)
      · rw [hd] at hc
        simp only [cond_false] at hc ⊢
        subst hc
        exact Ev.okP (fun h1 => Ev.okP1 (fun h2 => hX (by rw [h1, h2]; rfl)))
      · rw [hd] at hc
        simp only [cond_true] at hc ⊢
        subst hc
        refine Ev.okP (fun h1 => Ev.okP (fun h2 => Ev.chkP1 (fun h3 => hX (by rw [h1, h2, h3]; rfl))))
  unfold impl_arePins pinsB
  refine Ev.bind hL ?_
  cases allN (pinB ps) ps.length
  · exact .done
  · simp only [cond_true, impl_length_impl_Pin, within_eq, Option.bind_some, show inI (ps.length : Int) 2 5 = lenB ps 2 5 from lenB_in (lo := 2) (hi := 5), Bool.true_and]
    exact Ev.andP (fun _ => Ev.last (areNames_ev (okS_map h (fun x hx => hx.Name))))

/-- A check of the reference, one pin. -/
def pinS (ps : List TPin) (j : Nat) : Bool := allN (neB (ps.map TPin.Name) j) j && ((nameB (gt ps j).Name && inI (gt ps j).Cap 0 500) && (bif decide (j + 1 = ps.length) then ((gt ps j).Dir == 2) && (((gt ps j).Cap == 0) && !(gt ps j).Clock) else ((gt ps j).Dir == 1)))

theorem pinS_eq {ps : List TPin} : (lenB ps 2 5 && allN (pinS ps) ps.length) = pinsB ps := by
  have e : namesB (ps.map TPin.Name) = allN (fun j => nameB (gt ps j).Name && allN (neB (ps.map TPin.Name) j) j) ps.length := by
    unfold namesB
    rw [List.length_map]
    exact allN_congr (fun j hj => by rw [strAt_map hj])
  unfold pinsB
  rw [e, ← Bool.and_assoc, Bool.and_comm (allN (pinB ps) ps.length), Bool.and_assoc, ← allN_and]
  congr 1
  refine allN_congr (fun j hj => ?_)
  unfold pinS pinB
  cases hd : decide (j + 1 = ps.length)
  · simp only [cond_false]
    cases allN (neB (ps.map TPin.Name) j) j <;> cases nameB (gt ps j).Name <;> cases inI (gt ps j).Cap 0 500 <;> cases ((gt ps j).Dir == 1) <;> rfl
  · simp only [cond_true]
    cases hcap : ((gt ps j).Cap == 0)
    · simp
    · have : inI (gt ps j).Cap 0 500 = true := by rw [beq_iff_eq] at hcap; rw [hcap]; rfl
      rw [this]
      cases allN (neB (ps.map TPin.Name) j) j <;> cases nameB (gt ps j).Name <;> cases ((gt ps j).Dir == 2) <;> cases (gt ps j).Clock <;> rfl

theorem l03Pins_ev {c : TCell} (h : okL ok_Pin c.Pins) : Ev (fun n => spec_l03Pins n c) (bif pinsB c.Pins then (((clkN c.Pins c.Pins.length : Nat) : Int), true) else (0, false)) := by
  have hl := h.len
  have hL2 : ∀ j, j < c.Pins.length → Ev (fun n => spec_l03Pins_L2 c (j : Int) (gt c.Pins j) n 0) (bif allN (neB (c.Pins.map TPin.Name) j) j then .nxt (j : Int) else .ret (0, false)) := by
    intro j hj
    refine ev_all ?_ (fun i hi X hX => Ev.succ ?_)
    · exact Ev.succ (by simp only [spec_l03Pins_L2, lt_nat_f (Nat.le_refl _), cond_false]; exact .done)
    · simp only [spec_l03Pins_L2, lt_nat_t hi, cond_true, idx_gt (show i < c.Pins.length by omega), Option.bind_some, toList_eq_iff, w64_succ (show i < 9223372036854775807 by omega)]
      unfold neB
      rw [strAt_map (g := TPin.Name) (show i < c.Pins.length by omega), strAt_map (g := TPin.Name) hj]
      exact Ev.chkP1 (fun _ => hX)
  have hL1 : Ev (fun n => spec_l03Pins_L1 c n 0 0) (bif allN (pinS c.Pins) c.Pins.length then .nxt (((clkN c.Pins c.Pins.length : Nat) : Int), (c.Pins.length : Int)) else .ret (0, false)) := by
    refine loopN (Lf := spec_l03Pins_L1 c) (S := fun j => ((clkN c.Pins j : Nat) : Int)) (pinS c.Pins) (fun n => ?_) (fun j hj hp X hX => ?_)
    · simp only [spec_l03Pins_L1, lt_nat_f (Nat.le_refl _), cond_false]
    · have hn : clkN c.Pins j ≤ j := cntP_le
      have ejl : ((j : Int) == W64 ((c.Pins.length : Int) - 1)) = decide (j + 1 = c.Pins.length) := lastE hj hl
      have elt : decide ((j : Int) < W64 ((c.Pins.length : Int) - 1)) = !decide (j + 1 = c.Pins.length) := by
        rw [w64_of (by omega) (by omega), Bool.eq_iff_iff]; simp; omega
      simp only [spec_l03Pins_L1, lt_nat_t hj, cond_true, idx_gt hj, Option.bind_some, w64_succ (show j < 9223372036854775807 by omega), w64_succ (show clkN c.Pins j < 9223372036854775807 by omega), ejl, elt, l01In_eq]
      unfold pinS
      refine Ev.bind (hL2 j hj) ?_
      cases ha : allN (neB (c.Pins.map TPin.Name) j) j
      · exact .done
      · simp only [cond_true, Bool.true_and]
        refine Ev.chkT ?_ (fun h1 => ?_)
        · exact Ev.or (l03Name_ev (gt_ok h hj).Name) (fun _ => .done)
        · refine Ev.chkT1 ?_ (fun h2 => ?_)
          · cases decide (j + 1 = c.Pins.length)
            · exact .done
            · simp only [cond_true, Bool.not_true, cond_false, bne, bnot_bif]
              cases ((gt c.Pins j).Dir == 2) <;> cases ((gt c.Pins j).Cap == 0) <;> cases (gt c.Pins j).Clock <;> exact .done
          · have hX := hX (by unfold pinS; rw [ha, h1, h2]; rfl)
            have hck : clkN c.Pins (j + 1) = clkN c.Pins j + (bif (gt c.Pins j).Clock then 1 else 0) := rfl
            rw [hck] at hX
            cases hc : (gt c.Pins j).Clock
            · rw [hc] at hX; exact Ev.ff rfl hX
            · rw [hc] at hX; exact Ev.tt rfl hX
  rw [← pinS_eq]
  unfold spec_l03Pins
  refine Ev.guard ?_ (fun h1 => ?_)
  · unfold lenB
    have e1 : decide ((c.Pins.length : Int) < 2) = !decide (2 ≤ c.Pins.length) := by rw [Bool.eq_iff_iff]; simp; omega
    have e2 : decide ((c.Pins.length : Int) > 5) = !decide (c.Pins.length ≤ 5) := by rw [Bool.eq_iff_iff]; simp; omega
    rw [e1, e2]
    cases decide (2 ≤ c.Pins.length) <;> cases decide (c.Pins.length ≤ 5) <;> exact .done
  · refine Ev.bind hL1 ?_
    cases allN (pinS c.Pins) c.Pins.length <;> exact .done

/-! ### Lists of tables -/

def mnL (xs : List Int) : Int := (xs.drop 1).foldl (fun m y => if y < m then y else m) (at0 xs 0)
def mxL (xs : List Int) : Int := (xs.drop 1).foldl (fun m y => if y > m then y else m) (at0 xs 0)

theorem tableB_pos {t : TTable} (h : tableB t = true) : 1 ≤ t.Values.length := by
  unfold tableB axisB lenB at h
  simp only [Bool.and_eq_true, decide_eq_true_eq] at h
  obtain ⟨⟨⟨h1, _⟩, _⟩, ⟨⟨h2, _⟩, _⟩, h3, _⟩ := h
  rw [h3]
  exact Nat.mul_pos h1 h2

theorem sMin_ev {xs : List Int} (h1 : 1 ≤ xs.length) (hl : xs.length ≤ 1048576) : Ev (fun n => slices_Min_int64 n xs) (mnL xs) := by
  have hL := (fold_from (Lf := fun n t j => slices_Min_int64_L1 xs n t j) (xs := xs) (step := fun (m y : Int) => if y < m then y else m) (fin := fun t => (t, (xs.length : Int))) 1 (at0 xs 0) (fun _ _ => True) h1 trivial (fun _ _ _ _ => trivial)
    (fun n t => by simp only [slices_Min_int64_L1, lt_nat_f (Nat.le_refl _), cond_false])
    (fun j t hj _ X hX => by simpa only [slices_Min_int64_L1, lt_nat_t hj, cond_true, idx_lt hj, Option.bind_some, w64_succ (show j < 9223372036854775807 by omega)] using hX)).1
  unfold slices_Min_int64
  rw [show decide ((xs.length : Int) < 1) = false by simp; omega, show idx xs (0 : Int) = some (at0 xs 0) from idx_at0 (j := 0) (by omega)]
  simp only [cond_false, Option.bind_some]
  exact Ev.bind hL .done

theorem tBounds_ev {t : TTable} (h : ok_Table t) : Ev (fun n => spec_TableBounds n t) (bif tableB t then (⟨mnL t.Values, mxL t.Values⟩, 0) else (⟨0, 0⟩, 1)) := by
  unfold spec_TableBounds
  refine Ev.chk1 (sIsTable_ev h) (fun hb => ?_)
  have h1 := tableB_pos hb
  have hl := h.Values.len
  have hL := (fold_from (Lf := fun n (t' : Int × Int) j => spec_TableBounds_L1 t n t'.1 t'.2 j) (xs := t.Values) (step := fun (m : Int × Int) y => (if y < m.1 then y else m.1, if y > m.2 then y else m.2)) (fin := fun t' => (t'.1, t'.2, (t.Values.length : Int))) 1 (at0 t.Values 0, at0 t.Values 0) (fun _ _ => True) h1 trivial (fun _ _ _ _ => trivial)
    (fun n t => by simp only [spec_TableBounds_L1, lt_nat_f (Nat.le_refl _), cond_false])
    (fun j t hj _ X hX => by simpa only [spec_TableBounds_L1, lt_nat_t hj, cond_true, idx_lt hj, Option.bind_some, w64_succ (show j < 9223372036854775807 by omega)] using hX)).1
  have hf : ∀ (ys : List Int) (a b : Int), ys.foldl (fun (m : Int × Int) y => (if y < m.1 then y else m.1, if y > m.2 then y else m.2)) (a, b) = (ys.foldl (fun m y => if y < m then y else m) a, ys.foldl (fun m y => if y > m then y else m) b) := by
    intro ys
    induction ys with
    | nil => intro a b; rfl
    | cons y ys ih => intro a b; simp only [List.foldl_cons, ih]
  rw [hf] at hL
  rw [show idx t.Values (0 : Int) = some (at0 t.Values 0) from idx_at0 (j := 0) (by omega)]
  simp only [Option.bind_some]
  exact Ev.bind hL .done

def tabB (pos : Bool) (t : TTable) : Bool := tableB t && (!pos || decide (0 ≤ mnL t.Values))
def tablesB (ts : List TTable) (pos : Bool) : Bool := decide (ts.length = 2) && ts.all (tabB pos)

theorem areTables_ev {ts : List TTable} {pos : Bool} (h : okL ok_Table ts) : Ev (fun n => impl_areTables n ts pos) (tablesB ts pos) := by
  have hl := h.len
  have h1 : Ev (fun n => slices_IndexFunc_impl_Table_impl_areTables_1 n ts pos) (ixL (fun x => !tabB pos x) ts) :=
    index_ev (fin := (ts.length : Int)) (Lf := slices_IndexFunc_impl_Table_impl_areTables_1_L1 ts pos) (pf := fun n x => impl_areTables_1 n x pos) (fun x hx => by
        unfold impl_areTables_1 tabB
        refine Ev.or (IsTable_ev (h.2 x hx)) (fun hb => ?_)
        cases pos
        · exact .done
        · refine Ev.tt rfl (Ev.bind (sMin_ev (tableB_pos hb) (h.2 x hx).Values.len) (Ev.now ?_))
          congr 1
          rw [Bool.eq_iff_iff]; simp)
      (fun n => by simp only [slices_IndexFunc_impl_Table_impl_areTables_1_L1, lt_nat_f (Nat.le_refl _), cond_false])
      (fun n j x hx => by
        have hj := (List.getElem?_eq_some_iff.1 hx).1
        simp only [slices_IndexFunc_impl_Table_impl_areTables_1_L1, lt_nat_t hj, cond_true, idx_at hx, Option.bind_some, w64_succ (show j < 9223372036854775807 by omega)])
      (fun n => by unfold slices_IndexFunc_impl_Table_impl_areTables_1; congr 1; funext o; cases o <;> rfl)
  unfold impl_areTables slices_ContainsFunc_impl_Table_impl_areTables_1 tablesB
  rw [show ((ts.length : Int) == 2) = decide (ts.length = 2) by rw [Bool.eq_iff_iff]; simp; omega]
  refine Ev.andP (fun _ => Ev.bind (Ev.bind h1 (Ev.now rfl)) (Ev.now ?_))
  rw [ixL_ge, not_any]

theorem l03Tables_ev {ts : List TTable} {pos : Bool} (h : okL ok_Table ts) : Ev (fun n => spec_l03Tables n ts pos) (tablesB ts pos) := by
  unfold spec_l03Tables tablesB
  rw [show ((ts.length : Int) != 2) = !decide (ts.length = 2) by rw [Bool.eq_iff_iff]; simp; omega]
  simp only [bnot_bif]
  refine Ev.andP (fun h2 => ?_)
  have h2 : ts.length = 2 := by simpa using h2
  have hL : Ev (fun n => spec_l03Tables_L1 ts pos n 0) (bif allN (fun j => tabB pos (gt ts j)) ts.length then .nxt (2 : Int) else .ret false) := by
    refine ev_all (len := ts.length) ?_ (fun j hj X hX => Ev.succ ?_)
    · rw [h2]; exact Ev.succ (by simp only [spec_l03Tables_L1]; exact .done)
    · simp only [spec_l03Tables_L1, show decide ((j : Int) < 2) = true by simp; omega, cond_true, idx_gt hj, Option.bind_some, w64_succ (show j < 9223372036854775807 by omega)]
      refine Ev.bind (tBounds_ev (gt_ok h hj)) ?_
      unfold tabB
      cases tableB (gt ts j)
      · exact .done
      · simp only [cond_true, Bool.true_and]
        refine Ev.ff rfl ?_
        cases pos
        · exact hX
        · refine Ev.tt rfl ?_
          rw [show decide (mnL (gt ts j).Values < 0) = !decide (0 ≤ mnL (gt ts j).Values) by rw [Bool.eq_iff_iff]; simp]
          simp only [bnot_bif]
          exact Ev.okP1 (fun _ => hX)
  rw [all_gt]
  refine Ev.bind hL ?_
  cases allN (fun j => tabB pos (gt ts j)) ts.length <;> exact .done
end Go.Fw
