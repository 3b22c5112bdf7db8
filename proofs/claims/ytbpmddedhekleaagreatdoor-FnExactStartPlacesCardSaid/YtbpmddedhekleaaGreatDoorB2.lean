/- Plain laws: names of the program, tables, arcs. -/
import Derived.Test.YtbpmddedhekleaaGreatDoorB1
namespace Go.Fw
open Go
set_option maxRecDepth 100000

theorem bt_eq {s : ByteArray} {j : Nat} (h : j < s.data.toList.length) : bt s j = (s.data.toList[j]).toNat := by
  unfold bt; rw [List.getD_eq_getElem?_getD, List.getElem?_eq_getElem h]; rfl
theorem bt_lt {s : ByteArray} {j : Nat} : bt s j < 256 := UInt8.toNat_lt _

theorem isName_eq {n : Nat} {s : ByteArray} (h : okS s) : impl_isName n s = some (nameB s) := by
  unfold okS at h
  have hl : s.data.toList.length = s.size := by simp
  simp only [impl_isName, within_eq, Option.bind_some]
  cases hI : inI (s.size : Int) 1 8 with
  | false =>
    have hs : (decide (1 ≤ s.size) && decide (s.size ≤ 8)) = false := by rw [inI_false] at hI; rw [Bool.and_eq_false_iff, decide_eq_false_iff_not, decide_eq_false_iff_not]; omega
    simp [nameB, hs]
  | true =>
    have hs : 1 ≤ s.size ∧ s.size ≤ 8 := by rw [inI_iff] at hI; omega
    have hT : strings_Trim n s (⟨#[97, 98, 99, 100, 101, 102, 103, 104, 105, 106, 107, 108, 109, 110, 111, 112, 113, 114, 115, 116, 117, 118, 119, 120, 121, 122, 48, 49, 50, 51, 52, 53, 54, 55, 56, 57]⟩ : ByteArray) = some ⟨(Lib.trimS s.data.toList cutset).toArray⟩ := by
      unfold strings_Trim
      rw [if_pos ⟨by omega, by decide, by decide⟩]
      rfl
    rw [hT]
    simp only [cond_true, Option.bind_some]
    have hE : (((⟨(Lib.trimS s.data.toList cutset).toArray⟩ : ByteArray).toList == (⟨#[]⟩ : ByteArray).toList)) = allN (fun j => letB (bt s j) || digB (bt s j)) s.size := by
      rw [toList_eq_iff, Bool.eq_iff_iff, decide_eq_true_iff, allN_iff]
      have : ((⟨(Lib.trimS s.data.toList cutset).toArray⟩ : ByteArray) = ⟨#[]⟩) ↔ Lib.trimS s.data.toList cutset = [] := by
        constructor
        · intro he
          have := congrArg (fun x : ByteArray => x.data.toList) he
          simpa using this
        · intro he; rw [he]
      rw [this, trim_nil]
      constructor
      · intro hx j hj
        have hj' : j < s.data.toList.length := by omega
        have := hx _ (List.getElem_mem hj')
        rw [cutset_mem, ← bt_eq hj'] at this
        exact this
      · intro hx x hm
        obtain ⟨j, hj, rfl⟩ := List.getElem_of_mem hm
        have := hx j (by omega)
        rw [cutset_mem, ← bt_eq hj]
        exact this
    rw [hE]
    have h0 : atS s 0 = some (bt s 0 : Int) := atS_at (j := 0) (by omega)
    have hI2 : decide (Lib.indexByte letters (bt s 0 : Int).toNat.toUInt8 ≥ 0) = letB (bt s 0) := by
      rw [Int.toNat_natCast]; exact letters_ix _ bt_lt
    have hF : ∀ b : Bool, (bif b then (atS s 0).bind fun y1 => (strings_IndexByte n (⟨#[97, 98, 99, 100, 101, 102, 103, 104, 105, 106, 107, 108, 109, 110, 111, 112, 113, 114, 115, 116, 117, 118, 119, 120, 121, 122]⟩ : ByteArray) (⟨y1⟩ : IntK .u8)).bind fun r3 => some (decide (r3 ≥ 0)) else some false) = some (b && letB (bt s 0)) := by
      intro b
      cases b with
      | false => rfl
      | true =>
        rw [h0]
        simp only [cond_true, Option.bind_some, strings_IndexByte, Bool.true_and]
        exact congrArg some hI2
    rw [hF]
    congr 1
    have hs' : (decide (1 ≤ s.size) && decide (s.size ≤ 8)) = true := by simp [hs]
    unfold nameB
    rw [hs', Bool.true_and, Bool.eq_iff_iff, Bool.and_eq_true, allN_iff, allN_iff]
    simp only [chB, Bool.or_eq_true, Bool.and_eq_true, decide_eq_true_eq]
    constructor
    · rintro ⟨h1, h2⟩ j hj
      rcases Nat.eq_zero_or_pos j with rfl | hp
      · exact .inl h2
      · exact (h1 j hj).imp id (fun h => ⟨h, hp⟩)
    · intro h1
      refine ⟨fun j hj => (h1 j hj).imp id (fun h => h.1), ?_⟩
      rcases h1 0 (by omega) with h2 | h2
      · exact h2
      · omega

/-! ### Lists of names -/

def strAt (xs : List ByteArray) (j : Nat) : ByteArray := xs.getD j ByteArray.empty
theorem strAt_eq {xs : List ByteArray} {j : Nat} (h : j < xs.length) : strAt xs j = xs[j] := by simp [strAt, h]
theorem idx_str {xs : List ByteArray} {j : Nat} (h : j < xs.length) : idx xs (j : Int) = some (strAt xs j) := by rw [idx_lt h, strAt_eq h]
def neB (xs : List ByteArray) (j i : Nat) : Bool := !decide (strAt xs i = strAt xs j)
def namesB (xs : List ByteArray) : Bool := allN (fun j => nameB (strAt xs j) && allN (neB xs j) j) xs.length

theorem l05Names_ev {xs : List ByteArray} (h : okL okS xs) : Ev (fun n => spec_l05Names n xs) (namesB xs) := by
  have hl := h.len
  have hL2 : ∀ j, j < xs.length → Ev (fun n => spec_l05Names_L2 xs (j : Int) n 0) (bif allN (neB xs j) j then .nxt (j : Int) else .ret false) := by
    intro j hj
    refine ev_all ?_ (fun i hi X hX => Ev.succ ?_)
    · exact Ev.succ (by simp only [spec_l05Names_L2, lt_nat_f (Nat.le_refl _), cond_false]; exact .done)
    · simp only [spec_l05Names_L2, lt_nat_t hi, cond_true, idx_str (show i < xs.length by omega), idx_str hj, Option.bind_some, toList_eq_iff, w64_succ (show i < 9223372036854775807 by omega)]
      unfold neB
      cases decide (strAt xs i = strAt xs j)
      · exact hX
      · exact .done
  have hL1 : Ev (fun n => spec_l05Names_L1 xs n 0) (bif namesB xs then .nxt (xs.length : Int) else .ret false) := by
    refine ev_all ?_ (fun j hj X hX => Ev.succ ?_)
    · exact Ev.succ (by simp only [spec_l05Names_L1, lt_nat_f (Nat.le_refl _), cond_false]; exact .done)
    · simp only [spec_l05Names_L1, lt_nat_t hj, cond_true, idx_str hj, Option.bind_some, w64_succ (show j < 9223372036854775807 by omega)]
      refine Ev.bind (l03Name_ev (by rw [strAt_eq hj]; exact h.at hj)) ?_
      cases nameB (strAt xs j)
      · exact .done
      · refine Ev.ff rfl (Ev.bind (hL2 j hj) ?_)
        cases allN (neB xs j) j
        · exact .done
        · exact hX
  unfold spec_l05Names
  refine Ev.bind hL1 ?_
  cases namesB xs <;> exact .done

theorem strIndex_ev {xs : List ByteArray} {v : ByteArray} (hl : xs.length ≤ 1048576) : Ev (fun n => slices_Index_string n xs v) (ixL (fun x => decide (v = x)) xs) :=
  index_ev (fin := (xs.length : Int)) (Lf := slices_Index_string_L1 xs v) (pf := fun _ x => some (decide (v = x))) (fun _ _ => .done)
    (fun n => by simp only [slices_Index_string_L1, lt_nat_f (Nat.le_refl _), cond_false])
    (fun n j x hx => by
      have hj := (List.getElem?_eq_some_iff.1 hx).1
      simp only [slices_Index_string_L1, lt_nat_t hj, cond_true, idx_at hx, Option.bind_some, toList_eq_iff, w64_succ (show j < 9223372036854775807 by omega)])
    (fun n => by unfold slices_Index_string; congr 1; funext o; cases o <;> rfl)

theorem strContains_ev {xs : List ByteArray} {v : ByteArray} (hl : xs.length ≤ 1048576) : Ev (fun n => slices_Contains_string n xs v) (xs.any fun x => decide (v = x)) := by
  unfold slices_Contains_string
  exact Ev.bind (strIndex_ev hl) (Ev.now (by rw [ixL_ge]))

theorem areNames_ev {xs : List ByteArray} (h : okL okS xs) : Ev (fun n => impl_areNames n xs) (namesB xs) := by
  have hl := h.len
  have hL1 : Ev (fun n => impl_areNames_L1 xs n 0) (bif namesB xs then .nxt (xs.length : Int) else .ret false) := by
    refine ev_all ?_ (fun j hj X hX => Ev.succ ?_)
    · exact Ev.succ (by simp only [impl_areNames_L1, lt_nat_f (Nat.le_refl _), cond_false]; exact .done)
    · have hs : subS xs 0 (j : Int) = some (xs.take j) := by
        unfold subS
        rw [if_pos ⟨by omega, by omega, by omega⟩]
        simp
      simp only [impl_areNames_L1, lt_nat_t hj, cond_true, idx_str hj, Option.bind_some, hs, isName_eq (show okS (strAt xs j) by rw [strAt_eq hj]; exact h.at hj), w64_succ (show j < 9223372036854775807 by omega)]
      cases nameB (strAt xs j)
      · exact .done
      · refine Ev.ff rfl (Ev.bind (strContains_ev (by simp; omega)) ?_)
        have : ((xs.take j).any fun x => decide (strAt xs j = x)) = !allN (neB xs j) j := by
          rw [any_allN (d := ByteArray.empty)]
          congr 1
          rw [List.length_take, Nat.min_eq_left (by omega)]
          refine allN_congr (fun i hi => ?_)
          unfold neB strAt
          congr 1
          have : (xs.take j).getD i ByteArray.empty = xs.getD i ByteArray.empty := by simp [List.getD_eq_getElem?_getD, List.getElem?_take, hi]
          rw [this]
          exact decide_eq_decide.2 eq_comm
        rw [this]
        cases allN (neB xs j) j
        · exact .done
        · exact hX
  unfold impl_areNames
  refine Ev.bind hL1 ?_
  cases namesB xs <;> exact .done
end Go.Fw
