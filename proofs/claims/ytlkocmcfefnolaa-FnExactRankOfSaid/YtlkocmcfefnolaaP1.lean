import Derived.Test.YtlkocmcfefnolaaA1
import Derived.Test.YtlkocmcfefnolaaFw12
namespace Go.Fw
open Go

theorem sz_int64S {a : List Int} {left : Int} (h : rngL rngI a) (h0 : 0 ≤ left) (h1 : left ≤ 1048576) : Sz (fun n => laws_szInt64S n a left) (fun r => r = left - a.length) :=
  Sz.less h0 h1 (by omega) (by have := h.1; omega) (fun _ => rfl)

theorem to_int64S_L {a : List Int} (ha : a.length ≤ 1048576) : ∀ (k j : Nat) (x : List Int), j + k = a.length → x.length = a.length → (∀ i, i < j → x[i]? = a[i]?) → Ev (fun n => laws_toInt64S_L1 a n x (j : Int)) (a, (a.length : Int)) := by
  intro k
  induction k with
  | zero =>
    intro j x hj hl hx
    refine Ev.succ ?_
    simp only [laws_toInt64S_L1]
    refine Ev.ff (lt_nat_f (by omega)) ?_
    have : x = a := by
      refine List.ext_getElem? fun i => ?_
      by_cases hi : i < j
      · exact hx i hi
      · rw [List.getElem?_eq_none (by omega), List.getElem?_eq_none (by omega)]
    subst this
    rw [show j = x.length by omega]
    exact .done
  | succ k ih =>
    intro j x hj hl hx
    refine Ev.succ ?_
    simp only [laws_toInt64S_L1]
    refine Ev.tt (lt_nat_t (by omega)) ?_
    refine Ev.bindN (idx_nat (by omega)) ?_
    refine Ev.bindN (idx_nat (by omega)) ?_
    rw [w64_succ (by omega)]
    refine ih (j + 1) _ (by omega) (by simp [setS, hl]) (fun i hi => ?_)
    simp only [setS, Int.toNat_natCast]
    by_cases h : i = j
    · subst h
      rw [List.getElem?_set_self (by omega), List.getElem?_eq_getElem (by omega)]
    · rw [List.getElem?_set_ne (fun e => h e.symm)]
      exact hx i (by omega)

theorem to_int64S {a : List Int} (ha : a.length ≤ 1048576) : Ev (fun n => laws_toInt64S n a) a := by
  unfold laws_toInt64S
  have hm : mkS (a.length : Int) (0 : Int) = some (List.replicate a.length 0) := by
    unfold mkS big
    rw [if_pos ⟨by omega, by omega⟩]
    simp
  refine Ev.bindN hm ?_
  refine Ev.bind (to_int64S_L ha a.length 0 _ (by omega) (by simp) (fun i hi => by omega)) ?_
  exact .done

theorem eq_int64S_L {a : List Int} (ha : a.length ≤ 1048576) : ∀ (k j : Nat), j + k = a.length → Ev (fun n => laws_eqInt64S_L1 a a n (j : Int)) (.nxt (a.length : Int)) := by
  intro k
  induction k with
  | zero =>
    intro j hj
    refine Ev.succ ?_
    simp only [laws_eqInt64S_L1]
    refine Ev.ff (lt_nat_f (by omega)) ?_
    rw [show j = a.length by omega]
    exact .done
  | succ k ih =>
    intro j hj
    refine Ev.succ ?_
    simp only [laws_eqInt64S_L1]
    refine Ev.tt (lt_nat_t (by omega)) ?_
    refine Ev.bindN (idx_nat (by omega)) ?_
    refine Ev.bindN (idx_nat (by omega)) ?_
    refine Ev.ff (by simp) ?_
    rw [w64_succ (by omega)]
    exact ih (j + 1) (by omega)

theorem eq_int64S {a : List Int} (ha : a.length ≤ 1048576) : Ev (fun n => laws_eqInt64S n a a) true := by
  unfold laws_eqInt64S
  refine Ev.ff (by simp) ?_
  exact Ev.bind (eq_int64S_L ha a.length 0 (by omega)) .done


def rngExc (e : TException) : Prop := rngI e.Kind ∧ rngI e.Value ∧ rngL rngI e.From ∧ rngL rngI e.Through ∧ rngL rngI e.To

theorem sz_exception {e : TException} (h : rngExc e) : Sz (fun n => laws_szException n e 1048576) (fun _ => e.From.length ≤ 1048576 ∧ e.Through.length ≤ 1048576 ∧ e.To.length ≤ 1048576) := by
  obtain ⟨_, _, h1, h2, h3⟩ := h
  refine Sz.step (sz_int64S h1 (by omega) (by omega)) (fun r1 p1 q1 => Sz.step (sz_int64S h2 (by omega) (by omega)) (fun r2 p2 q2 => Sz.step (sz_int64S h3 (by omega) (by omega)) (fun r3 p3 q3 => Sz.done p3 (by omega))))

theorem to_exception {e : TException} (h1 : e.From.length ≤ 1048576) (h2 : e.Through.length ≤ 1048576) (h3 : e.To.length ≤ 1048576) : Ev (fun n => laws_toException n e) e := by
  unfold laws_toException
  exact Ev.bind (to_int64S h1) (Ev.bind (to_int64S h2) (Ev.bind (to_int64S h3) .done))

theorem eq_exception {e : TException} (h1 : e.From.length ≤ 1048576) (h2 : e.Through.length ≤ 1048576) (h3 : e.To.length ≤ 1048576) : Ev (fun n => laws_eqException n e e) true := by
  unfold laws_eqException
  refine Ev.ff (by simp) (Ev.ff (by simp) (Ev.bind (eq_int64S h1) (Ev.ff rfl (Ev.bind (eq_int64S h2) (Ev.ff rfl (Ev.bind (eq_int64S h3) (Ev.ff rfl .done)))))))

theorem pos_len (xs : List Int) : decide ((xs.length : Int) > 0) = !xs.isEmpty := by cases xs <;> simp

theorem rank_spec (e : TException) : Ev (fun n => spec_RankOf n e) ((if e.From.isEmpty then 0 else 4) + (if e.To.isEmpty then 0 else 2) + (if e.Through.isEmpty then 0 else 1)) := by
  unfold spec_RankOf
  simp only [pos_len]
  cases e.From.isEmpty <;> cases e.To.isEmpty <;> cases e.Through.isEmpty <;> exact .now (by decide)

theorem rank_impl (e : TException) : Ev (fun n => impl_RankOf n e) ((if e.From.isEmpty then 0 else 4) + (if e.To.isEmpty then 0 else 2) + (if e.Through.isEmpty then 0 else 1)) := by
  unfold impl_RankOf
  refine ⟨4, fun n hn => ?_⟩
  obtain ⟨m, rfl⟩ : ∃ m, n = m + 4 := ⟨n - 4, by omega⟩
  simp only [impl_RankOf_L1]
  have i0 : idx ([e.Through, e.To, e.From] : List (List Int)) 0 = some e.Through := rfl
  have i1 : idx ([e.Through, e.To, e.From] : List (List Int)) (W64 (0 + 1)) = some e.To := rfl
  have i2 : idx ([e.Through, e.To, e.From] : List (List Int)) (W64 (W64 (0 + 1) + 1)) = some e.From := rfl
  simp only [i0, i1, i2, pos_len, Option.bind_some]
  cases e.From.isEmpty <;> cases e.To.isEmpty <;> cases e.Through.isEmpty <;> rfl

theorem law_rankOf {e : TException} (h : rngExc e) : Ev (fun n => laws_FnExactRankOf n e) true := by
  unfold laws_FnExactRankOf
  refine Sz.gate (sz_exception h) (fun _ _ hq => ?_)
  obtain ⟨h1, h2, h3⟩ := hq
  refine Ev.bind (to_exception h1 h2 h3) (Ev.bind (rank_spec e) (Ev.bind (to_exception h1 h2 h3) (Ev.bind (rank_impl e) (Ev.ff (by simp) ?_))))
  exact Ev.bind (to_exception h1 h2 h3) (Ev.bind (eq_exception h1 h2 h3) (Ev.ff rfl .done))

end Go.Fw
