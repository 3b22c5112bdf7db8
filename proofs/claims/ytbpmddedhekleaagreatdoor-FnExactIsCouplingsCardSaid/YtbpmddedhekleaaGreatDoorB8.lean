/- Plain laws: couplings; the law. -/
import Derived.Test.YtbpmddedhekleaaGreatDoorB7
import Derived.Test.YtbpmddedhekleaaGreatDoorCL
namespace Go.Fw
open Go
set_option maxRecDepth 100000

instance : Inhabited TCoupling := ⟨⟨0, 0, 0⟩⟩

theorem blockB_design {b : TBlock} (h : blockB b = true) : designB b.Library b.Design = true := by
  unfold blockB at h; simp only [Bool.and_eq_true] at h; exact h.1.1

def cplB (b : TBlock) (y : TCoupling) : Bool := netB b.Design y.A && (netB b.Design y.B && (decide (y.A < y.B) && inI y.Delta 1 10000))
def ltC (x y : TCoupling) : Bool := decide (x.A < y.A) || ((x.A == y.A) && decide (x.B < y.B))
def cplsB (b : TBlock) (ks : List TCoupling) : Bool := allN (fun j => cplB b (gt ks j) && (decide (j = 0) || ltC (gt ks (j - 1)) (gt ks j))) ks.length && decide (ks.length ≤ 20)

def cmp3 (x y : Int) : Int := if x < y then -1 else if x > y then 1 else 0
theorem cmp_eq {n : Nat} {x y : Int} : cmp_Compare_int64 n x y = some (cmp3 x y) := by
  simp only [cmp_Compare_int64, cmp_isNaN_int64, bne_self_eq_false, Option.bind_some, cond_false]
  unfold cmp3
  by_cases h1 : x < y
  · simp [h1]
  · by_cases h2 : x > y
    · simp [h1, h2]
    · simp [h1, h2]
theorem or3 {x y : Int} {n : Nat} : cmp_Or_int_L1 [x, y] (n + 3) 0 = bif x != 0 then some (.ret x) else bif y != 0 then some (.ret y) else some (.nxt 2) := rfl
theorem or_ev {x y : Int} : Ev (fun n => cmp_Or_int n [x, y]) (if x = 0 then y else x) := by
  unfold cmp_Or_int
  refine Ev.bind (b := bif x != 0 then .ret x else bif y != 0 then .ret y else .nxt 2) (Ev.succ (Ev.succ (Ev.succ ?_))) ?_
  · refine ⟨0, fun n _ => ?_⟩
    show cmp_Or_int_L1 [x, y] (n + 3) 0 = _
    rw [or3]
    cases (x != 0) <;> cases (y != 0) <;> rfl
  · by_cases h1 : x = 0
    · subst h1
      by_cases h2 : y = 0
      · subst h2; exact .done
      · have : (y != 0) = true := by simpa using h2
        rw [this]; exact .done
    · have : (x != 0) = true := by simpa using h1
      rw [this, if_neg h1]; exact .done

theorem cmp_ge {x y : TCoupling} : decide ((if cmp3 x.A y.A = 0 then cmp3 x.B y.B else cmp3 x.A y.A) ≥ 0) = !ltC x y := by
  unfold cmp3 ltC
  by_cases h1 : x.A < y.A
  · simp [h1]
  · by_cases h2 : x.A > y.A
    · have : ¬ x.A = y.A := by omega
      simp [h1, h2, this]
    · have : x.A = y.A := by omega
      rw [this]
      by_cases h3 : x.B < y.B
      · simp [h3]
      · by_cases h4 : x.B > y.B
        · simp [h3, h4]
        · simp [h3, h4]

theorem areCouplings_ev {b : TBlock} {ks : List TCoupling} (hn : b.Design.Nets.length ≤ 1048576) (hl : ks.length ≤ 1048576) : Ev (fun n => impl_Block_areCouplings n b ks) (cplsB b ks) := by
  have hL : Ev (fun n => impl_Block_areCouplings_L1 b ks n 0) (bif allN (fun j => cplB b (gt ks j) && (decide (j = 0) || ltC (gt ks (j - 1)) (gt ks j))) ks.length then .nxt (ks.length : Int) else .ret false) := by
    refine ev_all ?_ (fun j hj X hX => Ev.succ ?_)
    · exact Ev.succ (by simp only [impl_Block_areCouplings_L1, lt_nat_f (Nat.le_refl _), cond_false]; exact .done)
    · simp only [impl_Block_areCouplings_L1, lt_nat_t hj, cond_true, idx_gt hj, Option.bind_some, w64_succ (show j < 9223372036854775807 by omega), isNet_eq (d := ⟨b.Design.Instances, b.Design.Nets, b.Design.Ports⟩) hn, within_eq, cmp_eq, bnot_bif]
      refine Ev.chkT ?_ fun _ => ?_
      · unfold cplB
        refine Ev.orBP fun _ => Ev.orBP fun _ => ?_
        rw [show decide ((gt ks j).A ≥ (gt ks j).B) = !decide ((gt ks j).A < (gt ks j).B) by rw [Bool.eq_iff_iff]; simp, bnot_bif]
        exact Ev.orBP fun _ => .done
      · by_cases h0 : j = 0
        · subst h0
          exact Ev.ff (by decide) hX
        · have e2 : decide (j = 0) = false := by simp; omega
          have e3 : decide ((j : Int) > 0) = true := by simp; omega
          rw [e2, e3, w64_pred (show j ≤ 9223372036854775807 by omega), show (j : Int) - 1 = ((j - 1 : Nat) : Int) by omega, idx_gt (show j - 1 < ks.length by omega)]
          simp only [cond_true, Option.bind_some, Bool.false_or]
          refine Ev.bind or_ev ?_
          rw [cmp_ge]
          simp only [bnot_bif]
          exact Ev.okP1 fun _ => hX
  unfold impl_Block_areCouplings cplsB
  refine Ev.bind hL ?_
  cases allN (fun j => cplB b (gt ks j) && (decide (j = 0) || ltC (gt ks (j - 1)) (gt ks j))) ks.length
  · exact .done
  · refine Ev.now ?_
    show some (decide ((ks.length : Int) ≤ ((20 : Nat) : Int))) = some (true && decide (ks.length ≤ 20))
    rw [le_natB, Bool.true_and]

theorem l19Couplings_ev {b : TBlock} {ks : List TCoupling} (hn : b.Design.Nets.length ≤ 1048576) (hl : ks.length ≤ 1048576) : Ev (fun n => spec_l19Couplings n b ks) (cplsB b ks) := by
  have hL : Ev (fun n => spec_l19Couplings_L1 b ks n 0) (bif allN (fun j => cplB b (gt ks j) && (decide (j = 0) || ltC (gt ks (j - 1)) (gt ks j))) ks.length then .nxt (ks.length : Int) else .ret false) := by
    refine ev_all ?_ (fun j hj X hX => Ev.succ ?_)
    · exact Ev.succ (by simp only [spec_l19Couplings_L1, lt_nat_f (Nat.le_refl _), cond_false]; exact .done)
    · simp only [spec_l19Couplings_L1, lt_nat_t hj, cond_true, idx_gt hj, Option.bind_some, w64_succ (show j < 9223372036854775807 by omega), l01Net_eq hn, l01In_eq, w64_pred (show b.Design.Nets.length ≤ 9223372036854775807 by omega)]
      rw [show inI (gt ks j).A 0 ((b.Design.Nets.length : Int) - 1) = netB b.Design (gt ks j).A from rfl]
      refine Ev.chkT ?_ fun _ => ?_
      · unfold cplB
        simp only [bnot_bif]
        refine Ev.orBP fun hA => ?_
        have hA' : 0 ≤ (gt ks j).A ∧ (gt ks j).A ≤ (b.Design.Nets.length : Int) - 1 := inI_iff.1 hA
        rw [w64_of (show -9223372036854775808 ≤ (gt ks j).A + 1 by omega) (by omega)]
        rw [← Bool.and_assoc]
        have e : inI (gt ks j).B ((gt ks j).A + 1) ((b.Design.Nets.length : Int) - 1) = (netB b.Design (gt ks j).B && decide ((gt ks j).A < (gt ks j).B)) := by
          unfold netB inI
          rw [Bool.eq_iff_iff]; simp; omega
        rw [e]
        exact Ev.orBP fun _ => .done
      · by_cases h0 : j = 0
        · subst h0
          exact Ev.ff (by decide) hX
        · have e2 : decide (j = 0) = false := by simp; omega
          have e3 : decide ((j : Int) > 0) = true := by simp; omega
          rw [e2, e3, w64_pred (show j ≤ 9223372036854775807 by omega), show (j : Int) - 1 = ((j - 1 : Nat) : Int) by omega, idx_gt (show j - 1 < ks.length by omega)]
          simp only [cond_true, Option.bind_some, Bool.false_or]
          unfold ltC
          by_cases h1 : (gt ks (j - 1)).A > (gt ks j).A
          · have h2 : ¬ (gt ks (j - 1)).A < (gt ks j).A := by omega
            have h3 : ¬ (gt ks (j - 1)).A = (gt ks j).A := by omega
            simp only [h1, h2, h3, decide_true, decide_false, cond_true, Bool.false_or, beq_eq_false_iff_ne.2 h3, Bool.false_and, cond_false]
            exact .done
          · by_cases h3 : (gt ks (j - 1)).A = (gt ks j).A
            · have h2 : ¬ (gt ks (j - 1)).A < (gt ks j).A := by omega
              simp only [h1, h2, decide_false, cond_false, Bool.false_or, beq_iff_eq.2 h3, cond_true, Bool.true_and]
              rw [show decide ((gt ks (j - 1)).B ≥ (gt ks j).B) = !decide ((gt ks (j - 1)).B < (gt ks j).B) by rw [Bool.eq_iff_iff]; simp]
              simp only [bnot_bif]
              exact Ev.okP1 fun _ => hX
            · have h2 : (gt ks (j - 1)).A < (gt ks j).A := by omega
              simp only [h1, h2, decide_false, decide_true, cond_false, beq_eq_false_iff_ne.2 h3, Bool.true_or, cond_true]
              exact hX
  unfold spec_l19Couplings cplsB
  refine Ev.bind hL ?_
  cases allN (fun j => cplB b (gt ks j) && (decide (j = 0) || ltC (gt ks (j - 1)) (gt ks j))) ks.length
  · exact .done
  · refine Ev.now ?_
    show some (decide ((ks.length : Int) ≤ ((20 : Nat) : Int))) = some (true && decide (ks.length ≤ 20))
    rw [le_natB, Bool.true_and]

def isCplB (b : TBlock) (ks : List TCoupling) : Bool := blockB b && cplsB b ks
theorem IsCouplings_ev {b : TBlock} {ks : List TCoupling} (h : ok_Block b) (hl : ks.length ≤ 1048576) : Ev (fun n => impl_IsCouplings n b ks) (isCplB b ks) := by
  unfold impl_IsCouplings
  exact Ev.and (IsBlock_ev h) fun _ => Ev.last (areCouplings_ev h.Design.Nets.len hl)
theorem sIsCouplings_ev {b : TBlock} {ks : List TCoupling} (h : ok_Block b) (hl : ks.length ≤ 1048576) : Ev (fun n => spec_IsCouplings n b ks) (isCplB b ks) := by
  unfold spec_IsCouplings
  exact Ev.and (sIsBlock_ev h) fun _ => Ev.last (l19Couplings_ev h.Design.Nets.len hl)

theorem law_IsCouplings {b : TBlock} {ks : List TCoupling} (hb : rng_Block b) (hk : (rngL rng_Coupling) ks) : Ev (fun n => laws_FnExactIsCouplings n b ks) true := by
  unfold laws_FnExactIsCouplings
  obtain ⟨r1, e1, q1⟩ := sz_Block (a := b) (left := 1048576) hb (by omega) (by omega)
  refine Ev.bind e1 ?_
  rcases q1 with q1 | ⟨p1, q1⟩
  · exact Ev.tt (by simpa using q1) .done
  · refine Ev.ff (by simp; omega) ?_
    obtain ⟨r2, e2, q2⟩ := sz_CouplingS (a := ks) (left := r1) hk p1 (by omega)
    refine Ev.bind e2 ?_
    rcases q2 with q2 | ⟨p2, q2⟩
    · exact Ev.tt (by simpa using q2) .done
    · refine Ev.ff (by simp; omega) ?_
      have wb : w_Block b ≤ 1048576 := by omega
      have wk : w_CouplingS ks ≤ 1048576 := by omega
      have hok := okof_Block hb wb
      have hl : ks.length ≤ 1048576 := by simp only [w_CouplingS] at wk; omega
      exact Ev.bind (to_Block wb) (Ev.bind (to_CouplingS wk) (Ev.bind (sIsCouplings_ev hok hl) (Ev.bind (to_Block wb) (Ev.bind (to_CouplingS wk) (Ev.bind (IsCouplings_ev hok hl) (Ev.ff (by simp) (Ev.bind (to_Block wb) (Ev.bind (eq_Block wb) (Ev.ff rfl (Ev.bind (to_CouplingS wk) (Ev.bind (eq_CouplingS wk) (Ev.ff rfl .done))))))))))))
end Go.Fw
