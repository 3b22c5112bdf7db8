/- Plain laws: codes of lists of exceptions; tags step by step; effects of tags. -/
import Derived.Test.YtihkipojhdehnaaGreatDoorB13
import Derived.Test.YtihkipojhdehnaaGreatDoorFw34

namespace Go.Fw
open Go
set_option maxRecDepth 100000

/-! ### Codes -/

def codeX (b : qD) (es : List qe) : Int := bif blockB b then (bif decide (es.length ≤ 6) then (bif es.all (excB b) then 0 else 5) else 3) else 1
def codeP (b : qD) (es : List qe) (p : Int) : Int := bif codeX b es == 0 then (bif inPl b p then codeX b es else 2) else codeX b es
theorem qjN {b : qD} {es : List qe} (h : codeX b es = 0) : blockB b = true ∧ es.length ≤ 6 ∧ es.all (excB b) = true := by
  unfold codeX at h
  cases h1 : blockB b
  · rw [h1] at h; cases h
  · rw [h1] at h
    cases h2 : decide (es.length ≤ 6)
    · rw [h2] at h; cases h
    · rw [h2] at h
      cases h3 : es.all (excB b)
      · rw [h3] at h; cases h
      · exact ⟨rfl, of_decide_eq_true h2, rfl⟩
theorem qnX {b : qD} {es : List qe} {p : Int} (h : codeP b es p = 0) : codeX b es = 0 := by
  unfold codeP at h
  by_cases h0 : codeX b es = 0
  · exact h0
  · rw [show (codeX b es == 0) = false by simpa using h0] at h
    exact h

theorem qod {b : qD} {es : List qe} (hok : qgk b) (hes : okL qci es) : Ev (fun n => qgB n b es) (codeX b es) := by
  have hlen := hes.len
  unfold qgB codeX
  refine Ev.chk1 (qkI hok) fun h => ?_
  rw [show decide ((es.length : Int) > 6) = !decide (es.length ≤ 6) from qjq (k := 6)]
  simp only [qbg]
  refine Ev.okP1 fun _ => ?_
  have hL : Ev (fun n => qcN b es n 0) (bif es.all (excB b) then .nxt (es.length : Int) else .ret 5) := by
    rw [qgY]
    refine qdP (Ev.succ ?_) (fun j hj X hX => Ev.succ ?_)
    · simp only [qcN, qv (Nat.le_refl _), cond_false]; exact .done
    · simp only [qcN, qu hj, cond_true, qat hj, Option.bind_some, qr (show j < 9223372036854775807 by omega)]
      have := qkU hok (qh7 hes hj)
      rw [h, Bool.true_and] at this
      exact Ev.chk1 this fun _ => hX
  refine Ev.bind hL ?_
  cases es.all (excB b) <;> exact .done

theorem qpx {b : qD} {es : List qe} (hok : qgk b) (hes : okL qci es) :
    ∃ o, Ev (fun n => qdV n b es) (o, codeX b es) ∧ (codeX b es = 0 → ∃ ls lo de, o = some ⟨b, places b.Design, ls, lo, de, []⟩) := by
  have hlen := hes.len
  unfold qdV codeX
  cases h : blockB b
  · exact ⟨none, Ev.bind (qlD hok) (Ev.tt (by rw [h]; rfl) .done), fun h => by cases h⟩
  · have hb := qlD hok
    rw [h] at hb
    obtain ⟨ls, lo, de, ev⟩ := qoe h
    cases h6 : decide (es.length ≤ 6)
    · exact ⟨none, Ev.bind hb (Ev.ff rfl (Ev.tt (by rw [show decide ((es.length : Int) > 6) = !decide (es.length ≤ 6) from qjq (k := 6), h6]; rfl) .done)), fun h => by cases h⟩
    · have hc : Ev (fun n => qX n es (some ⟨b, places b.Design, ls, lo, de, []⟩)) (!es.all (excB b)) := by
        unfold qX
        refine Ev.bind (b := ixL (fun e => !excB b e) es) (qe3 (fin := (es.length : Int)) (Lf := qE es (some ⟨b, places b.Design, ls, lo, de, []⟩))
          (pf := fun n x => qdm n x (some ⟨b, places b.Design, ls, lo, de, []⟩)) (fun x hx => ?_)
          (fun n => by simp only [qE, qv (Nat.le_refl _), cond_false])
          (fun n j x hx => by
            have hj := (List.getElem?_eq_some_iff.1 hx).1
            simp only [qE, qu hj, cond_true, qaH hx, Option.bind_some, qr (show j < 9223372036854775807 by omega)])
          (fun n => by unfold qai; congr 1; funext o; cases o <;> rfl)) (Ev.now ?_)
        · unfold qdm
          exact Ev.neg (qlz h rfl (hes.2 x hx))
        · rw [qhO, ← qj7, Bool.not_not]
      cases h3 : es.all (excB b)
      · rw [h3] at hc
        exact ⟨none, Ev.bind hb (Ev.ff rfl (Ev.ff (by rw [show decide ((es.length : Int) > 6) = !decide (es.length ≤ 6) from qjq (k := 6), h6]; rfl) (Ev.bind ev (Ev.bind hc .done)))), fun h => by cases h⟩
      · rw [h3] at hc
        exact ⟨_, Ev.bind hb (Ev.ff rfl (Ev.ff (by rw [show decide ((es.length : Int) > 6) = !decide (es.length ≤ 6) from qjq (k := 6), h6]; rfl) (Ev.bind ev (Ev.bind hc .done)))), fun _ => ⟨ls, lo, de, rfl⟩⟩

theorem qmU {b : qD} (h : blockB b = true) : Ev (fun n => qdE n b) ((places b.Design).length : Int) := by
  unfold qdE
  exact Ev.bind (qjS (qcc (qdT h))) (Ev.now (by rw [List.length_map]))
theorem qn3 {b : qD} {es : List qe} {p : Int} (hok : qgk b) (hes : okL qci es) : Ev (fun n => qgv n b es p) (codeP b es p) := by
  unfold qgv codeP
  refine Ev.bind (qod hok hes) ?_
  refine Ev.iff (fun h0 => ?_) fun _ => .done
  have h0 : codeX b es = 0 := by simpa using h0
  have h := (qjN h0).1
  have hpl := qet (qcc (qdT h))
  refine Ev.bind (qmU h) ?_
  rw [qcZ (by omega)]
  simp only [qdX, Option.bind_some, qbg]
  exact Ev.iff (fun _ => .done) fun _ => .done
theorem qng {b : qD} {V : Tview} {p : Int} (h : blockB b = true) (hP : V.places = places b.Design) : Ev (fun n => qeh n (some V) p) (inPl b p) := by
  have hpl := qet (qcc (qdT h))
  refine Ev.now (x := some (inPl b p)) rfl |>.congr fun n => ?_
  unfold qeh
  simp only [Option.bind_some, qbe, hP, qdp]
  rw [qcZ (by omega)]
  rfl
theorem qpE {b : qD} {es : List qe} {p : Int} (hok : qgk b) (hes : okL qci es) :
    ∃ o, Ev (fun n => qgq n b es p) (o, codeP b es p) ∧ (codeP b es p = 0 → ∃ ls lo de, o = some ⟨b, places b.Design, ls, lo, de, []⟩) := by
  obtain ⟨o, e, hv⟩ := qpx hok hes
  unfold qgq codeP
  by_cases h0 : codeX b es = 0
  · obtain ⟨ls, lo, de, rfl⟩ := hv h0
    rw [h0] at e ⊢
    have hi := qng (V := ⟨b, places b.Design, ls, lo, de, []⟩) (p := p) (qjN h0).1 rfl
    cases hp : inPl b p
    · rw [hp] at hi
      exact ⟨none, Ev.bind e (Ev.tt rfl (Ev.bind hi .done)), fun h => by cases h⟩
    · rw [hp] at hi
      exact ⟨_, Ev.bind e (Ev.tt rfl (Ev.bind hi .done)), fun _ => ⟨ls, lo, de, rfl⟩⟩
  · have hc : (codeX b es == 0) = false := by simpa using h0
    rw [hc]
    exact ⟨o, Ev.bind e (Ev.ff hc .done), fun h => absurd h h0⟩

/-! ### Tags step by step -/

def pre {α : Type} (f : Nat → α) (j : Nat) : List α := (List.range j).map f
theorem qok {α : Type} {f : Nat → α} {j : Nat} : (pre f j).length = j := by simp [pre]
theorem qpZ {α : Type} {f : Nat → α} {j : Nat} : pre f j ++ [f j] = pre f (j + 1) := by unfold pre; rw [List.range_succ, List.map_append]; rfl
theorem qqu {α : Type} {f : Nat → α} {j : Nat} (h : j ≤ 1048576) : appS (pre f j) [f j] = some (pre f (j + 1)) := by
  rw [qee (by rw [qok, List.length_singleton]; omega), qpZ]
/-! ### Effects -/

def rankE (e : qe) : Int := (bif decide (e.From.length = 0) then 0 else 4) + (bif decide (e.To.length = 0) then 0 else 2) + (bif decide (e.Through.length = 0) then 0 else 1)
theorem qpD {e : qe} : 0 ≤ rankE e := by
  unfold rankE
  cases decide (e.From.length = 0) <;> cases decide (e.To.length = 0) <;> cases decide (e.Through.length = 0) <;> decide
theorem posL {xs : List Int} : decide ((xs.length : Int) > 0) = !decide (xs.length = 0) := by cases xs <;> simp
theorem qp1 {e : qe} : Ev (fun n => qed n e) (rankE e) := by
  unfold qed rankE
  simp only [posL]
  cases decide (e.From.length = 0) <;> cases decide (e.To.length = 0) <;> cases decide (e.Through.length = 0) <;> exact .now (by decide)
theorem qp0 {n : Nat} {e : qe} : qed n e = some (rankE e) := by
  obtain ⟨N, h⟩ := qp1 (e := e)
  exact h (max N n) (by omega)
theorem qpP {e : qe} : Ev (fun n => qhs n e) (rankE e) := by
  unfold qhs rankE
  refine ⟨4, fun n hn => ?_⟩
  obtain ⟨m, rfl⟩ : ∃ m, n = m + 4 := ⟨n - 4, by omega⟩
  simp only [qd1]
  have i0 : idx ([e.Through, e.To, e.From] : List (List Int)) 0 = some e.Through := rfl
  have i1 : idx ([e.Through, e.To, e.From] : List (List Int)) (W64 (0 + 1)) = some e.To := rfl
  have i2 : idx ([e.Through, e.To, e.From] : List (List Int)) (W64 (W64 (0 + 1) + 1)) = some e.From := rfl
  simp only [i0, i1, i2, posL, Option.bind_some]
  cases decide (e.From.length = 0) <;> cases decide (e.To.length = 0) <;> cases decide (e.Through.length = 0) <;> rfl

def pickS (k : Int) (g : Bool) (t : Int × Int) (e : qe) : Int × Int :=
  bif e.Kind != k then t else bif decide (rankE e > t.1) || ((rankE e == t.1) && (decide (e.Value > t.2) == g)) then (rankE e, e.Value) else t
def chooseL (k : Int) (g : Bool) (ms : List qe) : Int × Int := ms.foldl (pickS k g) (-1, -1)

theorem qiE {ms : List qe} {k : Int} {g : Bool} (hl : ms.length ≤ 1048576) : Ev (fun n => qdW n ms k g) (chooseL k g ms).2 := by
  have hL : Ev (fun n => qaJ ms k g n (-1) (-1) 0) ((chooseL k g ms).1, (chooseL k g ms).2, (ms.length : Int)) := by
    refine (qoH (xs := ms) (τ := Int × Int) (Lf := fun n t j => qaJ ms k g n t.1 t.2 j) (step := pickS k g) (fin := fun t => (t.1, t.2, (ms.length : Int))) (-1, -1) (fun _ _ => True) trivial (fun _ _ _ _ => trivial) (fun n t => ?_) (fun j t hj _ X hX => ?_)).1
    · simp only [qaJ, qv (Nat.le_refl _), cond_false]
    · simp only [qaJ, qu hj, cond_true, qgV hj, Option.bind_some, qr (show j < 9223372036854775807 by omega)]
      unfold pickS at hX
      refine Ev.bif (fun h1 => ?_) (fun h1 => ?_)
      · rw [h1] at hX; exact hX
      · rw [h1] at hX
        refine Ev.bind qpP (Ev.bif (fun h2 => ?_) (fun h2 => ?_))
        · rw [h2] at hX; exact hX
        · rw [h2] at hX
          refine Ev.bif (fun h3 => ?_) (fun h3 => ?_)
          · rw [h3] at hX
            refine Ev.bif (fun h4 => ?_) (fun h4 => ?_)
            · rw [h4] at hX; exact hX
            · rw [h4] at hX; exact hX
          · rw [h3] at hX; exact hX
  unfold qdW
  exact Ev.bind hL .done

/-- The exceptions that are chosen, in order. -/
def selE (es : List qe) (m : Nat → Bool) (j : Nat) : List qe := (selN m j).map (gt es)
theorem qmw {es : List qe} {m : Nat → Bool} {j : Nat} : selE es m (j + 1) = selE es m j ++ (bif m j then [gt es j] else []) := by
  unfold selE
  rw [qox, List.map_append]
  cases m j <;> rfl
theorem qm6 {es : List qe} {m : Nat → Bool} {j : Nat} : (selE es m j).length ≤ j := by unfold selE; rw [List.length_map]; exact qpk
theorem qps {es : List qe} {m : Nat → Bool} {j : Nat} {e : qe} (h : e ∈ selE es m j) (hj : j ≤ es.length) : e ∈ es := by
  unfold selE at h
  obtain ⟨i, hi, rfl⟩ := List.mem_map.1 h
  have := (qp9.1 hi).1
  rw [qiV (show i < es.length by omega)]
  exact List.getElem_mem _

theorem qkk {es : List qe} {m : Nat → Bool} {k : Int} (hl : es.length ≤ 1048576) : Ev (fun n => qeo n es (pre m es.length) k) (chooseL k (k == 4) (selE es m es.length)).2 := by
  have hL : Ev (fun n => qbu es (pre m es.length) k n (-1) (-1) 0) ((chooseL k (k == 4) (selE es m es.length)).1, (chooseL k (k == 4) (selE es m es.length)).2, (es.length : Int)) := by
    refine loopF (τ := Int × Int) (Lf := fun n t j => qbu es (pre m es.length) k n t.1 t.2 j) (S := fun j => chooseL k (k == 4) (selE es m j)) (len := es.length) (fun n => ?_) (fun j hj X hX => ?_)
    · simp only [qbu, qv (Nat.le_refl _), cond_false]
    · have hm : idx (pre m es.length) (j : Int) = some (m j) := by rw [qgV (by rw [qok]; exact hj)]; simp [pre]
      have hs : chooseL k (k == 4) (selE es m (j + 1)) = bif m j then pickS k (k == 4) (chooseL k (k == 4) (selE es m j)) (gt es j) else chooseL k (k == 4) (selE es m j) := by
        unfold chooseL
        rw [qmw, List.foldl_append]
        cases m j <;> rfl
      simp only [qbu, qu hj, cond_true, qat hj, hm, Option.bind_some, qp0, qr (show j < 9223372036854775807 by omega)]
      simp only [hs] at hX
      generalize chooseL k (k == 4) (selE es m j) = t at hX ⊢
      cases h1 : m j
      · rw [h1] at hX
        exact Ev.bindN rfl (Ev.tt rfl hX)
      · rw [h1] at hX
        unfold pickS at hX
        cases h2 : (gt es j).Kind != k
        · rw [h2] at hX
          by_cases h3 : rankE (gt es j) < t.1
          · have e1 : decide (rankE (gt es j) > t.1) = false := by simp; omega
            have e2 : (rankE (gt es j) == t.1) = false := by rw [Bool.eq_false_iff, Ne, beq_iff_eq]; omega
            rw [e1, e2] at hX
            exact Ev.bindN (b := true) (by show some (decide _) = _; rw [decide_eq_true h3]) (Ev.tt rfl hX)
          · refine Ev.bindN (b := false) (by show some (decide _) = _; rw [decide_eq_false h3]) (Ev.ff rfl ?_)
            refine Ev.bindN (b := bif k == 4 then decide ((gt es j).Value > t.2) else decide ((gt es j).Value < t.2)) (by cases (k == 4) <;> rfl) ?_
            refine Ev.bindN (b := decide (rankE (gt es j) > t.1) || (bif k == 4 then decide ((gt es j).Value > t.2) else decide ((gt es j).Value < t.2))) (by cases decide (rankE (gt es j) > t.1) <;> rfl) ?_
            cases h4 : decide (rankE (gt es j) > t.1)
            · rw [h4] at hX
              have h4 := of_decide_eq_false h4
              have e3 : rankE (gt es j) = t.1 := by omega
              rw [show (rankE (gt es j) == t.1) = true by simpa using e3] at hX
              simp only [Bool.false_or, Bool.true_and] at hX ⊢
              cases h7 : k == 4
              · rw [h7] at hX
                simp only [cond_false] at hX ⊢
                cases h5 : decide ((gt es j).Value < t.2)
                · cases h6 : decide ((gt es j).Value > t.2)
                  · rw [h6] at hX
                    have h5 := of_decide_eq_false h5
                    have h6 := of_decide_eq_false h6
                    rw [show t.2 = (gt es j).Value by omega]
                    exact hX
                  · rw [h6] at hX
                    rw [e3]
                    exact hX
                · have h5' := of_decide_eq_true h5
                  rw [show decide ((gt es j).Value > t.2) = false by simp; omega] at hX
                  exact hX
              · rw [h7] at hX
                simp only [cond_true] at hX ⊢
                cases h6 : decide ((gt es j).Value > t.2)
                · rw [h6] at hX
                  rw [e3]
                  exact hX
                · rw [h6] at hX
                  exact hX
            · rw [h4] at hX
              exact hX
        · rw [h2] at hX
          exact Ev.bindN rfl (Ev.tt rfl hX)
  unfold qeo
  exact Ev.bind hL .done

def effE (ms : List qe) : qR := ⟨ms.any fun e => e.Kind == 1, bif decide ((chooseL 2 false ms).2 > 0) && ((chooseL 3 false ms).2 == -1) then (chooseL 2 false ms).2 else 1, (chooseL 3 false ms).2, (chooseL 4 true ms).2⟩

theorem qnW {ms : List qe} (h : ∀ e, e ∈ ms → e.Kind = 1 → e.Value = 0) : ((chooseL 1 false ms).2 == 0) = ms.any fun e => e.Kind == 1 := by
  have main : ∀ (ms : List qe) (t : Int × Int), (∀ e, e ∈ ms → e.Kind = 1 → e.Value = 0) → (t = (-1, -1) ∨ (0 ≤ t.1 ∧ t.2 = 0)) → ((ms.foldl (pickS 1 false) t).2 == 0) = ((t.2 == 0) || ms.any fun e => e.Kind == 1) := by
    intro ms
    induction ms with
    | nil => intro t _ _; simp
    | cons e ms ih =>
      intro t h ht
      rw [List.foldl_cons, List.any_cons]
      have h' := fun x hx => h x (List.mem_cons_of_mem _ hx)
      by_cases hk : e.Kind = 1
      · have hv := h e (List.mem_cons_self ..) hk
        have hr := qpD (e := e)
        have hp : pickS 1 false t e = (rankE e, 0) ∨ (pickS 1 false t e = t ∧ 0 ≤ t.1 ∧ t.2 = 0) := by
          unfold pickS
          rw [hv, show (e.Kind != 1) = false by simp [hk]]
          rcases ht with rfl | ht
          · left
            show (bif decide (rankE e > -1) || _ then _ else _) = _
            rw [decide_eq_true (show rankE e > -1 by omega)]; rfl
          · cases (decide (rankE e > t.1) || ((rankE e == t.1) && (decide ((0 : Int) > t.2) == false)))
            · exact .inr ⟨rfl, ht⟩
            · exact .inl rfl
        rw [show (e.Kind == 1) = true by simp [hk], Bool.true_or, Bool.or_true]
        rcases hp with hp | ⟨hp, ht⟩
        · rw [hp, ih _ h' (.inr ⟨hr, rfl⟩)]; rfl
        · rw [hp, ih _ h' (.inr ht), ht.2]; rfl
      · rw [show pickS 1 false t e = t by unfold pickS; rw [show (e.Kind != 1) = true by simpa using hk]; rfl, ih t h' ht, show (e.Kind == 1) = false by simpa using hk, Bool.false_or]
  exact main ms (-1, -1) h (.inl rfl)

theorem qnR {b : qD} {e : qe} (h : excB b e = true) (hk : e.Kind = 1) : e.Value = 0 := by
  unfold excB valB at h
  rw [hk] at h
  simp only [Bool.and_eq_true] at h
  have h := h.2.1
  exact eq_of_beq h
theorem qn1 {b : qD} {es : List qe} {m : Nat → Bool} (hl : es.length ≤ 1048576) (hx : es.all (excB b) = true) : Ev (fun n => qfk n es (pre m es.length)) (effE (selE es m es.length)) := by
  have hf := qnW (ms := selE es m es.length) (fun e he hk => qnR (b := b) (List.all_eq_true.1 hx e (qps he (Nat.le_refl _))) hk)
  unfold qfk effE
  refine Ev.bind (qkk (k := 3) hl) (Ev.bind (qkk (k := 4) hl) (Ev.bind (qkk (k := 1) hl) (Ev.bind (qkk (k := 2) hl) ?_)))
  rw [← hf]
  show Ev (fun _ => bif (chooseL 3 false (selE es m es.length)).2 == -1 then (bif decide ((chooseL 2 false (selE es m es.length)).2 > 0) then _ else _) else _) _
  cases (chooseL 3 false (selE es m es.length)).2 == -1 <;> cases decide ((chooseL 2 false (selE es m es.length)).2 > 0) <;> exact .done

theorem qoc {es : List qe} {tag : List Int} {p : Int} (hes : okL qci es) (ht : tag.length = es.length) : Ev (fun n => qfP n es tag p) (effE (selE es (fun i => matT (gt es i) (at0 tag i) p) es.length)) := by
  have hl := hes.len
  have hL : Ev (fun n => qby es tag p n ([] : List qe) 0) (selE es (fun i => matT (gt es i) (at0 tag i) p) es.length, (es.length : Int)) := by
    refine loopF (Lf := qby es tag p) (S := selE es (fun i => matT (gt es i) (at0 tag i) p)) (len := es.length) (fun n => ?_) (fun j hj X hX => ?_)
    · simp only [qby, qv (Nat.le_refl _), cond_false]
    · have hsl := qm6 (es := es) (m := fun i => matT (gt es i) (at0 tag i) p) (j := j)
      simp only [qby, qu hj, cond_true, qat hj, qb5 (show j < tag.length by omega), Option.bind_some, qr (show j < 9223372036854775807 by omega)]
      refine Ev.bind (qnF (qh7 hes hj)) ?_
      rw [qmw] at hX
      cases h1 : matT (gt es j) (at0 tag j) p
      · simp only [h1, cond_false, List.append_nil] at hX
        exact Ev.ff rfl hX
      · simp only [h1, cond_true] at hX
        exact Ev.tt rfl (Ev.bindN (qee (by rw [List.length_singleton]; omega)) hX)
  have hsl := qm6 (es := es) (m := fun i => matT (gt es i) (at0 tag i) p) (j := es.length)
  unfold qfP
  refine Ev.bind hL ?_
  generalize selE es (fun i => matT (gt es i) (at0 tag i) p) es.length = ms at hsl ⊢
  have hms : ms.length ≤ 1048576 := by omega
  have hc : Ev (fun n => qZ n ms) (ms.any fun e => e.Kind == 1) := by
    unfold qZ
    refine Ev.bind (b := ixL (fun e : qe => e.Kind == 1) ms) (qe3 (fin := (ms.length : Int)) (Lf := qL ms) (pf := fun n x => qf2 n x) (fun x hx => .done)
      (fun n => by simp only [qL, qv (Nat.le_refl _), cond_false])
      (fun n j x hx => by
        have hj := (List.getElem?_eq_some_iff.1 hx).1
        simp only [qL, qu hj, cond_true, qaH hx, Option.bind_some, qr (show j < 9223372036854775807 by omega)])
      (fun n => by unfold qau; congr 1; funext o; cases o <;> rfl)) (Ev.now ?_)
    rw [qhO]
  refine Ev.bind (qiE hms) (Ev.bind (qiE hms) (Ev.bind hc (Ev.bind (qiE hms) ?_)))
  unfold effE
  cases decide ((chooseL 2 false ms).2 > 0) <;> cases (chooseL 3 false ms).2 == -1 <;> exact .done

/-! ### Tags that fit -/

def fitsB (es : List qe) (tag : List Int) : Bool := decide (tag.length = es.length) && allN (fun i => inI (at0 tag i) (-1) ((gt es i).Through.length : Int)) es.length
theorem lenNe {α β : Type} {xs : List α} {ys : List β} : ((xs.length : Int) != (ys.length : Int)) = !decide (xs.length = ys.length) := by rw [Bool.eq_iff_iff]; simp; omega
theorem qpn {es : List qe} {tag : List Int} (hl : es.length ≤ 1048576) : Ev (fun n => qgM n es tag) (fitsB es tag) := by
  unfold qgM fitsB
  rw [lenNe]
  simp only [qbg]
  refine Ev.andP fun h => ?_
  have h := of_decide_eq_true h
  have hL : Ev (fun n => qcS es tag n 0) (bif allN (fun i => inI (at0 tag i) (-1) ((gt es i).Through.length : Int)) es.length then .nxt (es.length : Int) else .ret false) := by
    refine qdP (Ev.succ ?_) (fun j hj X hX => Ev.succ ?_)
    · simp only [qcS, h, qv (Nat.le_refl _), cond_false]; exact .done
    · simp only [qcS, h, qu hj, cond_true, qat hj, qb5 (show j < tag.length by omega), Option.bind_some, qdX, qr (show j < 9223372036854775807 by omega), qbg]
      exact Ev.okP1 fun _ => hX
  refine Ev.bind hL ?_
  cases allN (fun i => inI (at0 tag i) (-1) ((gt es i).Through.length : Int)) es.length <;> exact .done
theorem qpj {es : List qe} {tag : List Int} (hl : es.length ≤ 1048576) : Ev (fun n => qip n es tag) (fitsB es tag) := by
  unfold qip fitsB
  rw [lenNe]
  simp only [qbg]
  refine Ev.andP fun h => ?_
  have h := of_decide_eq_true h
  have hL : Ev (fun n => qep es tag n 0) (bif allN (fun i => inI (at0 tag i) (-1) ((gt es i).Through.length : Int)) es.length then .nxt (es.length : Int) else .ret false) := by
    refine qdP (Ev.succ ?_) (fun j hj X hX => Ev.succ ?_)
    · simp only [qep, qv (Nat.le_refl _), cond_false]; exact .done
    · simp only [qep, qu hj, cond_true, qat hj, qb5 (show j < tag.length by omega), Option.bind_some, qap, qdp, qr (show j < 9223372036854775807 by omega), qbg]
      exact Ev.okP1 fun _ => hX
  refine Ev.bind hL ?_
  cases allN (fun i => inI (at0 tag i) (-1) ((gt es i).Through.length : Int)) es.length <;> exact .done
theorem qo9 {es : List qe} {tag : List Int} (h : fitsB es tag = true) : tag.length = es.length := by
  unfold fitsB at h
  rw [Bool.and_eq_true] at h
  exact of_decide_eq_true h.1
end Go.Fw


namespace Go.Fw
open Go Go.Proofs
open Go.RowKit (Below)
set_option maxRecDepth 100000
set_option maxHeartbeats 1600000
def qeG (n : Nat) (b : qD) (list : (List qe)) (tag : (List Int)) (a_end : Int) : Option (qR × Int) :=
 (qgv n b list a_end).bind fun r1 =>
 bif (r1 != 0) then
  some ((⟨false, 0, 0, 0⟩ : qR), r1)
 else
  (qgM n list tag).bind fun r2 =>
  bif (!r2) then
   some ((⟨false, 0, 0, 0⟩ : qR), 2)
  else
   (qft n list tag a_end).bind fun r3 =>
   some (r3, 0)

theorem qjF {n : Nat} {w : World} {b : qD} {list : (List qe)} {tag : (List Int)} {a_end : Int} {cs1 : List Value} (ha1 : GoT.R w (old w) b cs1) {cs2 : List Value} (ha2 : GoT.R w (old w) list cs2) {cs3 : List Value} (ha3 : GoT.R w (old w) tag cs3) {r : (qR × Int)} (hF : qeG n b list tag a_end = some r) : RetV Tryz.prog 11 [GoT.v qD cs1, GoT.v (List qe) cs2, GoT.v (List Int) cs3, .int .i64 a_end] w r := by
 obtain ⟨p1, k1, p2, k2, p3, k3, p4, k4, p5, k5, rfl, s1, s2, s3, s4, s5⟩ := qax ha1
 obtain ⟨p6, k6, rfl, s6⟩ := ha2
 obtain ⟨p7, k7, rfl, s7⟩ := ha3
 refine qf Tryz.func11 rfl (m := 28) rfl rfl (fun h => ?_)
 rw [qeG] at hF
 refine zSR (qS h rfl rfl ?_)
 intro w1 bb1 h
 refine qY qc h rfl rfl rfl ?_
 intro w2 bb2 h
 refine zp1 rfl (zNSR (zl 1 0 h rfl (zp2 rfl ?_)))
 obtain ⟨r1, hr1, hF⟩ := qd hF
 refine qP r1 h call41 (qkV (h.old ha1) ⟨_, _, rfl, (h.oldS s6)⟩ hr1) rfl rfl rfl rfl ?_
 intro w3 h
 refine zp1 rfl (zNSSR (zp2 rfl (qb ?_)))
 refine qp rfl hF ?_ ?_ <;> intro hF
 ·refine zSR (r_v (qeP qc [] [] rfl rfl rfl rfl rfl rfl rfl rfl) rfl (zp1 rfl (zs 0 h rfl ?_)))
  intro w4 h
  refine zp1 rfl (qb ?_)
  obtain rfl := qh hF
  exact qal qc (ρ := (qR × Int)) [GoT.v qR [.bool false, .int .i64 0, .int .i64 0, .int .i64 0], GoT.v Int [.int .i64 r1]] h ⟨⟨_, _, _, rfl, rfl, h.box 0 rfl, rfl⟩, rfl, trivial⟩ (PV.done h (qfE h (qaz (S := fun _ => False) (qdi (⟨false, 0, 0, 0⟩ : qR))) (qaq (qaz (S := fun _ => False) rfl)) (by rfl)))
 refine zKSSR (zp2 rfl ?_)
 obtain ⟨r2, hr2, hF⟩ := qd hF
 refine qm r2 h call42 (qkP ⟨_, _, rfl, (h.oldS s6)⟩ ⟨_, _, rfl, (h.oldS s7)⟩ hr2) rfl rfl rfl rfl ?_
 intro w5 h
 refine zp1 rfl (qb ?_)
 refine qp rfl hF ?_ ?_ <;> intro hF
 ·refine zSR (r_v (qeP qc [] [] rfl rfl rfl rfl rfl rfl rfl rfl) rfl (zs 0 h rfl ?_))
  intro w6 h
  replace h : SH _ _ [Ch.box bb2 [.bool false, .int .i64 0, .int .i64 0, .int .i64 0] 38, Ch.box bb1 [.slice p1 b.Library.Cells.length k1, .slice p2 b.Design.Instances.length k2, .slice p3 b.Design.Nets.length k3, .slice p4 b.Design.Ports.length k4, .slice p5 b.Wires.length k5] 50] := h
  refine zp1 rfl (qb ?_)
  obtain rfl := qh hF
  exact qal qc (ρ := (qR × Int)) [GoT.v qR [.bool false, .int .i64 0, .int .i64 0, .int .i64 0], GoT.v Int [.int .i64 2]] h ⟨⟨_, _, _, rfl, rfl, h.box 0 rfl, rfl⟩, rfl, trivial⟩ (PV.done h (qfE h (qaz (S := fun _ => False) (qdi (⟨false, 0, 0, 0⟩ : qR))) (qaq (qaz (S := fun _ => False) rfl)) (by rfl)))
 refine zKSR (zp3 rfl ?_)
 obtain ⟨r3, hr3, hF⟩ := qd hF
 refine qex r3 h call43 (qj9 ⟨_, _, rfl, (h.oldS s6)⟩ ⟨_, _, rfl, (h.oldS s7)⟩ hr3) rfl rfl rfl rfl ?_
 intro w7 S1 cs4 h
 obtain rfl := qeY (h.own 0 rfl)
 refine zs 1 h rfl ?_
 intro w8 h
 refine zp1 rfl (qb ?_)
 obtain rfl := qh hF
 exact qal qc (ρ := (qR × Int)) [GoT.v qR [.bool r3.False, .int .i64 r3.Cycles, .int .i64 r3.MaxLimit, .int .i64 r3.MinLimit], GoT.v Int [.int .i64 0]] h ⟨⟨_, _, _, rfl, rfl, h.box 1 rfl, rfl⟩, rfl, trivial⟩ (PV.done h (qfE h (qaG 0 h rfl) (qaq (qaz (S := fun _ => False) rfl)) (by rfl)))

def qez (n : Nat) (b : qD) (list : (List qe)) (tag : (List Int)) (a_end : Int) : Option (qR × Int) :=
 (qgq n b list a_end).bind fun o => match o with
  | (_, r3) =>
   bif (r3 != 0) then
    some ((⟨false, 0, 0, 0⟩ : qR), r3)
   else
    (qip n list tag).bind fun r4 =>
    bif (!r4) then
     some ((⟨false, 0, 0, 0⟩ : qR), 2)
    else
     (qfP n list tag a_end).bind fun r5 =>
     some (r5, 0)

theorem qjG {n : Nat} {w : World} {b : qD} {list : (List qe)} {tag : (List Int)} {a_end : Int} {cs1 : List Value} (ha1 : GoT.R w (old w) b cs1) {cs2 : List Value} (ha2 : GoT.R w (old w) list cs2) {cs3 : List Value} (ha3 : GoT.R w (old w) tag cs3) {r : (qR × Int)} (hF : qez n b list tag a_end = some r) : RetV Tryz.prog 15 [GoT.v qD cs1, GoT.v (List qe) cs2, GoT.v (List Int) cs3, .int .i64 a_end] w r := by
 obtain ⟨p1, k1, p2, k2, p3, k3, p4, k4, p5, k5, rfl, s1, s2, s3, s4, s5⟩ := qax ha1
 obtain ⟨p6, k6, rfl, s6⟩ := ha2
 obtain ⟨p7, k7, rfl, s7⟩ := ha3
 refine qf Tryz.func15 rfl (m := 34) rfl rfl (fun h => ?_)
 rw [qez] at hF
 refine zSR (qS h rfl rfl ?_)
 intro w1 bb1 h
 refine qY qc h rfl rfl rfl ?_
 intro w2 bb2 h
 refine zp1 rfl (zNSR (zl 1 0 h rfl (zp2 rfl ?_)))
 have hg1 : Rg (old w) w (old w) w := .start (fun _ h => h)
 obtain ⟨r1, hr1, hF⟩ := qd hF
 obtain ⟨r2, r3⟩ := r1
 refine qmN (r2, r3) hg1 h call48 (qlc (hg1.regOld h) (hg1.inR h ha1) ⟨_, _, rfl, (hg1.inS h s6)⟩ hr1) rfl rfl rfl rfl ?_
 intro w3 us1 B1 hg2 hu1 hz1 hv1
 have hL1 := h.ext hu1.below
 have s8 := Up.S hg1 h hu1 s6
 have s9 := Up.S hg1 h hu1 s7
 have hc1 := Up.box 0 h hu1 rfl
 have ha4 := Up.boxP (x := (⟨false, 0, 0, 0⟩ : qR)) hg1 0 h hu1 rfl (qdi (⟨false, 0, 0, 0⟩ : qR))
 have hb1 := h.below.trans (hu1.below.mono h.below.size)
 replace h := hz1
 obtain ⟨cs4, us2, rfl, hr2, hv2⟩ := qon hv1
 obtain ⟨p8, rfl, s10⟩ := qho hr2
 obtain ⟨cs5, rfl, hr3⟩ := qnU hv2
 obtain rfl := hr3
 refine zp5 rfl (zNSB (zSR (zp2 rfl ?_)))
 refine zp1 rfl (qb ?_)
 refine qp rfl hF ?_ ?_ <;> intro hF
 ·refine zSR (r_v (qeP qc [] [] rfl rfl rfl rfl rfl rfl rfl rfl) rfl (zp1 rfl ?_))
  replace h := SH.back hL1 h (show NoD [] from trivial)
  refine zs 0 h rfl ?_
  intro w5 h
  refine zp1 rfl (qb ?_)
  replace h := h.unbase hg1.below ⟨fun _ h => h, ⟨fun _ h => h, trivial⟩⟩
  obtain rfl := qh hF
  exact qal qc (ρ := (qR × Int)) [GoT.v qR [.bool false, .int .i64 0, .int .i64 0, .int .i64 0], GoT.v Int [.int .i64 r3]] h ⟨⟨_, _, _, rfl, rfl, h.box 0 rfl, rfl⟩, rfl, trivial⟩ (PV.done h (qfE h (qaz (S := fun _ => False) (qdi (⟨false, 0, 0, 0⟩ : qR))) (qaq (qaz (S := fun _ => False) rfl)) (by rfl)))
 refine zSR (zp2 rfl ?_)
 obtain ⟨r4, hr4, hF⟩ := qd hF
 refine qm r4 h call49 (qmT ⟨_, _, rfl, (h.oldS (s8.mono hg2.old))⟩ ⟨_, _, rfl, (h.oldS (s9.mono hg2.old))⟩ hr4) rfl rfl rfl rfl ?_
 intro w6 h
 refine zp2 rfl (qb ?_)
 refine qp rfl hF ?_ ?_ <;> intro hF
 ·refine zSR (r_v (qeP qc [] [] rfl rfl rfl rfl rfl rfl rfl rfl) rfl ?_)
  replace h := SH.back hL1 h (show NoD [] from trivial)
  refine zs 0 h rfl ?_
  intro w8 h
  replace h : SH _ _ [Ch.box bb2 [.bool false, .int .i64 0, .int .i64 0, .int .i64 0] 38, Ch.box bb1 [.slice p1 b.Library.Cells.length k1, .slice p2 b.Design.Instances.length k2, .slice p3 b.Design.Nets.length k3, .slice p4 b.Design.Ports.length k4, .slice p5 b.Wires.length k5] 50] := h
  refine zp1 rfl (qb ?_)
  replace h := h.unbase hg1.below ⟨fun _ h => h, ⟨fun _ h => h, trivial⟩⟩
  obtain rfl := qh hF
  exact qal qc (ρ := (qR × Int)) [GoT.v qR [.bool false, .int .i64 0, .int .i64 0, .int .i64 0], GoT.v Int [.int .i64 2]] h ⟨⟨_, _, _, rfl, rfl, h.box 0 rfl, rfl⟩, rfl, trivial⟩ (PV.done h (qfE h (qaz (S := fun _ => False) (qdi (⟨false, 0, 0, 0⟩ : qR))) (qaq (qaz (S := fun _ => False) rfl)) (by rfl)))
 refine zKE (zSR (zp3 rfl ?_))
 obtain ⟨r5, hr5, hF⟩ := qd hF
 refine qex r5 h call50 (qkn ⟨_, _, rfl, (h.oldS (s8.mono hg2.old))⟩ ⟨_, _, rfl, (h.oldS (s9.mono hg2.old))⟩ hr5) rfl rfl rfl rfl ?_
 intro w9 S1 cs6 h
 obtain rfl := qeY (h.own 0 rfl)
 replace h := SH.back hL1 h ⟨fun _ h => h, trivial⟩
 refine zs 1 h rfl ?_
 intro w11 h
 refine zp1 rfl (qb ?_)
 replace h := h.unbase hg1.below ⟨fun _ h => h, ⟨fun _ h => h, ⟨fun _ h => h, trivial⟩⟩⟩
 obtain rfl := qh hF
 exact qal qc (ρ := (qR × Int)) [GoT.v qR [.bool r5.False, .int .i64 r5.Cycles, .int .i64 r5.MaxLimit, .int .i64 r5.MinLimit], GoT.v Int [.int .i64 0]] h ⟨⟨_, _, _, rfl, rfl, h.box 1 rfl, rfl⟩, rfl, trivial⟩ (PV.done h (qfE h (qaG 0 h rfl) (qaq (qaz (S := fun _ => False) rfl)) (by rfl)))

def qfL (_ : Nat) (a : qR) (b : qR) : Option Bool :=
 bif (!(a.False == b.False)) then
  some false
 else
  bif (a.Cycles != b.Cycles) then
   some false
  else
   bif (a.MaxLimit != b.MaxLimit) then
    some false
   else
    bif (a.MinLimit != b.MinLimit) then
     some false
    else
     some true

theorem qkq {n : Nat} {w : World} {a : qR} {b : qR} {cs1 : List Value} (ha1 : GoT.R w (old w) a cs1) {cs2 : List Value} (ha2 : GoT.R w (old w) b cs2) {r : Bool} (hF : qfL n a b = some r) : RetV Tryz.prog 16 [GoT.v qR cs1, GoT.v qR cs2] w r := by
 obtain rfl := qeY ha1
 obtain rfl := qeY ha2
 refine qf Tryz.func16 rfl (m := 25) rfl rfl (fun h => ?_)
 rw [qfL] at hF
 refine zSR (qS h rfl rfl ?_)
 intro w1 bb1 h
 refine qS h rfl rfl ?_
 intro w2 bb2 h
 refine zp1 rfl (zNSSR (zp1 rfl (zl 1 0 h rfl (zp1 rfl (zl 0 0 h rfl (zp1 rfl (qb ?_)))))))
 refine qp rfl hF ?_ ?_ <;> intro hF
 ·exact zSR (zp1 rfl (qb (qt qc h hF ⟨rfl, trivial⟩)))
 refine zKSSR (zp1 rfl (zl 1 1 h rfl (zp1 rfl (zl 0 1 h rfl (zp1 rfl (qb ?_))))))
 refine qp rfl hF ?_ ?_ <;> intro hF
 ·exact zSR (zp1 rfl (qb (qt qc h hF ⟨rfl, trivial⟩)))
 refine zKSSR (zp1 rfl (zl 1 2 h rfl (zp1 rfl (zl 0 2 h rfl (zp1 rfl (qb ?_))))))
 refine qp rfl hF ?_ ?_ <;> intro hF
 ·exact zSR (zp1 rfl (qb (qt qc h hF ⟨rfl, trivial⟩)))
 refine zKSSR (zp1 rfl (zl 1 3 h rfl (zp1 rfl (zl 0 3 h rfl (zp1 rfl (qb ?_))))))
 refine qp rfl hF ?_ ?_ <;> intro hF
 ·exact zSR (zp1 rfl (qb (qt qc h hF ⟨rfl, trivial⟩)))
 exact zKSR (zp1 rfl (qb (qt qc h hF ⟨rfl, trivial⟩)))

def qdo (n : Nat) (a_0 : qD) (a_1 : (List qe)) (a_2 : (List Int)) (a_3 : Int) : Option Bool :=
 bif decide ((a_2.length : Int) > 1048576) then
  some true
 else
  (qgD n a_0 1048576).bind fun r1 =>
  bif decide (r1 < 0) then
   some true
  else
   (qff n a_1 r1).bind fun r2 =>
   bif decide (r2 < 0) then
    some true
   else
    (qeU n a_0).bind fun r3 =>
    (qcI n a_1).bind fun r4 =>
    (qaC n a_2).bind fun r5 =>
    (qeG n r3 r4 r5 a_3).bind fun o => match o with
     | (r7, r8) =>
      (qeU n a_0).bind fun r9 =>
      (qcI n a_1).bind fun r10 =>
      (qaC n a_2).bind fun r11 =>
      (qez n r9 r10 r11 a_3).bind fun o => match o with
       | (r13, r14) =>
        (
         (qfL n r13 r7).bind fun r21 =>
         bif (!r21) then
          some true
         else
          some (r14 != r8)).bind fun b1 =>
        bif b1 then
         some false
        else
         (qeU n a_0).bind fun r15 =>
         (qgp n r9 r15).bind fun r16 =>
         bif (!r16) then
          some false
         else
          (qcI n a_1).bind fun r17 =>
          (qef n r10 r17).bind fun r18 =>
          bif (!r18) then
           some false
          else
           (qaC n a_2).bind fun r19 =>
           (qaS n r11 r19).bind fun r20 =>
           bif (!r20) then
            some false
           else
            some true

theorem qhY {n : Nat} {w : World} {a_0 : qD} {a_1 : (List qe)} {a_2 : (List Int)} {a_3 : Int} {cs1 : List Value} (ha1 : GoT.R w (old w) a_0 cs1) {cs2 : List Value} (ha2 : GoT.R w (old w) a_1 cs2) {cs3 : List Value} (ha3 : GoT.R w (old w) a_2 cs3) {r : Bool} (hF : qdo n a_0 a_1 a_2 a_3 = some r) : RetV Tryz.prog 3 [GoT.v qD cs1, GoT.v (List qe) cs2, GoT.v (List Int) cs3, .int .i64 a_3] w r := by
 obtain ⟨p1, k1, p2, k2, p3, k3, p4, k4, p5, k5, rfl, s1, s2, s3, s4, s5⟩ := qax ha1
 obtain ⟨p6, k6, rfl, s6⟩ := ha2
 obtain ⟨p7, k7, rfl, s7⟩ := ha3
 refine qf Tryz.func3 rfl (m := 79) rfl rfl (fun h => ?_)
 rw [qdo] at hF
 refine zSR (qS h rfl rfl ?_)
 intro w1 bb1 h
 refine zp1 rfl (zNSSR (zp3 rfl (qb ?_)))
 refine qp rfl hF ?_ ?_ <;> intro hF
 ·exact zSR (zp1 rfl (qb (qt qc h hF ⟨rfl, trivial⟩)))
 refine zKSR (zp1 rfl (zNSR (zl 0 0 h rfl (zp1 rfl ?_))))
 obtain ⟨r1, hr1, hF⟩ := qd hF
 refine qP r1 h call9 (qkO (h.old ha1) hr1) rfl rfl rfl rfl ?_
 intro w2 h
 refine zp1 rfl (zNSSR (zp2 rfl (qb ?_)))
 refine qp rfl hF ?_ ?_ <;> intro hF
 ·exact zSR (zp1 rfl (qb (qt qc h hF ⟨rfl, trivial⟩)))
 refine zKSR (zp2 rfl ?_)
 obtain ⟨r2, hr2, hF⟩ := qd hF
 refine qP r2 h call10 (qjh ⟨_, _, rfl, (h.oldS s6)⟩ hr2) rfl rfl rfl rfl ?_
 intro w3 h
 refine zp1 rfl (zNSSR (zp2 rfl (qb ?_)))
 refine qp rfl hF ?_ ?_ <;> intro hF
 ·exact zSR (zp1 rfl (qb (qt qc h hF ⟨rfl, trivial⟩)))
 refine zKSR (zl 0 0 h rfl ?_)
 obtain ⟨r3, hr3, hF⟩ := qd hF
 refine qex r3 h call12 (qhy (h.old ha1) hr3) rfl rfl rfl rfl ?_
 intro w4 S1 cs4 h
 obtain ⟨p8, k8, p9, k9, p10, k10, p11, k11, p12, k12, rfl, -, -, -, -, -⟩ := qax (h.own 0 rfl)
 refine zp1 rfl ?_
 obtain ⟨r4, hr4, hF⟩ := qd hF
 refine qay r4 h call13 (qfo ⟨_, _, rfl, (h.oldS s6)⟩ hr4) rfl rfl rfl rfl ?_
 intro w5 S2 p13 k13 h
 refine zp1 rfl ?_
 obtain ⟨r5, hr5, hF⟩ := qd hF
 refine qay r5 h call14 (qaA ⟨_, _, rfl, (h.oldS s7)⟩ hr5) rfl rfl rfl rfl ?_
 intro w6 S3 p14 k14 h
 refine zp1 rfl ?_
 obtain ⟨r6, hr6, hF⟩ := qd hF
 obtain ⟨r7, r8⟩ := r6
 refine qiD (r7, r8) h call11 (qjF (h.own 2 rfl) (h.own 1 rfl) (h.own 0 rfl) hr6) rfl rfl rfl rfl ?_
 intro w7 S4 us1 hv1 hr7
 obtain ⟨S5, S6, cs5, us2, rfl, hv2, hr8⟩ := hv1.cons hr7
 obtain rfl := qeY (hv2.sh.own 0 rfl)
 obtain ⟨rfl, h⟩ := hv2.lastI hr8
 refine zp3 rfl (qY qc h rfl rfl rfl ?_)
 intro w8 bb2 h
 refine zs 0 h rfl ?_
 intro w9 h
 refine zp1 rfl (zNSR (zl 5 0 h rfl ?_))
 obtain ⟨r9, hr10, hF⟩ := qd hF
 refine qex r9 h call12 (qhy (h.old ha1) hr10) rfl rfl rfl rfl ?_
 intro w10 S8 cs6 h
 obtain ⟨p15, k15, p16, k16, p17, k17, p18, k18, p19, k19, rfl, -, -, -, -, -⟩ := qax (h.own 0 rfl)
 refine qY qc h rfl rfl rfl ?_
 intro w11 bb3 h
 refine zs 0 h rfl ?_
 intro w12 h
 replace h : SH _ _ [Ch.box bb3 [.slice p15 r9.Library.Cells.length k15, .slice p16 r9.Design.Instances.length k16, .slice p17 r9.Design.Nets.length k17, .slice p18 r9.Design.Ports.length k18, .slice p19 r9.Wires.length k19] 50, Ch.own S8 (r9 : qD) [.slice p15 r9.Library.Cells.length k15, .slice p16 r9.Design.Instances.length k16, .slice p17 r9.Design.Nets.length k17, .slice p18 r9.Design.Ports.length k18, .slice p19 r9.Wires.length k19], Ch.box bb2 [.bool r7.False, .int .i64 r7.Cycles, .int .i64 r7.MaxLimit, .int .i64 r7.MinLimit] 38, Ch.own S5 (r7 : qR) [.bool r7.False, .int .i64 r7.Cycles, .int .i64 r7.MaxLimit, .int .i64 r7.MinLimit], Ch.own S3 (r5 : List Int) [.slice p14 r5.length k14], Ch.own S2 (r4 : List qe) [.slice p13 r4.length k13], Ch.own S1 (r3 : qD) [.slice p8 r3.Library.Cells.length k8, .slice p9 r3.Design.Instances.length k9, .slice p10 r3.Design.Nets.length k10, .slice p11 r3.Design.Ports.length k11, .slice p12 r3.Wires.length k12], Ch.box bb1 [.slice p1 a_0.Library.Cells.length k1, .slice p2 a_0.Design.Instances.length k2, .slice p3 a_0.Design.Nets.length k3, .slice p4 a_0.Design.Ports.length k4, .slice p5 a_0.Wires.length k5] 32] := h
 refine zNSR (zp1 rfl ?_)
 obtain ⟨r10, hr11, hF⟩ := qd hF
 refine qay r10 h call13 (qfo ⟨_, _, rfl, (h.oldS s6)⟩ hr11) rfl rfl rfl rfl ?_
 intro w13 S9 p20 k20 h
 refine zp1 rfl (zNSR (zp1 rfl ?_))
 obtain ⟨r11, hr12, hF⟩ := qd hF
 refine qay r11 h call14 (qaA ⟨_, _, rfl, (h.oldS s7)⟩ hr12) rfl rfl rfl rfl ?_
 intro w14 S10 p21 k21 h
 refine zp1 rfl (zNSR (zl 2 0 h rfl (zp3 rfl ?_)))
 obtain ⟨r12, hr13, hF⟩ := qd hF
 obtain ⟨r13, r14⟩ := r12
 refine qiD (r13, r14) h call15 (qjG (h.own 3 rfl) (h.own 1 rfl) (h.own 0 rfl) hr13) rfl rfl rfl rfl ?_
 intro w15 S11 us3 hv4 hr14
 obtain ⟨S12, S13, cs7, us4, rfl, hv5, hr15⟩ := hv4.cons hr14
 obtain rfl := qeY (hv5.sh.own 0 rfl)
 obtain ⟨rfl, h⟩ := hv5.lastI hr15
 refine zp3 rfl (qY qc h rfl rfl rfl ?_)
 intro w16 bb4 h
 refine zs 0 h rfl ?_
 intro w17 h
 refine zp1 rfl (zNSS ?_)
 obtain ⟨KF1, hKF1, o1, hF, hK1⟩ := bindE hF
 refine qdS (fun e w' => ∃ (b1 : Bool), KF1 b1 = some r ∧ e = [(1, .slice p6 a_1.length k6), (2, .slice p7 a_2.length k7), (4, .pointer (some ⟨bb1, 0, none⟩)), (12, .pointer (some ⟨bb3, 0, none⟩)), (13, .slice p20 r10.length k20), (14, .slice p21 r11.length k21), (63, .bool b1)] ∧ SH w w' [Ch.own S10 (r11 : List Int) [.slice p21 r11.length k21], Ch.own S9 (r10 : List qe) [.slice p20 r10.length k20], Ch.box bb3 [.slice p15 r9.Library.Cells.length k15, .slice p16 r9.Design.Instances.length k16, .slice p17 r9.Design.Nets.length k17, .slice p18 r9.Design.Ports.length k18, .slice p19 r9.Wires.length k19] 50, Ch.own S8 (r9 : qD) [.slice p15 r9.Library.Cells.length k15, .slice p16 r9.Design.Instances.length k16, .slice p17 r9.Design.Nets.length k17, .slice p18 r9.Design.Ports.length k18, .slice p19 r9.Wires.length k19], Ch.box bb1 [.slice p1 a_0.Library.Cells.length k1, .slice p2 a_0.Design.Instances.length k2, .slice p3 a_0.Design.Nets.length k3, .slice p4 a_0.Design.Ports.length k4, .slice p5 a_0.Wires.length k5] 32]) ?_ ?_
 ·refine qx (zl 0 0 h rfl (zl 6 0 h rfl ?_))
  obtain ⟨r21, hr23, hF⟩ := qd hF
  refine qm r21 h call16 (qkq (h.own 1 rfl) (h.own 7 rfl) hr23) rfl rfl rfl rfl ?_
  intro w25 h
  refine zp2 rfl ?_
  by_cases hc8 : (!r21) = true
  ·replace hF := bifT hc8 hF
   refine qC hc8 (t := 59) rfl (zn3 rfl (zp1 rfl (qb ?_)))
   replace h := h.pick [2, 3, 4, 5, 11] rfl
   obtain rfl := qh hF
   exact qw [(1, _), (2, _), (4, _), (12, _), (13, _), (14, _), (63, _)] ⟨rfl, rfl, rfl, rfl, rfl, rfl, rfl, trivial⟩ ⟨_, hK1, rfl, h⟩
  replace hc8 := zb hc8
  replace hF := bifF hc8 hF
  refine qB hc8 (t := 59) rfl (qa rfl (zp1 rfl (qa rfl (zp1 rfl (qa rfl (zp2 rfl (qb ?_)))))))
  replace h := h.pick [2, 3, 4, 5, 11] rfl
  obtain rfl := qh hF
  exact qw [(1, _), (2, _), (4, _), (12, _), (13, _), (14, _), (63, _)] ⟨rfl, rfl, rfl, rfl, rfl, rfl, rfl, trivial⟩ ⟨_, hK1, rfl, h⟩
 rintro e1 w26 ⟨b1, hF, rfl, h⟩
 subst hKF1
 refine qp rfl hF ?_ ?_ <;> intro hF
 ·exact zSR (zp1 rfl (qb (qt qc h hF ⟨rfl, trivial⟩)))
 refine zKSS ?_
 refine qht [] (fun w' => SH w w' [Ch.box bb3 [.slice p15 r9.Library.Cells.length k15, .slice p16 r9.Design.Instances.length k16, .slice p17 r9.Design.Nets.length k17, .slice p18 r9.Design.Ports.length k18, .slice p19 r9.Wires.length k19] 50, Ch.box bb1 [.slice p1 a_0.Library.Cells.length k1, .slice p2 a_0.Design.Instances.length k2, .slice p3 a_0.Design.Nets.length k3, .slice p4 a_0.Design.Ports.length k4, .slice p5 a_0.Wires.length k5] 32]) rfl 5 rfl #[ff, ff, ff, ff, ff] (by kernel_rfl) (fun w18 hb => ?_)
 replace h := h.ext hb
 clear hb
 refine ql 0 rfl #[tt, ff, ff, ff, ff] (by kernel_rfl) (by kernel_rfl) (fun w' hw => qcK qc (hw.box 0 rfl) (j := 0) rfl rfl rfl) (h.pick [2, 4] rfl) rfl ?_
 refine ql 1 rfl #[tt, tt, ff, ff, ff] (by kernel_rfl) (by kernel_rfl) (fun w' hw => qcK qc (hw.box 1 rfl) (j := 0) rfl rfl rfl) (h.pick [2, 4] rfl) rfl ?_
 refine qa6 2 rfl #[tt, tt, tt, ff, ff] (by kernel_rfl) (by kernel_rfl) ?_
 obtain ⟨r15, hr17, hF⟩ := qd hF
 refine qex r15 h call12 (qhy (h.old ha1) hr17) rfl rfl rfl rfl ?_
 intro w19 S15 cs8 h
 obtain ⟨p22, k22, p23, k23, p24, k24, p25, k25, p26, k26, rfl, -, -, -, -, -⟩ := qax (h.own 0 rfl)
 refine qaW (fun _ => (h.pick [3, 5] rfl)) ?_
 refine qa6 3 rfl #[tt, tt, tt, tt, ff] (by kernel_rfl) (by kernel_rfl) ?_
 obtain ⟨r16, hr18, hF⟩ := qd hF
 refine qm r16 h call17 (qld (h.own 4 rfl) (h.own 0 rfl) hr18) rfl rfl rfl rfl ?_
 intro w20 h
 refine qaW (fun _ => (h.pick [3, 5] rfl)) ?_
 refine ql 4 rfl #[tt, tt, tt, tt, tt] (by kernel_rfl) (by kernel_rfl) (fun w' hw => v_p qc rfl w') (h.pick [3, 5] rfl) rfl ?_
 refine qfa (by kernel_rfl) ?_
 refine qp rfl hF ?_ ?_ <;> intro hF
 ·exact zSR (zp1 rfl (qb (qt qc h hF ⟨rfl, trivial⟩)))
 refine zKSSR (zp2 rfl ?_)
 obtain ⟨r17, hr19, hF⟩ := qd hF
 refine qay r17 h call13 (qfo ⟨_, _, rfl, (h.oldS s6)⟩ hr19) rfl rfl rfl rfl ?_
 intro w21 S16 p27 k27 h
 obtain ⟨r18, hr20, hF⟩ := qd hF
 refine qm r18 h call18 (qiW (h.own 3 rfl) (h.own 0 rfl) hr20) rfl rfl rfl rfl ?_
 intro w22 h
 refine zp1 rfl (qb ?_)
 refine qp rfl hF ?_ ?_ <;> intro hF
 ·exact zSR (zp1 rfl (qb (qt qc h hF ⟨rfl, trivial⟩)))
 refine zKSSR (zp2 rfl ?_)
 obtain ⟨r19, hr21, hF⟩ := qd hF
 refine qay r19 h call14 (qaA ⟨_, _, rfl, (h.oldS s7)⟩ hr21) rfl rfl rfl rfl ?_
 intro w23 S17 p28 k28 h
 obtain ⟨r20, hr22, hF⟩ := qd hF
 refine qm r20 h call19 (qaX (h.own 3 rfl) (h.own 0 rfl) hr22) rfl rfl rfl rfl ?_
 intro w24 h
 refine zp1 rfl (qb ?_)
 refine qp rfl hF ?_ ?_ <;> intro hF
 ·exact zSR (zp1 rfl (qb (qt qc h hF ⟨rfl, trivial⟩)))
 exact zKSR (zp1 rfl (qb (qt qc h hF ⟨rfl, trivial⟩)))

end Go.Fw


namespace Go.Fw
open Go

structure qre (x : qR) : Prop where
  False : okT x.False
  Cycles : okI x.Cycles
  MaxLimit : okI x.MaxLimit
  MinLimit : okI x.MinLimit
theorem qoS {a : qR} : Ev (fun n => qfL n a a) true := by
  unfold qfL
  exact Ev.ff qkc (Ev.ff qbt (Ev.ff qbt (Ev.ff qbt (.done))))

end Go.Fw


namespace Go.Fw
open Go
set_option maxRecDepth 100000

theorem qp4 {b : qD} {es : List qe} {tag : List Int} {p : Int} (hes : okL qci es) (ht : tag.length = es.length) (hx : es.all (excB b) = true) : Ev (fun n => qft n es tag p) (effE (selE es (fun i => matT (gt es i) (at0 tag i) p) es.length)) := by
  have hl := hes.len
  have hL : Ev (fun n => qbn es tag p n ([] : List Bool) 0) (pre (fun i => matT (gt es i) (at0 tag i) p) es.length, (es.length : Int)) := by
    refine loopF (Lf := qbn es tag p) (S := pre fun i => matT (gt es i) (at0 tag i) p) (len := es.length) (fun n => ?_) (fun j hj X hX => ?_)
    · simp only [qbn, qv (Nat.le_refl _), cond_false]
    · have hap := qqu (f := fun i => matT (gt es i) (at0 tag i) p) (show j ≤ 1048576 by omega)
      simp only [qbn, qu hj, cond_true, qat hj, qb5 (show j < tag.length by omega), Option.bind_some, qr (show j < 9223372036854775807 by omega)]
      refine Ev.bind (b := toB (gt es j) p) ?_ ?_
      · unfold toB
        by_cases h0 : (gt es j).To.length = 0
        · exact Ev.tt (by simp [h0]) (Ev.now (by rw [decide_eq_true h0]; rfl))
        · refine Ev.ff (by rw [Bool.eq_false_iff, Ne, beq_iff_eq]; omega) ?_
          rw [decide_eq_false h0, Bool.false_or]
          exact Ev.bind (qoM (qh7 hes hj).To.len) (Ev.now (by rw [qhO]; rfl))
      · simp only [matT] at hap
        cases h3 : toB (gt es j) p
        · simp only [h3, Bool.and_false] at hap
          exact Ev.ff rfl (Ev.bindN hap hX)
        · simp only [h3, Bool.and_true] at hap
          exact Ev.tt rfl (Ev.bindN hap hX)
  unfold qft
  exact Ev.bind hL (Ev.bind (qn1 (b := b) hl hx) .done)

theorem qln {b : qD} {es : List qe} {tag : List Int} {p : Int} (hok : qgk b) (hes : okL qci es) (_ : okL okI tag) : ∃ R : qR × Int, Ev (fun n => qeG n b es tag p) R ∧ Ev (fun n => qez n b es tag p) R := by
  have hl := hes.len
  obtain ⟨o, ev, _⟩ := qpE (p := p) hok hes
  have hc := qn3 (p := p) hok hes
  have f1 := qpn (tag := tag) hl
  have f2 := qpj (tag := tag) hl
  unfold qeG qez
  by_cases h0 : codeP b es p = 0
  · have hx := (qjN (qnX h0)).2.2
    rw [h0] at ev hc
    cases hf : fitsB es tag
    · rw [hf] at f1 f2
      exact ⟨(⟨false, 0, 0, 0⟩, 2), Ev.bind hc (Ev.ff rfl (Ev.bind f1 (Ev.tt rfl .done))), Ev.bind ev (Ev.ff rfl (Ev.bind f2 (Ev.tt rfl .done)))⟩
    · rw [hf] at f1 f2
      have ht := qo9 hf
      exact ⟨(_, 0), Ev.bind hc (Ev.ff rfl (Ev.bind f1 (Ev.ff rfl (Ev.bind (qp4 hes ht hx) .done)))), Ev.bind ev (Ev.ff rfl (Ev.bind f2 (Ev.ff rfl (Ev.bind (qoc hes ht) .done))))⟩
  · have hne : (codeP b es p != 0) = true := by simpa using h0
    exact ⟨(⟨false, 0, 0, 0⟩, codeP b es p), Ev.bind hc (Ev.tt hne .done), Ev.bind ev (Ev.tt hne .done)⟩

theorem qiJ {b : qD} {es : (List qe)} {tag : (List Int)} {p : Int} (h0 : qjs b) (h1 : (rngL qes) es) (h2 : (rngL rngI) tag) (h3 : rngI p) : Ev (fun n => qdo n b es tag p) true := by
  unfold qdo
  refine Ev.bif (fun _ => .done) (fun hl => ?_)
  have hl2 : tag.length ≤ 1048576 := by have := of_decide_eq_false hl; omega
  obtain ⟨r1, e1, q1⟩ := qpa (a := b) (left := 1048576) h0 (by omega) (by omega)
  refine Ev.bind e1 ?_
  rcases q1 with q1 | ⟨p1, q1⟩
  · exact Ev.tt (by simpa using q1) .done
  refine Ev.ff (by simp; omega) ?_
  obtain ⟨r2, e2, q2⟩ := qlY (a := es) (left := r1) h1 p1 (by omega)
  refine Ev.bind e2 ?_
  rcases q2 with q2 | ⟨p2, q2⟩
  · exact Ev.tt (by simpa using q2) .done
  refine Ev.ff (by simp; omega) ?_
  have w0 : qgt b ≤ 1048576 := by omega
  have k0 := qnQ h0 w0
  have w1 : qcH es ≤ 1048576 := by omega
  have k1 := qk2 h1 w1
  have w2 : qcd tag ≤ 1048576 := by unfold qcd; omega
  have k2 := qcr h2 w2
  obtain ⟨⟨R0, R1⟩, hs, hi⟩ := qln (b := b) (es := es) (tag := tag) (p := p) k0 k1 k2
  refine Ev.bind (qlw w0) ?_
  refine Ev.bind (qie w1) ?_
  refine Ev.bind (qc5 w2) ?_
  refine Ev.bind hs ?_
  refine Ev.bind (qlw w0) ?_
  refine Ev.bind (qie w1) ?_
  refine Ev.bind (qc5 w2) ?_
  refine Ev.bind hi ?_
  refine Ev.bind (b := false) (Ev.bind (qoS) (Ev.ff rfl (Ev.now (by simp)))) (Ev.ff rfl ?_)
  refine Ev.bind (qlw w0) ?_
  refine Ev.bind (qpi w0) (Ev.ff rfl ?_)
  refine Ev.bind (qie w1) ?_
  refine Ev.bind (ql6 w1) (Ev.ff rfl ?_)
  refine Ev.bind (qc5 w2) ?_
  refine Ev.bind (qdJ w2) (Ev.ff rfl ?_)
  exact .done

end Go.Fw
