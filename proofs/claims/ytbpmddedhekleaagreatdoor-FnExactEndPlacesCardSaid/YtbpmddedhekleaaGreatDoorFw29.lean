/- A law of arguments of whatever number, behind its opening. -/
import Derived.Test.YtbpmddedhekleaaGreatDoorFw28
namespace Go.Fw
open Go
open Go.ChangeShapes Go.WideShapes Go.ChangeAt Go.RowKit

/-- An argument that is one. -/
theorem open_arg2 {P : Program} {H : Type} {enc : TypeId × Value → H} {W : World} {t : TypeId} {v : Value} {d : DataW H} {p : List MemPlace} {α : Type} [A : GoT α] {ρ : α → Prop} (ho : Opens P t A ρ) (hag : A.agg = true) {fs : Array Field} (ht : P.underlying t = some (.struct fs)) {r : Reach} {b : Nat} (hok : Value.okWide P W r b t v)
    (h : DataW.Trod enc P W 0 (fun _ => true) true t v d p) : ∃ x : α, ∃ cs, v = GoT.v α cs ∧ A.R W (old W) x cs ∧ ρ x := by
  unfold Value.okWide at hok
  rw [ht] at hok
  obtain ⟨cs, rfl, _⟩ := hok
  obtain ⟨fuel, hf⟩ := h
  obtain ⟨x, hR, hx⟩ := ho.2 hf
  refine ⟨x, _, ?_, hR, hx⟩
  unfold GoT.v mkV
  rw [hag]
  simp [Value.cells]
section
variable {P : Program} {H : Type} {enc : TypeId × Value → H}
theorem trodAll_below (hl : laidOutB P = true) {W W' : World} (hb : Below W.heap.size W W') : ∀ {ts : List TypeId} {vs : List Value} {ds : List (DataW H)} {ps : List MemPlace}, (∀ t ∈ ts, P.readableRec t = true ∧ t < P.types.size) →
    DataW.TrodAll enc P W 0 (fun _ => true) true ts vs ds ps → (∀ x ∈ ps, x.block < W.heap.size) →
    DataW.TrodAll enc P W' 0 (fun b => decide (b < W.heap.size)) true ts vs ds ps ∧ DataW.TrodAll enc P W' 0 (fun _ => true) true ts vs ds ps := by
  intro ts
  induction ts with
  | nil =>
    intro vs ds ps _ h _
    obtain ⟨rfl, rfl, rfl⟩ := trodAll_nil h
    exact ⟨rfl, rfl⟩
  | cons t ts ih =>
    intro vs ds ps hr h hlt
    obtain ⟨v, vs', d, ds', p, q, rfl, rfl, rfl, hd, hrest⟩ := trodAll_cons h
    obtain ⟨h1, h2⟩ := ih (fun u hu => hr u (List.mem_cons_of_mem _ hu)) hrest (fun x hx => hlt x (List.mem_append.2 (.inr hx)))
    obtain ⟨r1, r2⟩ := hr t (List.mem_cons_self ..)
    have hlt1 : ∀ x ∈ p, x.block < W.heap.size := fun x hx => hlt x (List.mem_append.2 (.inl hx))
    exact ⟨⟨p, q, Below.trod hl r1 r2 hd hb hlt1, h1, rfl⟩, ⟨p, q, WideElems.Trod_stays hl r1 r2 hd (fun x hx => hb.same (hlt1 x hx)) (fun _ _ => rfl), h2, rfl⟩⟩
end

/-- What is left of a law behind its opening. -/
theorem law_postN {P : Program} {H : Type} {enc : TypeId × Value → H} {fn : Func} {s : ChangeSpec} {apart fresh handsOn again : Bool} {W W' : World} {tb : TypeId} {args : Array Value} {ds : List (DataW H)} {p : List MemPlace}
    (hl : laidOutB P = true) (hrr : (fn.params.toList.all fun t => P.readableRec t && decide (t < P.types.size)) = true) (hres : fn.resultTypes = #[tb]) (htb : P.underlying tb = some .bool) (hvars : s.vars = [])
    (hr : (s.fn H (ds ++ [])).results = [.lit (.bool true)]) (ha : (s.fn H (ds ++ [])).args = ds) (hv : (s.fn H (ds ++ [])).vars = [])
    (hW : DataW.Whole enc P fn.params.toList s.vars apart W args.toList ds [] p) (hb : Below W.heap.size W W') :
    s.post enc P fn apart fresh handsOn again W args (.bool true) W' := by
  have hW0 := hW
  obtain ⟨p0, q0, hA, hV, rfl, hz, hn⟩ := hW
  rw [hvars] at hV
  obtain rfl : q0 = [] := hV
  simp only [List.append_nil] at hW0 hz hn
  have hlt : ∀ x ∈ p0, x.block < W.heap.size := fun x hx => hW0.lt x hx
  obtain ⟨h0', h1'⟩ := trodAll_below hl hb (fun t ht => by
    have := List.all_eq_true.1 hrr t ht
    simpa using this) hA hlt
  have hR : ∀ (b : Nat) (sp : Nat → Bool) (hd : Bool), DataW.TrodAll enc P W' b sp hd fn.resultTypes.toList ((Value.bool true).resultList fn.resultTypes.size) (s.fn H (ds ++ [])).results [] := by
    intro b sp hd
    rw [hres, hr]
    exact trodAll_mk1 (shut_bool htb true)
  have hR2 : (Value.bool true).resultList fn.resultTypes.size = [.bool true] := by rw [hres]; rfl
  refine ⟨ds, [], p0, [], p0, [], hW0, hR _ _ _, ?_, ?_, hb.frame _, fun _ => ?_⟩
  · rw [ha]
    exact h0'
  · rw [hvars, hv]
    exact rfl
  · refine ⟨ok_one hres rfl (okWide_bool_mk htb true), .lit (.bool true) :: ds, [], p0, ⟨p0, [], ?_, ?_, by simp, ?_, ?_⟩, fun x hx _ => hx⟩
    · rw [hR2, hres]
      exact ⟨[], p0, shut_bool htb true, h1', by simp⟩
    · rw [hvars]; exact rfl
    · intro b off hm
      rw [hb.frozen (hlt _ hm)]
      exact hz b off hm
    · intro hap
      exact hn hap
end Go.Fw
