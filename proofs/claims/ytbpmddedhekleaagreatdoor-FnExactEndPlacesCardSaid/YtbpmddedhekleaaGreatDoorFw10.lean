/- Cuts, struct literals, more laws for the walk. -/
import Derived.Test.YtbpmddedhekleaaGreatDoorFw9
namespace Go.Fw
open Go
open Go.RowKit (Below)

section
variable {P : Program} {T : Tab} {n : Nat} {Q : Exit → Act → World → Prop} {k : List It} {e : Env} {w0 w w' : World} {L : List Ch}

def CutJ (n : Nat) (J : Env → World → Prop) (a : Act) (w : World) : Prop := ∃ e, Agree n e a ∧ J e w

theorem post_cut {J : Env → World → Prop} (h2 : ∀ e w, J e w → Run P n Q k e w) : ∀ ex a w, post P Q (.goal (CutJ n J) :: k) ex a w → post P Q k ex a w := by
  intro ex a w h
  cases ex with
  | normal => obtain ⟨e, ha, hJ⟩ := h; exact h2 e w hJ a ha
  | exit id => exact h
  | goto l => exact h
  | ret => exact h
  | panic c => exact h
  | outgrown => exact h

/-- The code at the top up to a statement of one's own, and from there on. -/
theorem r_cut {c : Code} (J : Env → World → Prop) (h1 : Run P n Q (.code c :: .goal (CutJ n J) :: k) e w) (h2 : ∀ e w, J e w → Run P n Q k e w) : Run P n Q (.code c :: k) e w :=
  fun a ha => wp_mono (h1 a ha) (post_cut h2)

theorem r_cutgoal {J : Env → World → Prop} (e' : Env) (hs : subEnv e e') (hJ : J e' w) : Run P n Q (.goal (CutJ n J) :: k) e w :=
  fun _ ha => ⟨e', ha.sub hs, hJ⟩

def fieldPlaces (fs : List (Nat × Nat × Option Bool)) (i : Nat) : Option (Nat × Nat) :=
  match fs[i]? with
  | some (o, s, _) => some (o, s)
  | none => none

theorem run_sizes (w : World) : ∀ (fs : List Field), (∀ f ∈ fs, (aggO P f.type).isSome = true) → (fs.mapM fun f => Prod.mk f.offset <$> sizeOf f.type).run P w = .ok (fs.map fun f => (f.offset, P.cellsOf f.type)) w
  | [], _ => by simp
  | f :: fs, h => by
    have ih := run_sizes w fs (fun g hg => h g (by simp [hg]))
    obtain ⟨b, hb⟩ := Option.isSome_iff_exists.1 (h f (by simp))
    have hs := info_of_agg hb rfl w
    simp [List.mapM_cons, hs, ih]

theorem run_buildS (hT : TabOk P T) {t : TypeId} {te : TE} {zc : Array Value} {parts : List (Nat × Value)} {cs : List Value} (hte : T.get t = some te) (hk : te.kind = .struct) (hz : te.zero = some (.agg zc)) (hag : te.fields.all (fun f => f.2.2.isSome) = true)
    (hf : fillS (fieldPlaces te.fields) zc.toList parts = some cs) (w : World) : (Instr.build t parts.toArray).run P w = .ok (.agg cs.toArray) w := by
  have hpr := hT _ _ hte
  obtain ⟨i, hi, _, _, hzi⟩ := probe_info hpr
  obtain ⟨d, hd, hkd⟩ := probe_und hpr
  rw [hk] at hkd
  cases d <;> simp at hkd
  rename_i fs
  have hfs : te.fields = fs.toList.map (fun f => (f.offset, P.cellsOf f.type, aggO P f.type)) := by
    unfold probe at hpr
    rw [hi, hd] at hpr
    simp only [Option.some.injEq] at hpr
    rw [← hpr]
  have hall : ∀ f ∈ fs.toList, (aggO P f.type).isSome = true := by
    intro f hf'
    rw [hfs] at hag
    simp only [List.all_map, List.all_eq_true, Function.comp] at hag
    exact hag f hf'
  have hm := run_sizes (P := P) w fs.toList hall
  have hfill := fill_of_fillS _ _ _ _ hf
  have hpl : ∀ (n : Nat), fieldPlaces te.fields n = (fs.toList.map fun f => (f.offset, P.cellsOf f.type)).toArray[n]? := by
    intro n
    unfold fieldPlaces
    rw [hfs]
    simp only [List.getElem?_map, List.getElem?_toArray]
    cases fs.toList[n]? <;> rfl
  have hmm : (fs.mapM fun f => Prod.mk f.offset <$> sizeOf f.type).run P w = .ok (fs.toList.map fun f => (f.offset, P.cellsOf f.type)).toArray w := by
    rw [← Array.toArray_toList (xs := fs), List.mapM_toArray]
    simp only [Sem.run_map]
    rw [hm]
    rfl
  have hfill' : Instr.fill ((fs.toList.map fun f => (f.offset, P.cellsOf f.type)).toArray[·]?) zc parts = some cs.toArray := by
    have : (fun n => (fs.toList.map fun f => (f.offset, P.cellsOf f.type)).toArray[n]?) = fieldPlaces te.fields := funext fun n => (hpl n).symm
    rw [this]
    simpa using hfill
  have hzz : i.zero = some (.agg zc) := hzi.trans hz
  simp only [Instr.build, zeroValue, typeInfo, Sem.run_bind, run_program, Result.andThen_ok, hi, Sem.run_pure, hzz, run_underlying hd, Value.cells]
  have hmm' : (fs.mapM fun f => (do let __do_lift ← sizeOf f.type; pure (f.offset, __do_lift) : Sem (Nat × Nat))).run P w = .ok (fs.toList.map fun f => (f.offset, P.cellsOf f.type)).toArray w := by
    simpa using hmm
  rw [hmm']
  simp only [Result.andThen_ok, hfill', Sem.run_pure]

/-- A struct literal. -/
theorem v_build (hT : TabOk P T) {t d ty : Nat} {ps : String} {af : Array Edge} {g : Option (Nat × Bool)} {parts : Array (Nat × Operand)} {te : TE} {zc : Array Value} (is : List Nat) (os : List Operand) {vs : List Value} {cs : List Value}
    (hparts : parts.toList = is.zip os) (_ : is.length = os.length) (hvs : opvs e os = some vs) (hte : T.get t = some te) (hk : te.kind = .struct) (hz : te.zero = some (.agg zc)) (hag : te.fields.all (fun f => f.2.2.isSome) = true)
    (hf : fillS (fieldPlaces te.fields) zc.toList (is.zip vs) = some cs) : Val P n e ⟨some d, .build t parts, ty, ps, af, g⟩ w (.agg cs.toArray) := by
  intro a ha
  have hev : parts.map (fun (x : Nat × Operand) => (x.1, a.eval x.2)) = (is.zip vs).toArray := by
    apply Array.ext'
    rw [Array.toList_map, hparts]
    have := opvs_spec ha hvs
    subst this
    simp only [List.zip_map_right]
    rfl
  have hr := run_buildS hT hte hk hz hag hf w
  simp only [execOp, hev, Sem.run_bind, hr, Result.andThen_ok, Sem.run_pure]

/-! ### Plain words for what may fail -/
end

def shlS (a b : Int) : Option Int := if 0 ≤ b then some (IntKind.i64.wrap (a * 2 ^ (min b.toNat IntKind.i64.bits))) else none
theorem shlS_some {a b r : Int} (h : shlS a b = some r) : 0 ≤ b ∧ IntKind.i64.wrap (a * 2 ^ (min b.toNat IntKind.i64.bits)) = r := by
  unfold shlS at h; split at h
  · rename_i hb; exact ⟨hb, Option.some.inj h⟩
  · cases h

/-- What an element of a list that is owned reads as, in whatever world. -/
theorem own_cells {α : Type} [GoT α] [Flat α] {w0 w w1 : World} {L : List Ch} {S S1 : Nat → Prop} {xs : List α} {p : Option Addr} {ln c b o q : Nat} {iv : Int} {x : α} {cs : List Value} (h : SH w0 w L) (i : Nat) (hi : L[i]? = some (Ch.own S xs [.slice p ln c]))
    (hx : idx xs iv = some x) (hp : p = some ⟨b, o, none⟩) (hq : q = o + iv.toNat * GoT.k α) (hr : GoT.R w1 S1 x cs) : CellsAt w b q cs := by
  obtain ⟨b', o', q', cs', hp', hq', _, hr', hc'⟩ := (h.sl i hi).1.at hx
  rw [hp] at hp'
  simp only [Option.some.injEq, Addr.mk.injEq, and_true] at hp'
  obtain ⟨rfl, rfl⟩ := hp'
  subst hq hq'
  rw [Flat.det hr hr']
  exact hc'

/-! ### Functions that write into what they are handed -/

section
variable {P : Program} {T : Tab} {n : Nat} {Q : Exit → Act → World → Prop} {k : List It} {e : Env} {w0 w w' : World} {L L' : List Ch}

/-- Some of the first parts, and all behind them. -/
theorem SH.pickT (m : Nat) (is : List Nat) (h : SH w0 w L) (hn : (nodupB is && is.all (fun i => Nat.blt i m)) = true) : SH w0 w (pickL L is ++ L.drop m) := by
  simp only [Bool.and_eq_true, List.all_eq_true] at hn
  have h1 := h.pick is hn.1
  refine ⟨h.below, fun c hc => ?_, fun c hc => ?_, ?_⟩
  · rcases List.mem_append.1 hc with hc | hc
    · exact h1.holds c hc
    · exact h.holds c (List.mem_of_mem_drop hc)
  · rcases List.mem_append.1 hc with hc | hc
    · exact h1.elder c hc
    · exact h.elder c (List.mem_of_mem_drop hc)
  · refine List.pairwise_append.2 ⟨h1.apart, h.apart.sublist (List.drop_sublist _ _), fun c hc d hd b hcb hdb => ?_⟩
    obtain ⟨i, hi, hic⟩ := mem_pickL hc
    have him : i < m := by simpa [Nat.blt_eq] using hn.2 i hi
    obtain ⟨j, hj, hjd⟩ := List.getElem_of_mem hd
    rw [List.getElem_drop] at hjd
    obtain ⟨hil, rfl⟩ := List.getElem?_eq_some_iff.1 hic
    have hjl : m + j < L.length := by simp at hj; omega
    subst hjd
    exact List.pairwise_iff_getElem.1 h.apart i (m + j) hil hjl (by omega) b hcb hdb

theorem SH.headV {c : Ch} (h : SH w0 w (c :: L)) : SHV w0 w c.S L ∧ c.P w := by
  have hpw := List.pairwise_cons.1 h.apart
  exact ⟨⟨⟨h.below, fun d hd => h.holds d (by simp [hd]), fun d hd => h.elder d (by simp [hd]), hpw.2⟩, (h.holds c (by simp)).2, fun d hd b hdb hcb => hpw.1 d hd b hcb hdb⟩, (h.holds c (by simp)).1⟩

theorem SHV.less {S S2 : Nat → Prop} (h : SHV w0 w S L) (h2 : ∀ b, S2 b → S b) : SHV w0 w S2 L :=
  ⟨h.sh, fun b hb => h.fr b (h2 b hb), fun c hc b hcb hb => h.ap c hc b hcb (h2 b hb)⟩
end
end Go.Fw
