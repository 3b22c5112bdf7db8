/- Guards on what was not wanted; elements that are out; parts of slices; bits; bytes; arrays; nil. -/
import Derived.Test.YtbpmddedhekleaaGreatDoorFw20
import Derived.Laws.BytesString
namespace Go.Fw
open Go
open Go.RowKit (Below)

def guardU (e : Env) (all : Array Oper) (o : Oper) : Bool :=
  match o.guard with
  | none => false
  | some (j, _) =>
    match all[j]? with
    | none => false
    | some p =>
      match p.dst with
      | none => false
      | some t =>
        match e.get t with
        | some (.tuple _) => true
        | _ => false

/-- It is known that the operation is not wanted. -/
def notW (e : Env) (all : Array Oper) (o : Oper) : Bool := guardU e all o || (match guardOf e all o with | some false => true | _ => false)

section
variable {P : Program} {T : Tab} {n : Nat} {Q : Exit → Act → World → Prop} {k : List It} {e : Env} {w0 w w' w1 : World} {L : List Ch}

theorem guardU_spec {all : Array Oper} {o : Oper} {a : Act} (ha : Agree n e a) (h : guardU e all o = true) : Region.wanted o (yielded all a.tmps) = false := by
  unfold guardU at h
  unfold Region.wanted
  split at h
  · cases h
  · rename_i j want hg
    rw [hg]
    simp only
    split at h
    · cases h
    · rename_i p hp
      split at h
      · cases h
      · rename_i t ht
        split at h
        · rename_i c hc
          have h1 := ha.at_ t _ hc
          have hy : yielded all a.tmps j = none := by simp [yielded, hp, ht, h1]
          rw [hy]
          rfl
        · cases h

theorem notW_spec {all : Array Oper} {o : Oper} {a : Act} (ha : Agree n e a) (h : notW e all o = true) : Region.wanted o (yielded all a.tmps) = false := by
  unfold notW at h
  rw [Bool.or_eq_true] at h
  rcases h with h | h
  · exact guardU_spec ha h
  · split at h
    · rename_i hg; exact guardOf_spec ha hg
    · cases h

/-- What is not wanted leaves no value. -/
theorem r_not {all : Array Oper} {o : Oper} {l : List Oper} {d : Nat} (h : notW e all o = true) (hd : o.dst = some d) (hn : Nat.blt d n = true)
    (hk : Run P n Q (.ops all l :: k) ((d, undef) :: e) w) : Run P n Q (.ops all (o :: l) :: k) e w := by
  intro a ha
  show wpList P all (post P Q k) (o :: l) a w
  rw [wpList, if_neg (by rw [notW_spec ha h]; simp), hd]
  exact hk _ (ha.put hn undef)

theorem d_not {all : Array Oper} {o : Oper} {l : List Oper} {d : Nat} (h : notW e all o = true) (hd : o.dst = some d) (hn : Nat.blt d n = true)
    (hk : RunD P n Q k all w l ((d, undef) :: e)) : RunD P n Q k all w (o :: l) e := by
  intro a ha
  rw [wpQuiet, if_neg (by rw [notW_spec ha h]; simp), hd]
  exact hk _ (ha.put hn undef)

/-! ### Elements that are out -/

theorem hole_cells {α : Type} [GoT α] {S : Nat → Prop} {xs : List α} {p : Option Addr} {ln c i b q : Nat} {cs : List Value} (h : SH w0 w L) (m : Nat) (hi : L[m]? = some (Ch.hole S xs p ln c i cs)) (hp : p = some ⟨b, 0, none⟩) (hq : q = 0 + i * GoT.k α) : CellsAt w b q cs := by
  obtain ⟨b', hp', hc, _⟩ := h.holeAt m hi
  rw [hp] at hp'
  simp only [Option.some.injEq, Addr.mk.injEq, and_true] at hp'
  subst hp' hq
  rw [Nat.zero_add]
  exact hc

theorem sh_any {α : Type} [GoT α] {S : Nat → Prop} {x : α} {cs : List Value} (h : SH w0 w (Ch.own S x cs :: L)) : ∃ S', SH w0 w (Ch.own S' x cs :: L) := ⟨S, h⟩

/-! ### Parts of slices -/

theorem sub_of {α : Type} [GoT α] {S : Nat → Prop} {xs r : List α} {p : Option Addr} {c : Nat} {lo hi : Int} (f : SlR w S xs p c) (hx : subS xs lo hi = some r) :
    ∃ p1 k1, subP (GoT.k α) p c lo.toNat = p1 ∧ c - lo.toNat = k1 ∧ hi.toNat - lo.toNat = r.length ∧ 0 ≤ lo ∧ lo ≤ hi ∧ hi ≤ xs.length ∧ xs.length ≤ c := by
  obtain ⟨h0, h1, h2, rfl⟩ := subS_some hx
  exact ⟨_, _, rfl, rfl, (sub_len (by omega) (by omega)).symm, h0, h1, h2, f.1⟩

theorem sub_at {α : Type} [GoT α] {S : Nat → Prop} {xs r : List α} {p p1 : Option Addr} {c k1 : Nat} {lo hi : Int} (f : SlR w S xs p c) (hx : subS xs lo hi = some r) (hp : subP (GoT.k α) p c lo.toNat = p1) (hk : c - lo.toNat = k1) : SlR w S r p1 k1 := by
  obtain ⟨h0, h1, h2, rfl⟩ := subS_some hx
  subst hp hk
  exact f.sub (by omega) (by omega)

theorem sub_ln {lo hi : Int} {m c ln : Nat} (g : 0 ≤ lo ∧ lo ≤ hi ∧ hi ≤ (m : Int) ∧ m ≤ c) (e : ln = m) : 0 ≤ lo ∧ lo ≤ hi ∧ hi ≤ (ln : Int) ∧ ln ≤ c := by subst e; exact g

theorem v_sliceE (hT : TabOk P T) {x : Operand} {lo hi : Option Operand} {t ty d el : Nat} {ps : String} {af : Array Edge} {g : Option (Nat × Bool)} {te te' : TE} {p p1 : Option Addr} {c ln m k1 rl : Nat} {l h : Int}
    (hx : opv e x = some (.slice p ln c)) (hlo : optI e lo 0 = some l) (hhi : optI e hi ln = some h) (hb : 0 ≤ l ∧ l ≤ h ∧ h ≤ ln ∧ ln ≤ c) (hp : subP m p c l.toNat = p1) (hk1 : c - l.toNat = k1) (hl : h.toNat - l.toNat = rl)
    (hte : T.get t = some te) (hk : te.kind = .slice el) (hel : T.get el = some te') (hm : te'.size = m) : Val P n e ⟨some d, .slice t x lo hi none, ty, ps, af, g⟩ w (.slice p1 rl k1) := by
  subst hp hk1 hl
  exact v_slice hT hx hlo hhi hb.1 hb.2.1 hb.2.2.1 hb.2.2.2 hte hk hel hm

/-! ### Numbers -/

/-! ### Pointers against nil -/

/-! ### Arrays -/

theorem probe_arr {t m el : Nat} {x : TE} (h : probe P t = some x) (hk : x.kind = .arr m el) : P.underlying t = some (.array m el) := by
  obtain ⟨d, hd, hx⟩ := probe_und h
  rw [hk] at hx
  rw [hd]
  cases d <;> simp at hx
  rw [hx.1, hx.2]

/-- The place of an element of an array, by a number that is known. -/
theorem v_ixA (hT : TabOk P T) {x i : Operand} {t ty d el m sz b o : Nat} {ps : String} {af : Array Edge} {g : Option (Nat × Bool)} {te te' : TE} {kd : IntKind} {iv : Nat}
    (hx : opv e x = some (.pointer (some ⟨b, o, none⟩))) (hi : opv e i = some (.int kd (iv : Int))) (hlt : iv < m)
    (hte : T.get t = some te ∧ te.kind = .arr m el) (hel : T.get el = some te') (hm : te'.size = sz) : Val P n e ⟨some d, .indexAddr t x i, ty, ps, af, g⟩ w (.pointer (some ⟨b, o + iv * sz, none⟩)) := by
  intro a ha
  subst hm
  have hu := probe_arr (hT _ _ hte.1) hte.2
  have hs := run_sizeOf (hT _ _ hel) w
  have hlt' : 0 ≤ (iv : Int) ∧ (iv : Int) < (m : Int) := ⟨by omega, by omega⟩
  simp only [execOp, ha.eval hx, ha.eval hi, Sem.run_bind, Instr.indexAt, Instr.sureAddr, asIntOf, asAddr, Sem.run_pure, Result.andThen_ok, run_underlying hu]
  rw [if_pos hlt']
  simp only [Sem.run_bind, hs, Result.andThen_ok, Sem.run_pure, add_lit, Int.toNat_natCast]

/-- An array literal. -/
theorem v_buildA (hT : TabOk P T) {t d ty m el sz : Nat} {ps : String} {af : Array Edge} {g : Option (Nat × Bool)} {parts : Array (Nat × Operand)} {te te' : TE} {zc : Array Value} (is : List Nat) (os : List Operand) {vs : List Value} {cs : List Value}
    (hparts : parts.toList = is.zip os) (_ : is.length = os.length) (hvs : opvs e os = some vs) (hte : T.get t = some te) (hk : te.kind = .arr m el) (hz : te.zero = some (.agg zc)) (hel : T.get el = some te') (hm : te'.size = sz)
    (hf : fillS (fun i => some (i * sz, sz)) zc.toList (is.zip vs) = some cs) : Val P n e ⟨some d, .build t parts, ty, ps, af, g⟩ w (.agg cs.toArray) := by
  intro a ha
  subst hm
  have hev : parts.map (fun (x : Nat × Operand) => (x.1, a.eval x.2)) = (is.zip vs).toArray := by
    apply Array.ext'
    rw [Array.toList_map, hparts]
    have := opvs_spec ha hvs
    subst this
    simp only [List.zip_map_right]
    rfl
  have hpr := hT _ _ hte
  obtain ⟨i, hi, _, _, hzi⟩ := probe_info hpr
  have hu := probe_arr hpr hk
  have hs := run_sizeOf (hT _ _ hel) w
  have hfill := fill_of_fillS _ _ _ _ hf
  have hzz : i.zero = some (.agg zc) := hzi.trans hz
  have hfill' : Instr.fill (fun i => some (i * te'.size, te'.size)) zc (is.zip vs) = some cs.toArray := by simpa using hfill
  simp only [execOp, hev, Instr.build, zeroValue, typeInfo, Sem.run_bind, run_program, Result.andThen_ok, hi, Sem.run_pure, hzz, run_underlying hu, Value.cells, hs, hfill']

/-! ### Bytes -/

def strOf (xs : List (IntK .u8)) : ByteArray := (xs.map (·.val)).foldl (fun r n => r.push (UInt8.ofNat n.toNat)) ByteArray.empty

theorem load_flat {α : Type} [GoT α] {S : Nat → Prop} {xs : List α} {b o c : Nat} (g : α → Value) (h : SlR w S xs (some ⟨b, o, none⟩) c) (hk : GoT.k α = 1) (hg : ∀ (x : α) (cs : List Value) (w : World) (S : Nat → Prop), GoT.R w S x cs → cs = [g x]) :
    (loadCells ⟨b, o, none⟩ xs.length).run P w = .ok (xs.map g).toArray w := by
  obtain ⟨h1, h2, h3⟩ := h
  have := run_loadCells_list (P := P) w ⟨b, o, none⟩ (xs.map g) (fun i u hi => by
    rw [List.getElem?_map] at hi
    obtain ⟨x, hx, rfl⟩ := Option.map_eq_some_iff.1 hi
    rcases h3 with ⟨_, rfl⟩ | ⟨b', o', cur, T, fr, hp, hb, hgc, hc, he⟩
    · simp at hx
    · simp only [Option.some.injEq, Addr.mk.injEq, and_true] at hp
      obtain ⟨rfl, rfl⟩ := hp
      obtain ⟨cs, hr, hj⟩ := he i x hx
      have := hj 0 (g x) (by rw [hg x cs w S hr]; rfl)
      rw [hk, Nat.mul_one, Nat.add_zero] at this
      rw [add_lit]
      simp [World.cell?, hgc, this])
  rw [List.length_map] at this
  exact this

theorem v_bytes (hT : TabOk P T) {x : Operand} {s d' ty d el : Nat} {ps : String} {af : Array Edge} {g : Option (Nat × Bool)} {te te' te2 : TE} {p : Option Addr} {ln c : Nat} {S : Nat → Prop} {xs : List (IntK .u8)}
    (f : SlR w S xs p c) (hl : ln = xs.length) (hx : opv e x = some (.slice p ln c)) (hs : T.get s = some te ∧ te.kind = .slice el) (hd : T.get d' = some te' ∧ te'.kind = .str) (hel : T.get el = some te2) (hk : te2.kind = .int .u8) :
    Val P n e ⟨some d, .convert s d' x, ty, ps, af, g⟩ w (.string (strOf xs)) := by
  intro a ha
  subst hl
  have hu := probe_slice (hT _ _ hs.1) hs.2
  have hv := probe_str (hT _ _ hd.1) hd.2
  have hw := probe_int (hT _ _ hel) hk
  have hb : (Conv.bytesToString (.slice p xs.length c)).run P w = .ok (.string (strOf xs)) w := by
    cases p with
    | none =>
      have : xs = [] := slr_none f
      subst this
      simp [Conv.bytesToString, strOf]
    | some ad =>
      have hcase := f.2.2
      rcases hcase with ⟨hp, rfl⟩ | ⟨b, o, cur, T', fr, hp, _⟩
      · have := run_bytesToString (P := P) w ad 0 c [] (by simp [loadCells, loadCellsFrom])
        simpa [strOf] using this
      · simp only [Option.some.injEq] at hp
        subst hp
        have := run_bytesToString (P := P) w ⟨b, o, none⟩ xs.length c (xs.map (·.val)) (by
          have := load_flat (P := P) (fun x : IntK .u8 => .int .u8 x.val) f rfl (fun x cs w S h => h)
          rw [this]
          simp [Function.comp_def])
        exact this
  simp only [execOp, ha.eval hx, convert, Sem.run_bind, run_underlying hu, run_underlying hv, Result.andThen_ok, run_underlying hw, hb, Sem.run_pure]

/-- What lies in several parts, as one part; whatever stands behind stays. -/
theorem SH.gatherT {α : Type} [GoT α] {r : α} {cs : List Value} {I : List Nat} (m : Nat) (J : List Nat) (h : SH w0 w L) (hp : PO w L I r cs)
    (hb : (apartB I J && nodupB J && I.all (fun i => Nat.blt i m) && J.all (fun i => Nat.blt i m)) = true) : ∃ S, SH w0 w (Ch.own S r cs :: (pickL L J ++ L.drop m)) := by
  simp only [Bool.and_eq_true, List.all_eq_true] at hb
  obtain ⟨⟨⟨hb1, hb2⟩, hb3⟩, hb4⟩ := hb
  obtain ⟨S, ho, hw⟩ := hp
  have h1 := h.pickT m J (by simp only [Bool.and_eq_true, List.all_eq_true]; exact ⟨hb2, hb4⟩)
  refine ⟨S, h.below, fun d hd => ?_, fun d hd => ?_, List.pairwise_cons.2 ⟨fun d hd b hSb hdb => ?_, h1.apart⟩⟩
  · rcases List.mem_cons.1 hd with rfl | hd
    · exact ⟨ho, fun b hb => by obtain ⟨i, c, _, hi, hc⟩ := hw b hb; exact (h.mem hi).2 b hc⟩
    · exact h1.holds d hd
  · rcases List.mem_cons.1 hd with rfl | hd
    · exact fun _ h => h.elim
    · exact h1.elder d hd
  · rcases List.mem_append.1 hd with hd | hd
    · obtain ⟨j, hj, hjd⟩ := mem_pickL hd
      exact within_apart h hw (fun x hx => ⟨j, d, hj, hjd, hx⟩) hb1 b hSb hdb
    · obtain ⟨i, c, hiI, hi, hc⟩ := hw b hSb
      have him : i < m := by simpa [Nat.blt_eq] using hb3 i hiI
      obtain ⟨j, hj, hjd⟩ := List.getElem_of_mem hd
      rw [List.getElem_drop] at hjd
      obtain ⟨hil, rfl⟩ := List.getElem?_eq_some_iff.1 hi
      have hjl : m + j < L.length := by simp at hj; omega
      subst hjd
      exact List.pairwise_iff_getElem.1 h.apart i (m + j) hil hjl (by omega) b hc hdb
end
end Go.Fw
