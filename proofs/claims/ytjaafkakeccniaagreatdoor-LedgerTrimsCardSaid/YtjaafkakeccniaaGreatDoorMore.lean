/- Further operations: building structs, writing elements, conversions, division, bits. Nothing of the program stands here. -/
import Derived.Test.YtjaafkakeccniaaGreatDoorMap
namespace Go.Sl
open Go

/-! ### Building structs -/
/-- Parts into cells. -/
def fillL (pl : List (Nat × Nat)) : List Value → List (Nat × List Value) → Option (List Value)
  | cs, [] => some cs
  | cs, (i, vs) :: r =>
    match pl[i]? with
    | none => none
    | some (o, k) => match Nat.beq vs.length k with
      | true => match lay cs o vs with
        | some ds => fillL pl ds r
        | none => none
      | false => none
theorem lay_le : ∀ (cs : List Value) (o : Nat) (vs ds : List Value), lay cs o vs = some ds → o + vs.length ≤ cs.length
  | cs, o, [], ds, h => by
    induction cs generalizing o ds with
    | nil => cases o <;> simp [lay] at h ⊢
    | cons c cs ih =>
      cases o with
      | zero => simp
      | succ o =>
        simp only [lay] at h; split at h
        · rename_i r hr; have := ih o r hr; simp at this ⊢; omega
        · cases h
  | cs, o, v :: vs, ds, h => by
    obtain ⟨h1, h2⟩ := lay_step _ _ _ _ _ h
    have := lay_le _ _ _ _ h2
    simp at this ⊢; omega
theorem lay_fold : ∀ (vs : List Value) (k : Nat) (cs : List Value) (o : Nat) (ds : List Value), lay cs (o + k) vs = some ds → (vs.zipIdx k).foldl (fun (cs : Array Value) (c, j) => cs.setIfInBounds (o + j) c) cs.toArray = ds.toArray
  | [], k, cs, o, ds, h => by rw [lay_nil _ _ _ h]; rfl
  | v :: vs, k, cs, o, ds, h => by
    obtain ⟨h1, h2⟩ := lay_step _ _ _ _ _ h
    rw [List.zipIdx_cons, List.foldl_cons]
    have := lay_fold vs (k + 1) _ o ds h2
    rw [← this]
    congr 1
    simp
theorem fill_of {pl : List (Nat × Nat)} : ∀ (r : List (Nat × List Value)) (vs : List (Nat × Value)) (cs ds : List Value), vs.map (fun p => (p.1, p.2.cells.toList)) = r → fillL pl cs r = some ds → Instr.fill (pl.toArray[·]?) cs.toArray vs = some ds.toArray
  | [], [], cs, ds, _, h => by simp only [fillL, Option.some.injEq] at h; subst h; rfl
  | [], _ :: _, _, _, h, _ => by cases h
  | _ :: _, [], _, _, h, _ => by cases h
  | (i, us) :: r, (j, v) :: vs, cs, ds, h, hf => by
    simp only [List.map_cons, List.cons.injEq, Prod.mk.injEq] at h
    obtain ⟨⟨rfl, rfl⟩, h⟩ := h
    simp only [fillL] at hf
    simp only [Instr.fill, List.getElem?_toArray]
    cases hp : pl[j]? with
    | none => rw [hp] at hf; cases hf
    | some q =>
      obtain ⟨o, k⟩ := q
      rw [hp] at hf
      simp only at hf ⊢
      split at hf
      · rename_i hb
        have hk := Nat.eq_of_beq_eq_true hb
        split at hf
        · rename_i es he
          have hle := lay_le _ _ _ _ he
          have hfold := lay_fold v.cells.toList 0 cs o es (by simpa using he)
          have : v.cells.zipIdx.foldl (fun (cs : Array Value) (c, j) => cs.setIfInBounds (o + j) c) cs.toArray = es.toArray := by
            rw [← hfold, ← Array.foldl_toList, Array.toList_zipIdx]
          simp only [Array.length_toList] at hk hle
          rw [if_neg (by simp [hk]; omega), this]
          simpa only [List.getElem?_toArray] using fill_of r vs es ds h hf
        · cases hf
      · cases hf
/-- A struct's places. -/
structure BD (P : Program) (T : TypeId) (pl : List (Nat × Nat)) (z : List Value) : Prop where
  run : ∀ (parts : Array (Nat × Value)) (cells : Array Value), Instr.fill (pl.toArray[·]?) z.toArray parts.toList = some cells → ∀ w, (Instr.build T parts).run P w = .ok (.agg cells) w
def Places (P : Program) : List Field → List (Nat × Nat) → Prop
  | [], [] => True
  | f :: fs, p :: ps => f.offset = p.1 ∧ (∀ w, (sizeOf f.type).run P w = .ok p.2 w) ∧ Places P fs ps
  | _, _ => False
theorem Places.run {P : Program} : ∀ (fs : List Field) (pl : List (Nat × Nat)), Places P fs pl → ∀ w, (fs.mapM fun f => (do pure (f.offset, ← sizeOf f.type) : Sem (Nat × Nat))).run P w = .ok pl w
  | [], [], _, w => rfl
  | [], _ :: _, h, w => h.elim
  | _ :: _, [], h, w => h.elim
  | f :: fs, (o, k) :: ps, h, w => by
    obtain ⟨h1, h2, h3⟩ := h
    simp only at h1 h2
    simp only [List.mapM_cons, Sem.run_bind, h2, Result.andThen_ok, Sem.run_pure, Places.run fs ps h3 w, h1]
theorem BD.mk' {P : Program} {T : TypeId} {fs : Array Field} {pl : List (Nat × Nat)} {z : List Value} (ht : P.underlying T = some (.struct fs)) (hz : ∀ w, (zeroValue T).run P w = .ok (.agg z.toArray) w) (hp : Places P fs.toList pl) : BD P T pl z :=
  ⟨fun parts cells h w => by
    have hm := Places.run fs.toList pl hp w
    have hm' : (fs.mapM fun f => (do pure (f.offset, ← sizeOf f.type) : Sem (Nat × Nat))).run P w = .ok pl.toArray w := by
      rw [Array.mapM_eq_mapM_toList]
      show (Bind.bind (List.mapM (fun f => (do pure (f.offset, ← sizeOf f.type) : Sem (Nat × Nat))) fs.toList) (Sem.pure ∘ List.toArray)).run P w = _
      rw [Sem.run_bind, hm]; rfl
    unfold Instr.build
    simp only [Sem.run_bind, hz, run_underlying ht, Result.andThen_ok, hm']
    have : (Value.agg z.toArray).cells = z.toArray := rfl
    rw [this, h]; rfl⟩
section
variable {P : Program} {n : Nat} {w0 : World} {env : Env} {H : List HProp} {d : Option Tmp} {ty : TypeId} {pos : String} {af : Array Edge} {g : Option (Nat × Bool)}
/-- Parts with their values. -/
inductive Pvs (env : Env) : List (Nat × Operand) → List (Nat × List Value) → Prop
  | nil : Pvs env [] []
  | cons {i : Nat} {x : Operand} {v : Value} {r : List (Nat × Operand)} {q : List (Nat × List Value)} : ev env x = some v → Pvs env r q → Pvs env ((i, x) :: r) ((i, v.cells.toList) :: q)
theorem Pvs.map {ρ : Operand → Value} (h : Rho env ρ) {r : List (Nat × Operand)} {q : List (Nat × List Value)} (e : Pvs env r q) : (r.map fun (i, x) => (i, ρ x)).map (fun p => (p.1, p.2.cells.toList)) = q := by
  induction e with
  | nil => rfl
  | cons e _ ih => simp only [List.map_cons, h.eval e, ih]
theorem pu_build {T : TypeId} {pl : List (Nat × Nat)} {z cs : List Value} {parts : List (Nat × Operand)} {q : List (Nat × List Value)} (bd : BD P T pl z) (hv : Pvs env parts q) (hf : fillL pl z q = some cs) :
    Pu P ⟨d, .build T parts.toArray, ty, pos, af, g⟩ env (.agg cs.toArray) := fun ρ w e => by
  refine run_v (s := Instr.build T (parts.toArray.map fun (i, x) => (i, ρ x))) (bd.run _ _ ?_ w)
  exact fill_of q _ z cs (by rw [Array.toList_map]; exact hv.map e) hf

theorem ET.mk' {T E sz by_ : Nat} {i : TypeInfo} {z : Value} (ht : P.underlying T = some (.slice E)) (hi : ∀ w, (typeInfo E).run P w = .ok i w) (hz : i.zero = some z) (h1 : i.size = sz) (h2 : i.bytes = by_) (h3 : z.cells.size = sz) : ET P T E sz by_ := by
  refine ⟨i, z, ht, ?_, hz, h1, h2, h3⟩
  have := hi default
  cases hp : P.info? E with
  | none => simp [typeInfo, hp, go_sem] at this
  | some j => simp [typeInfo, hp, go_sem] at this; rw [this]
theorem CmpT.of {α β : Type} [DecidableEq α] [DecidableEq β] {t m : Nat} {val : α → Value} {val' : β → Value} (f : β → α) (hf : ∀ a b, f a = f b ↔ a = b) (hv : ∀ a, val (f a) = val' a) (c : CmpT P t val m) : CmpT P t val' m := fun d hd a b w => by
  have := c d hd (f a) (f b) w
  rw [hv, hv] at this
  rw [this]; congr 1; exact decide_eq_decide.2 (hf a b)

/-! ### Elements written -/
theorem lay_ex : ∀ (cs : List Value) (o : Nat) (vs : List Value), o + vs.length ≤ cs.length → ∃ ds, lay cs o vs = some ds ∧ ds.length = cs.length ∧ (∀ j v, vs[j]? = some v → ds[o + j]? = some v) ∧ (∀ k, (k < o ∨ o + vs.length ≤ k) → ds[k]? = cs[k]?)
  | cs, 0, [], h => ⟨cs, by simp [lay], rfl, by simp, fun _ _ => rfl⟩
  | [], 0, v :: vs, h => by simp at h
  | c :: cs, 0, v :: vs, h => by
    obtain ⟨ds, h1, h2, h3, h4⟩ := lay_ex cs 0 vs (by simp at h ⊢; omega)
    refine ⟨v :: ds, by simp [lay, h1], by simp [h2], fun j u hu => ?_, fun k hk => ?_⟩
    · cases j with
      | zero => simpa using hu
      | succ j => have := h3 j u (by simpa using hu); simp only [Nat.zero_add] at this ⊢; simpa using this
    · cases k with
      | zero => simp at hk
      | succ k => simpa using h4 k (by simp at hk ⊢; omega)
  | [], o + 1, vs, h => by simp at h
  | c :: cs, o + 1, vs, h => by
    obtain ⟨ds, h1, h2, h3, h4⟩ := lay_ex cs o vs (by simp at h; omega)
    refine ⟨c :: ds, by simp [lay, h1], by simp [h2], fun j u hu => ?_, fun k hk => ?_⟩
    · rw [show o + 1 + j = (o + j) + 1 by omega]; simpa using h3 j u hu
    · cases k with
      | zero => rfl
      | succ k => simpa using h4 k (by omega)
theorem lay_at : ∀ (cs : List Value) (o : Nat) (vs ds : List Value), lay cs o vs = some ds → (∀ j v, vs[j]? = some v → ds[o + j]? = some v) ∧ (∀ k, (k < o ∨ o + vs.length ≤ k) → ds[k]? = cs[k]?) := fun cs o vs ds h => by
  obtain ⟨ds', h1, -, h3, h4⟩ := lay_ex cs o vs (lay_le _ _ _ _ h)
  rw [h] at h1; cases h1; exact ⟨h3, h4⟩
theorem ac_stE {α : Type} {enc : α → List Value} {x y : Operand} {T k sz : TypeId} {H' : List HProp} {b o off c i fo : Nat} {E : TypeId} {v : Value} {xs : List α} {vs : List Value} {x0 y0 : α} (hsz : SZ P T k) (e : EncOk sz enc)
    (hx : ev env x = some (.pointer (some ⟨b, o, none⟩))) (hy : ev env y = some v) (t : Take (sl E sz enc (some ⟨b, off, none⟩) c xs) H H') (hv : v.cells = vs.toArray) (hk : vs.length = k) (hp : vs.all plain = true)
    (hi : xs[i]? = some x0) (ho : o = off + i * sz + fo) (hl : lay (enc x0) fo vs = some (enc y0)) :
    Ac P ⟨d, .store T x y, ty, pos, af, g⟩ w0 env H (fun _ H'' => H'' = sl E sz enc (some ⟨b, off, none⟩) c (xs.set i y0) :: H') := Ac.of_skip fun ρ w r s => by
  have st := s.take t
  obtain ⟨h, le, h1, h2, dd, rfl, hs, hl'⟩ := st.heap
  rcases hs with ⟨h0, -, -⟩ | ⟨b', off', cells, hb, hpt, hlen, hroom, hxs⟩
  · cases h0
  · cases hb
    have hil : i < xs.length := (List.getElem?_eq_some_iff.1 hi).1
    have hfo : fo + vs.length ≤ sz := by have := lay_le _ _ _ _ hl; rwa [e.len] at this
    have hmul : i * sz + sz ≤ c * sz := by rw [← Nat.succ_mul]; exact Nat.mul_le_mul_right _ (by omega)
    have s1 : Sat w0 w (cl b E cells.toList :: H') := ⟨st.os, st.tape, st.output, st.size, _, le, h1, h2, dd, rfl, by simpa [cl] using hpt, hl'⟩
    obtain ⟨ds, g1, g2, g3, g4⟩ := lay_ex cells.toList o vs (by simp; omega)
    obtain ⟨w', hw, s'⟩ := run_stores (P := P) vs 0 o cells.toList ds w s1 (by simpa using hp) (by simpa using g1)
    obtain ⟨l1, l2⟩ := lay_at _ _ _ _ hl
    refine ⟨_, w', ?_, rfl, s'.ent fun hh hc => .inr ⟨b, off, ds.toArray, rfl, hc, by simpa using hlen, by simp [g2]; exact hroom, fun j u hj m q hq => ?_⟩⟩
    · show ((do Instr.storeAt T (ρ x) (ρ y); pure Next.skip : Sem Next)).run P w = _
      rw [r.eval hx, r.eval hy]
      simp only [Instr.storeAt, Instr.sureAddr, storeVar, Sem.run_bind, Sem.run_pure, hsz.run, Result.andThen_ok, hv]
      simp only [List.size_toArray, hk, ne_eq, not_true, if_false, Sem.run_bind, Sem.run_pure, Result.andThen_ok, hw]
    · have hm : m < sz := by rw [← e.len u]; exact (List.getElem?_eq_some_iff.1 hq).1
      simp only [List.getElem?_toArray]
      by_cases hij : j = i
      · subst hij
        rw [List.getElem?_set_self hil] at hj
        cases hj
        by_cases hin : fo ≤ m ∧ m < fo + vs.length
        · have hvm : vs[m - fo]? = some q := by
            have hlt : m - fo < vs.length := by omega
            have := l1 (m - fo) vs[m - fo] (by simp [hlt])
            rw [show fo + (m - fo) = m by omega, hq] at this
            rw [List.getElem?_eq_getElem hlt, ← Option.some.inj this]
          have := g3 (m - fo) q hvm
          rwa [show o + (m - fo) = off + (j * sz + m) by omega] at this
        · rw [g4 _ (by omega)]
          have := l2 m (by omega)
          rw [hq] at this
          have := hxs j x0 hi m q this.symm
          simpa using this
      · rw [List.getElem?_set_ne (fun h => hij h.symm)] at hj
        have := hxs j u hj m q hq
        rw [g4 _ ?_]
        · simpa using this
        · rcases Nat.lt_or_gt_of_ne hij with hlt | hlt
          · left
            have : (j + 1) * sz ≤ i * sz := Nat.mul_le_mul_right _ hlt
            rw [Nat.succ_mul] at this; omega
          · right
            have : (i + 1) * sz ≤ j * sz := Nat.mul_le_mul_right _ hlt
            rw [Nat.succ_mul] at this; omega

/-! ### Strings, conversions, division, bits -/
theorem pu_index {x y : Operand} {T : TypeId} {s : ByteArray} {k : IntKind} {i : Int} {b : UInt8} (ht : P.underlying T = some .string) (hx : ev env x = some (.string s)) (hy : ev env y = some (.int k i)) (h0 : 0 ≤ i) (hb : s[i.toNat]? = some b) :
    Pu P ⟨d, .index T x y, ty, pos, af, g⟩ env (.int .u8 b.toNat) := fun ρ w e => by
  refine run_v (s := Instr.index T (ρ x) (ρ y)) ?_
  rw [e.eval hx, e.eval hy]
  unfold Instr.index
  simp only [asIntOf, Sem.run_bind, Sem.run_pure, Result.andThen_ok, run_underlying ht, h0, if_true, hb]
theorem pu_conv {x : Operand} {S T : TypeId} {ds : TypeDesc} {k k' : IntKind} {i : Int} (hs : P.underlying S = some ds) (ht : P.underlying T = some (.int k)) (hx : ev env x = some (.int k' i)) :
    Pu P ⟨d, .convert S T x, ty, pos, af, g⟩ env (.int k (k.wrap i)) := fun ρ w e => by
  refine run_v (s := convert S T (ρ x)) ?_
  rw [e.eval hx]
  unfold convert
  simp only [Sem.run_bind, run_underlying hs, run_underlying ht, Result.andThen_ok]; rfl
variable {x y : Operand} {T T' : TypeId} {k : IntKind} {i j : Int}
theorem pu_quo (h : ev env x = some (.int k i)) (h' : ev env y = some (.int k j)) (hj : j ≠ 0) : Pu P ⟨d, .binOp .quo T x y T', ty, pos, af, g⟩ env (.int k (k.wrap (i.tdiv j))) := fun ρ w e => by
  refine run_v (s := do eqGuard .quo T x y (ρ x) (ρ y); binOp .quo T (ρ x) (ρ y)) ?_
  rw [e.eval h, e.eval h']
  simp only [Sem.run_bind, eqGuard_int, Result.andThen_ok]
  simp [binOp, Op.intDiv, hj]
theorem pu_rem (h : ev env x = some (.int k i)) (h' : ev env y = some (.int k j)) (hj : j ≠ 0) : Pu P ⟨d, .binOp .rem T x y T', ty, pos, af, g⟩ env (.int k (i.tmod j)) := fun ρ w e => by
  refine run_v (s := do eqGuard .rem T x y (ρ x) (ρ y); binOp .rem T (ρ x) (ρ y)) ?_
  rw [e.eval h, e.eval h']
  simp only [Sem.run_bind, eqGuard_int, Result.andThen_ok]
  simp [binOp, Op.intDiv, hj]
theorem pu_eqB {a b : Bool} (ht : P.underlying T = some .bool) (h : ev env x = some (.bool a)) (h' : ev env y = some (.bool b)) : Pu P ⟨d, .binOp .eql T x y T', ty, pos, af, g⟩ env (.bool (a == b)) := fun ρ w e => by
  refine run_v (s := do eqGuard .eql T x y (ρ x) (ρ y); binOp .eql T (ρ x) (ρ y)) ?_
  rw [e.eval h, e.eval h']
  have hg : (eqGuard .eql T x y (.bool a) (.bool b)).run P w = .ok () w := rfl
  have h1 : binOp .eql T (.bool a) (.bool b) = (do Pure.pure (.bool (← Op.equal T (.bool a) (.bool b)))) := rfl
  have he : (Op.equal T (.bool a) (.bool b)).run P w = .ok (a == b) w := by
    show (Op.equalIn (9999 + 1) T (.bool a) (.bool b)).run P w = _
    unfold Op.equalIn
    simp only [Sem.run_bind, run_underlying ht, Result.andThen_ok]; rfl
  simp only [Sem.run_bind, hg, h1, he, Result.andThen_ok]; rfl
theorem pu_neB {a b : Bool} (ht : P.underlying T = some .bool) (h : ev env x = some (.bool a)) (h' : ev env y = some (.bool b)) : Pu P ⟨d, .binOp .neq T x y T', ty, pos, af, g⟩ env (.bool (!(a == b))) := fun ρ w e => by
  refine run_v (s := do eqGuard .neq T x y (ρ x) (ρ y); binOp .neq T (ρ x) (ρ y)) ?_
  rw [e.eval h, e.eval h']
  have hg : (eqGuard .neq T x y (.bool a) (.bool b)).run P w = .ok () w := rfl
  have h1 : binOp .neq T (.bool a) (.bool b) = (do Pure.pure (.bool (!(← Op.equal T (.bool a) (.bool b))))) := rfl
  have he : (Op.equal T (.bool a) (.bool b)).run P w = .ok (a == b) w := by
    show (Op.equalIn (9999 + 1) T (.bool a) (.bool b)).run P w = _
    unfold Op.equalIn
    simp only [Sem.run_bind, run_underlying ht, Result.andThen_ok]; rfl
  simp only [Sem.run_bind, hg, h1, he, Result.andThen_ok]; rfl
theorem pu_addS {s t : ByteArray} (hl : s.size + t.size ≤ 9223372036854775807) (h : ev env x = some (.string s)) (h' : ev env y = some (.string t)) : Pu P ⟨d, .binOp .add T x y T', ty, pos, af, g⟩ env (.string (s ++ t)) := fun ρ w e => by
  refine run_v (s := do eqGuard .add T x y (ρ x) (ρ y); binOp .add T (ρ x) (ρ y)) ?_
  rw [e.eval h, e.eval h']
  have hg : (eqGuard .add T x y (.string s) (.string t)).run P w = .ok () w := rfl
  simp only [Sem.run_bind, hg, Result.andThen_ok]
  show (Op.stringOp .add s t).run P w = _
  unfold Op.stringOp
  have hm : IntKind.i64.max = 9223372036854775807 := by decide
  simp only [hm]
  rw [if_neg (by omega)]; rfl
end
end Go.Sl
