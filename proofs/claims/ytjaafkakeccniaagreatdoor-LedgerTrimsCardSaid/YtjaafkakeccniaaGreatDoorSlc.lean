/- Slices: append, literals, make, cuts. Nothing of the program stands here. -/
import Derived.Test.YtjaafkakeccniaaGreatDoorRg
import Derived.Deep.AppendSrc
import Derived.Laws.MakeOwn
namespace Go.Sl
open Go

/-- An encoding of elements in cells. -/
structure EncOk {α : Type} (sz : Nat) (enc : α → List Value) : Prop where
  len : ∀ x, (enc x).length = sz
  one : ∀ x, ∀ v ∈ enc x, v.oneCell' = true
theorem EncOk.flat {α : Type} {sz : Nat} {enc : α → List Value} (e : EncOk sz enc) (xs : List α) : (xs.flatMap enc).length = xs.length * sz := by
  induction xs with
  | nil => simp
  | cons x xs ih => rw [List.flatMap_cons, List.length_append, ih, e.len, List.length_cons, Nat.add_mul]; omega
theorem EncOk.at {α : Type} {sz : Nat} {enc : α → List Value} (e : EncOk sz enc) : ∀ (xs : List α) (i j : Nat) (x : α) (v : Value), xs[i]? = some x → (enc x)[j]? = some v → (xs.flatMap enc)[i * sz + j]? = some v
  | [], i, j, x, v, h, _ => by cases h
  | y :: xs, 0, j, x, v, h, hv => by
    simp only [List.getElem?_cons_zero, Option.some.injEq] at h; subst h
    have hj : j < (enc y).length := (List.getElem?_eq_some_iff.1 hv).1
    rw [List.flatMap_cons, Nat.zero_mul, Nat.zero_add, List.getElem?_append_left hj]; exact hv
  | y :: xs, i + 1, j, x, v, h, hv => by
    have := EncOk.at e xs i j x v (by simpa using h) hv
    rw [List.flatMap_cons, List.getElem?_append_right (by rw [e.len, Nat.add_mul]; omega), e.len]
    rw [show (i + 1) * sz + j - sz = i * sz + j by rw [Nat.add_mul]; omega]; exact this
theorem EncOk.inv {α : Type} {sz : Nat} {enc : α → List Value} (e : EncOk sz enc) : ∀ (xs : List α) (k : Nat) (v : Value), (xs.flatMap enc)[k]? = some v → ∃ i j x, k = i * sz + j ∧ j < sz ∧ xs[i]? = some x ∧ (enc x)[j]? = some v
  | [], k, v, h => by simp at h
  | y :: xs, k, v, h => by
    rw [List.flatMap_cons] at h
    by_cases hk : k < sz
    · rw [List.getElem?_append_left (by rw [e.len]; exact hk)] at h
      exact ⟨0, k, y, by simp, hk, by simp, h⟩
    · rw [List.getElem?_append_right (by rw [e.len]; omega), e.len] at h
      obtain ⟨i, j, x, h1, h2, h3, h4⟩ := EncOk.inv e xs (k - sz) v h
      exact ⟨i + 1, j, x, by rw [Nat.add_mul]; omega, h2, by simpa using h3, h4⟩
theorem EncOk.ones {α : Type} {sz : Nat} {enc : α → List Value} (e : EncOk sz enc) (xs : List α) : ∀ u ∈ xs.flatMap enc, u.oneCell' = true := fun u hu => by
  obtain ⟨x, _, hx⟩ := List.mem_flatMap.1 hu; exact e.one x u hx

section
variable {P : Program} {n : Nat} {w0 : World} {env : Env} {H : List HProp} {α : Type}

/-- An element type, of a slice type. -/
structure ET (P : Program) (T E sz by_ : Nat) : Prop where
  ex : ∃ i z, P.underlying T = some (.slice E) ∧ P.info? E = some i ∧ i.zero = some z ∧ i.size = sz ∧ i.bytes = by_ ∧ z.cells.size = sz
/-- What an append's second argument gives. -/
def SrcH (P : Program) (w0 : World) (H : List HProp) (sz tx : Nat) (x : Value) (k : Nat) (news : List Value) : Prop := ∀ w, Sat w0 w H → Src P sz tx x k news w
theorem SrcH.sl {sz tx e' : Nat} {enc : α → List Value} {a : Option Addr} {c : Nat} {ys : List α} (hk : P.underlying tx = some (.slice e')) (e : EncOk sz enc) (S : SlH w0 H sz enc a ys) : SrcH P w0 H sz tx (.slice a ys.length c) ys.length (ys.flatMap enc) := fun w s => by
  cases a with
  | none =>
    have : ys = [] := Classical.byContradiction fun h => by obtain ⟨b, off, h, _⟩ := S w s h; cases h
    subst this; exact Src.ofNil w hk c
  | some A =>
    refine Src.ofSlice w hk A _ c _ (e.flat ys) (fun j u hu => ?_) (e.ones ys)
    obtain ⟨i, j', x, rfl, hj, hx, hv⟩ := e.inv ys j u hu
    obtain ⟨b, off, h, hc⟩ := S w s (by rintro rfl; cases hx)
    cases h
    have := hc i x hx j' u hv
    unfold Addr.add; split
    · rename_i h0; rw [h0] at this; simpa using this
    · exact this
theorem SrcH.str {tx : Nat} (hk : P.underlying tx = some .string) (s : ByteArray) : SrcH P w0 H 1 tx (.string s) s.size (byteCells s) := fun w _ => Src.ofString w hk s

theorem heap_setCells {b : Nat} {E : TypeId} : ∀ (vs : List Value) (o : Nat) (w : World) (cells : Array Value), w.heap[b]? = some (.cells cells E (0, 0)) →
    ∃ cells', (w.setCells b o vs).heap[b]? = some (.cells cells' E (0, 0)) ∧ cells'.size = cells.size ∧ (∀ k v, vs[k]? = some v → o + k < cells.size → cells'[o + k]? = some v) ∧ (∀ k, k < o → cells'[k]? = cells[k]?) ∧ (w.setCells b o vs).os = w.os ∧ (w.setCells b o vs).tape = w.tape ∧
      (w.setCells b o vs).output = w.output ∧ (w.setCells b o vs).drawn = w.drawn ∧ (w.setCells b o vs).heap.size = w.heap.size ∧ ∀ c, c ≠ b → (w.setCells b o vs).heap[c]? = w.heap[c]?
  | [], o, w, cells, h => ⟨cells, h, rfl, by simp, fun _ _ => rfl, rfl, rfl, rfl, rfl, rfl, fun _ _ => rfl⟩
  | v :: vs, o, w, cells, h => by
    have h1 : (w.setCell ⟨b, o, none⟩ v).heap[b]? = some (.cells (cells.setIfInBounds o v) E (0, 0)) := by simp [World.setCell, Array.getElem?_modify, h]
    obtain ⟨cells', e1, e2, e3, e4, e5, e6, e7, e8, e9, e10⟩ := heap_setCells vs (o + 1) _ _ h1
    refine ⟨cells', e1, by rw [e2]; simp, fun k u hu hk => ?_, fun k hk => ?_, e5, e6, e7, e8, by rw [World.setCells, e9]; simp [World.setCell], fun c hc => ?_⟩
    · cases k with
      | zero =>
        simp only [List.getElem?_cons_zero, Option.some.injEq] at hu; subst hu
        rw [Nat.add_zero, e4 o (by omega), Array.getElem?_setIfInBounds, if_pos rfl, if_pos (by omega)]
      | succ k => rw [show o + (k + 1) = o + 1 + k by omega]; exact e3 k u (by simpa using hu) (by simp; omega)
    · rw [e4 k (by omega)]; simp [Array.getElem?_setIfInBounds]; intro h; omega
    · rw [World.setCells, e10 c hc]
      simp only [World.setCell, Array.getElem?_modify]; rw [if_neg (by simpa using fun e => hc e.symm)]

theorem heap_setCells_behind {b : Nat} {E : TypeId} : ∀ (vs : List Value) (o : Nat) (w : World) (cells : Array Value), w.heap[b]? = some (.cells cells E (0, 0)) →
    ∀ cells', (w.setCells b o vs).heap[b]? = some (.cells cells' E (0, 0)) → ∀ k, o + vs.length ≤ k → cells'[k]? = cells[k]?
  | [], o, w, cells, h, cells', h', k, hk => by
    have : some (Obj.cells cells E (0, 0)) = some (.cells cells' E (0, 0)) := h.symm.trans h'
    cases this; rfl
  | v :: vs, o, w, cells, h, cells', h', k, hk => by
    have h1 : (w.setCell ⟨b, o, none⟩ v).heap[b]? = some (.cells (cells.setIfInBounds o v) E (0, 0)) := by simp [World.setCell, Array.getElem?_modify, h]
    have := heap_setCells_behind vs (o + 1) _ _ h1 cells' h' k (by simp at hk ⊢; omega)
    rw [this, Array.getElem?_setIfInBounds]
    rw [if_neg (by simp at hk; omega)]
theorem sl_new {E sz : Nat} {enc : α → List Value} {b c : Nat} {cells : Array Value} {xs : List α} (h1 : xs.length ≤ c) (h2 : c * sz ≤ cells.size)
    (h3 : ∀ i x, xs[i]? = some x → ∀ j v, (enc x)[j]? = some v → cells[i * sz + j]? = some v) : ∀ h, pt b (.cells cells E (0, 0)) h → sl E sz enc (some ⟨b, 0, none⟩) c xs h :=
  fun h hp => .inr ⟨b, 0, cells, rfl, hp, h1, by omega, fun i x hi j v hv => by rw [Nat.zero_add]; exact h3 i x hi j v hv⟩

theorem append_getElem? {xs ys : List α} {i : Nat} {x : α} (h : (xs ++ ys)[i]? = some x) : xs[i]? = some x ∨ ∃ k, i = xs.length + k ∧ ys[k]? = some x := by
  by_cases hi : i < xs.length
  · rw [List.getElem?_append_left hi] at h; exact .inl h
  · rw [List.getElem?_append_right (by omega)] at h; exact .inr ⟨i - xs.length, by omega, h⟩

/-- Of an owned slice a shorter one. -/
theorem sl_pre {E sz : Nat} {enc : α → List Value} {a : Option Addr} {c : Nat} {xs ys : List α} : ∀ h, sl E sz enc a c (xs ++ ys) h → sl E sz enc a c xs h := fun h x => by
  rcases x with ⟨h1, h2, h3⟩ | ⟨b, off, cells, h1, h2, h3, h4, h5⟩
  · exact .inl ⟨h1, (List.append_eq_nil_iff.1 h2).1, h3⟩
  · exact .inr ⟨b, off, cells, h1, h2, by rw [List.length_append] at h3; omega, h4, fun i y hi => h5 i y (by
      rw [List.getElem?_append_left (List.getElem?_eq_some_iff.1 hi).1]; exact hi)⟩
theorem sl_take {E sz : Nat} {enc : α → List Value} {a : Option Addr} {c : Nat} {xs : List α} (k : Nat) : ∀ h, sl E sz enc a c xs h → sl E sz enc a c (xs.take k) h := fun h x => by
  rw [← List.take_append_drop k xs] at x; exact sl_pre h x
/-- append(s, t...): the result is owned. What lies behind s (zs) is written over. -/
theorem run_append {T E sz by_ tx ty : Nat} {enc : α → List Value} {a : Option Addr} {c : Nat} {xs ys zs : List α} {x : Value} {H' : List HProp} (et : ET P T E sz by_) (e : EncOk sz enc) (t : Take (sl E sz enc a c (xs ++ zs)) H H')
    (S : SrcH P w0 H sz tx x ys.length (ys.flatMap enc)) (hb : (xs.length + ys.length) * by_ ≤ 140737488355328) (hm : xs.length + ys.length ≤ 9223372036854775807) {w : World} (s : Sat w0 w H) :
    ∃ a' c' w', (Builtin.append_ #[T, tx] ty #[.slice a xs.length c, x]).run P w = .ok (.slice a' (xs ++ ys).length c') w' ∧ Sat w0 w' (sl E sz enc a' c' (xs ++ ys) :: H') := by
  obtain ⟨i, z, ht, hi, hz, rfl, rfl, hzs⟩ := et.ex
  have hsrc := S w s
  have st := (s.take t).ent sl_pre
  obtain ⟨h, le, h1, h2, d, rfl, hsl, hl⟩ := st.heap
  have grow : c < xs.length + ys.length → (Builtin.firstCells i.size xs.length (.slice a xs.length c)).run P w.drew = .ok (xs.flatMap enc).toArray w.drew →
      ∃ a' c' w', (Builtin.append_ #[T, tx] ty #[.slice a xs.length c, x]).run P w = .ok (.slice a' (xs ++ ys).length c') w' ∧ Sat w0 w' (sl E i.size enc a' c' (xs ++ ys) :: H') := by
    intro hc hold
    have hrun := run_append_grow_src w T tx ty E i z ht hi hz a xs.length c (xs.flatMap enc) hold x ys.length (ys.flatMap enc) hsrc hc (by omega) (growslice_fits hc hb)
    refine ⟨_, _, _, by rw [hrun, List.length_append], ?_⟩
    have sat1 : Sat w0 w.drew H' := (Sat.drop st).drew
    refine (sat1.alloc _).ent (sl_new (grownCap_ge w _ c E |> fun h => by rw [List.length_append]; exact h) ?_ ?_)
    · simp only [Array.size_append, List.size_toArray, List.length_append, e.flat, Builtin.zeroCells, Array.size_map, Array.size_range, hzs]
      have := grownCap_ge w (xs.length + ys.length) c E
      rw [← Nat.add_mul, ← Nat.add_mul]; exact Nat.mul_le_mul_right _ (by omega)
    · intro k y hk j v hv
      have hlt : k * i.size + j < ((xs ++ ys).flatMap enc).length := (List.getElem?_eq_some_iff.1 (e.at _ k j y v hk hv)).1
      rw [Array.getElem?_append_left (by simpa using by simpa using hlt)]
      have := e.at _ k j y v hk hv
      simpa using this
  rcases hsl with ⟨rfl, rfl, rfl⟩ | ⟨b, off, cells, rfl, hp, hlen, hsz, hx⟩
  · by_cases h0 : ys = []
    · subst h0
      refine ⟨none, 0, w, ?_, ?_⟩
      · have hcells : (Builtin.firstCells i.size 0 x).run P w = .ok #[] w := by simpa using hsrc.cells
        rcases hsrc.kind with ⟨e', hk⟩ | hk <;> simp [Builtin.append_, run_underlying ht, run_underlying hk, sizeOf, typeInfo, hi, hsrc.len, hcells]
      · exact st.ent fun _ hh => by simpa using hh
    · have hpos : 0 < ys.length := List.length_pos_iff.2 h0
      exact grow (by simpa using hpos) (by simp [Builtin.firstCells])
  · have hcell : w.heap[b]? = some (.cells cells E (0, 0)) := le b _ (Hp.un_left hp.1)
    by_cases hroom : xs.length + ys.length ≤ c
    · have hfit : off + xs.length * i.size + (ys.flatMap enc).length ≤ cells.size := by
        rw [e.flat, Nat.add_assoc, ← Nat.add_mul]
        exact Nat.le_trans (Nat.add_le_add_left (Nat.mul_le_mul_right _ hroom) _) hsz
      have hrun := run_append_room_src w T tx ty E i ht hi b off xs.length c x ys.length (ys.flatMap enc) hsrc hroom
        (fun j hj => by simp [World.cell?, hcell]; omega) (fun j hj => by simp [World.frozen?, hcell])
      obtain ⟨cells', e1, e2, e3, e4, e5, e6, e7, e8, e9, e10⟩ := heap_setCells (ys.flatMap enc) (off + xs.length * i.size) w cells hcell
      refine ⟨_, _, _, by rw [hrun, List.length_append], ?_⟩
      have sat0 : Sat w0 w (pt b (.cells cells E (0, 0)) :: H') := by
        refine ⟨st.os, st.tape, st.output, st.size, _, le, h1, h2, d, rfl, hp, hl⟩
      refine (sat0.write (o' := .cells cells' E (0, 0)) e5 e6 e7 (Nat.le_of_eq e9.symm) e1 fun c hc _ => e10 c hc).ent fun hh hpp => ?_
      refine .inr ⟨b, off, cells', rfl, hpp, by rw [List.length_append]; exact hroom, by rw [e2]; exact hsz, fun k y hk j v hv => ?_⟩
      have hj : j < i.size := by rw [← e.len y]; exact (List.getElem?_eq_some_iff.1 hv).1
      rcases append_getElem? hk with hk1 | ⟨m, rfl, hk2⟩
      · have hkl : k < xs.length := (List.getElem?_eq_some_iff.1 hk1).1
        have hmul : k * i.size + i.size ≤ xs.length * i.size := by rw [← Nat.succ_mul]; exact Nat.mul_le_mul_right _ hkl
        rw [e4 _ (by omega)]; exact hx k y hk1 j v hv
      · have hat := e.at ys m j y v hk2 hv
        have hlt := (List.getElem?_eq_some_iff.1 hat).1
        rw [show off + ((xs.length + m) * i.size + j) = off + xs.length * i.size + (m * i.size + j) by rw [Nat.add_mul]; omega]
        exact e3 _ v hat (by omega)
    · refine grow (by omega) (run_firstCells_some w.drew i.size xs.length ⟨b, off, none⟩ xs.length c _ (e.flat xs) fun j u hu => ?_)
      obtain ⟨k, j', y, rfl, hj, hy, hv⟩ := e.inv xs j u hu
      have := hx k y hy j' u hv
      have hc : w.cell? ⟨b, off + (k * i.size + j'), none⟩ = some u := by simp only [World.cell?, hcell]; exact this
      show w.cell? _ = _
      unfold Addr.add; split
      · rename_i h0; rw [h0] at hc; simpa using hc
      · exact hc
theorem ac_appendO {d : Option Tmp} {x y : Operand} {T E sz by_ tx ty : Nat} {pos : String} {af : Array Edge} {g : Option (Nat × Bool)} {enc : α → List Value} {a : Option Addr} {c : Nat} {xs ys zs : List α} {u : Value} {H' : List HProp} (et : ET P T E sz by_) (e : EncOk sz enc)
    (hx : ev env x = some (.slice a xs.length c)) (hy : ev env y = some u) (t : Take (sl E sz enc a c (xs ++ zs)) H H') (S : SrcH P w0 H sz tx u ys.length (ys.flatMap enc)) (hb : (xs.length + ys.length) * by_ ≤ 140737488355328) (hm : xs.length + ys.length ≤ 9223372036854775807) :
    Ac P ⟨d, .call ⟨.builtin .append, #[x, y], #[T, tx]⟩, ty, pos, af, g⟩ w0 env H (fun v H'' => ∃ a' c', v = .slice a' (xs ++ ys).length c' ∧ H'' = sl E sz enc a' c' (xs ++ ys) :: H') := Ac.of_run fun ρ w r s => by
  obtain ⟨a', c', w', hr, hs⟩ := run_append (ty := ty) (zs := zs) et e t S hb hm s
  refine ⟨_, _, w', ?_, ⟨a', c', rfl, rfl⟩, hs⟩
  show (do pure (Next.value (← Builtin.append_ #[T, tx] ty (#[x, y].map ρ))) : Sem Next).run P w = _
  rw [show #[x, y].map ρ = #[ρ x, ρ y] by simp, r.eval hx, r.eval hy]
  exact run_v hr
theorem ac_append {d : Option Tmp} {x y : Operand} {T E sz by_ tx ty : Nat} {pos : String} {af : Array Edge} {g : Option (Nat × Bool)} {enc : α → List Value} {a : Option Addr} {c : Nat} {xs ys : List α} {u : Value} {H' : List HProp} (et : ET P T E sz by_) (e : EncOk sz enc)
    (hx : ev env x = some (.slice a xs.length c)) (hy : ev env y = some u) (t : Take (sl E sz enc a c xs) H H') (S : SrcH P w0 H sz tx u ys.length (ys.flatMap enc)) (hb : (xs.length + ys.length) * by_ ≤ 140737488355328) (hm : xs.length + ys.length ≤ 9223372036854775807) :
    Ac P ⟨d, .call ⟨.builtin .append, #[x, y], #[T, tx]⟩, ty, pos, af, g⟩ w0 env H (fun v H'' => ∃ a' c', v = .slice a' (xs ++ ys).length c' ∧ H'' = sl E sz enc a' c' (xs ++ ys) :: H') :=
  ac_appendO (zs := []) et e hx hy (by rw [List.append_nil]; exact t) S hb hm
/-- A slice that has nothing, owned. -/
theorem sl_nil {E sz : Nat} {enc : α → List Value} {w : World} {L : List HProp} (s : Sat w0 w L) : Sat w0 w (sl E sz enc none 0 ([] : List α) :: L) := by
  obtain ⟨h, le, l⟩ := s.heap
  exact ⟨s.os, s.tape, s.output, s.size, h, le, fun _ => none, h, fun _ => .inl rfl, by funext b; rfl, .inl ⟨rfl, rfl, rfl⟩, l⟩
theorem Gs.slNil {X : Act → World → Prop} (E sz : Nat) (enc : α → List Value) (g : Gs w0 n env (sl E sz enc none 0 ([] : List α) :: H) X) : Gs w0 n env H X := fun a w e s => g a w e (sl_nil s)

/-- append(nil, t...): a copy. -/
theorem ac_copy {d : Option Tmp} {x y : Operand} {T E sz by_ tx ty : Nat} {pos : String} {af : Array Edge} {g : Option (Nat × Bool)} {enc : α → List Value} {ys : List α} {u : Value} (et : ET P T E sz by_) (e : EncOk sz enc)
    (hx : ev env x = some (.slice none 0 0)) (hy : ev env y = some u) (S : SrcH P w0 H sz tx u ys.length (ys.flatMap enc)) (hb : ys.length * by_ ≤ 140737488355328) (hm : ys.length ≤ 9223372036854775807) :
    Ac P ⟨d, .call ⟨.builtin .append, #[x, y], #[T, tx]⟩, ty, pos, af, g⟩ w0 env H (fun v H'' => ∃ a' c', v = .slice a' ys.length c' ∧ H'' = sl E sz enc a' c' ys :: H) :=
  Ac.take (H' := sl E sz enc none 0 ([] : List α) :: H) (fun _ s => sl_nil s) (ac_append (xs := ([] : List α)) et e hx hy .hd (fun w s => S w s.drop) (by simpa using hb) (by simpa using hm))
/-- append(s, t...) where there is room: in place. -/
theorem ac_appendR {d : Option Tmp} {x y : Operand} {T E sz by_ tx ty : Nat} {pos : String} {af : Array Edge} {g : Option (Nat × Bool)} {enc : α → List Value} {b off c : Nat} {xs ys zs : List α} {u : Value} {H' : List HProp} (et : ET P T E sz by_) (e : EncOk sz enc)
    (hx : ev env x = some (.slice (some ⟨b, off, none⟩) xs.length c)) (hy : ev env y = some u) (t : Take (sl E sz enc (some ⟨b, off, none⟩) c (xs ++ zs)) H H') (S : SrcH P w0 H sz tx u ys.length (ys.flatMap enc)) (hroom : xs.length + ys.length ≤ c) :
    Ac P ⟨d, .call ⟨.builtin .append, #[x, y], #[T, tx]⟩, ty, pos, af, g⟩ w0 env H (fun v H'' => v = .slice (some ⟨b, off, none⟩) (xs ++ ys).length c ∧ H'' = sl E sz enc (some ⟨b, off, none⟩) c (xs ++ ys ++ zs.drop ys.length) :: H') := Ac.of_run fun ρ w r s => by
  obtain ⟨i, z, ht, hi, hz, rfl, rfl, hzs⟩ := et.ex
  have hsrc := S w s
  have st := s.take t
  obtain ⟨h, le, h1, h2, d, rfl, hsl, hl⟩ := st.heap
  rcases hsl with ⟨hn, -, -⟩ | ⟨b', off', cells, hbo, hp, hlen, hsz, hxx⟩
  · cases hn
  · cases hbo
    have hcell : w.heap[b]? = some (.cells cells E (0, 0)) := le b _ (Hp.un_left hp.1)
    have hfit : off + xs.length * i.size + (ys.flatMap enc).length ≤ cells.size := by
      rw [e.flat, Nat.add_assoc, ← Nat.add_mul]
      exact Nat.le_trans (Nat.add_le_add_left (Nat.mul_le_mul_right _ hroom) _) hsz
    have hrun := run_append_room_src w T tx ty E i ht hi b off xs.length c u ys.length (ys.flatMap enc) hsrc hroom
      (fun j hj => by simp [World.cell?, hcell]; omega) (fun j hj => by simp [World.frozen?, hcell])
    obtain ⟨cells', e1, e2, e3, e4, e5, e6, e7, e8, e9, e10⟩ := heap_setCells (ys.flatMap enc) (off + xs.length * i.size) w cells hcell
    have e11 : ∀ k, off + xs.length * i.size + ys.length * i.size ≤ k → cells'[k]? = cells[k]? := fun k hk => by
      have := heap_setCells_behind (ys.flatMap enc) (off + xs.length * i.size) w cells hcell
      exact this cells' e1 k (by rw [e.flat]; omega)
    refine ⟨_, _, w.setCells b (off + xs.length * i.size) (ys.flatMap enc), ?_, ⟨rfl, rfl⟩, ?_⟩
    · show (do pure (Next.value (← Builtin.append_ #[T, tx] ty (#[x, y].map ρ))) : Sem Next).run P w = _
      rw [show #[x, y].map ρ = #[ρ x, ρ y] by simp, r.eval hx, r.eval hy]
      exact run_v (by rw [hrun, List.length_append])
    · have sat0 : Sat w0 w (pt b (.cells cells E (0, 0)) :: H') := ⟨st.os, st.tape, st.output, st.size, _, le, h1, h2, d, rfl, hp, hl⟩
      refine (sat0.write (o' := .cells cells' E (0, 0)) e5 e6 e7 (Nat.le_of_eq e9.symm) e1 fun c hc _ => e10 c hc).ent fun hh hpp => ?_
      refine .inr ⟨b, off, cells', rfl, hpp, by simp at hlen ⊢; omega, by rw [e2]; exact hsz, fun k y hk j v hv => ?_⟩
      have hj : j < i.size := by rw [← e.len y]; exact (List.getElem?_eq_some_iff.1 hv).1
      rcases append_getElem? hk with hk1 | ⟨m, rfl, hk2⟩
      · rcases append_getElem? hk1 with hk1 | ⟨m, rfl, hk2⟩
        · have hkl : k < xs.length := (List.getElem?_eq_some_iff.1 hk1).1
          have hmul : k * i.size + i.size ≤ xs.length * i.size := by rw [← Nat.succ_mul]; exact Nat.mul_le_mul_right _ hkl
          rw [e4 _ (by omega)]; exact hxx k y (by rw [List.getElem?_append_left hkl]; exact hk1) j v hv
        · have hat := e.at ys m j y v hk2 hv
          have hlt := (List.getElem?_eq_some_iff.1 hat).1
          rw [show off + ((xs.length + m) * i.size + j) = off + xs.length * i.size + (m * i.size + j) by rw [Nat.add_mul]; omega]
          exact e3 _ v hat (by omega)
      · rw [List.getElem?_drop] at hk2
        rw [List.length_append, e11 _ (by rw [Nat.add_mul, Nat.add_mul]; omega)]
        exact hxx (xs.length + ys.length + m) y (by rw [Nat.add_assoc, List.getElem?_append_right (by omega), Nat.add_sub_cancel_left]; exact hk2) j v hv
/-! ### Literals and make -/
theorem fill_spec {sz : Nat} : ∀ (vs : List Value) (k : Nat) (cells : Array Value), (∀ v ∈ vs, v.cells.size = sz) → (k + vs.length) * sz ≤ cells.size →
    ∃ cells', Instr.fill (fun i => some (i * sz, sz)) cells (vs.zipIdx k |>.map fun (v, i) => (i, v)) = some cells' ∧ cells'.size = cells.size ∧ (∀ j, j < k * sz → cells'[j]? = cells[j]?) ∧
      ∀ m v, vs[m]? = some v → ∀ j u, v.cells[j]? = some u → cells'[(k + m) * sz + j]? = some u
  | [], k, cells, _, _ => ⟨cells, rfl, rfl, fun _ _ => rfl, by simp⟩
  | v :: vs, k, cells, hv, hs => by
    have h1 : v.cells.size = sz := hv v (by simp)
    have hk : k * sz + sz ≤ cells.size := by
      rw [← Nat.succ_mul]; exact Nat.le_trans (Nat.mul_le_mul_right _ (by rw [List.length_cons]; omega)) hs
    -- the fold that lays one part
    have fold : ∀ (l : List Value) (o : Nat) (cs : Array Value), (l.zipIdx o).foldl (fun cs (c, j) => cs.setIfInBounds (k * sz + j) c) cs = (l.zipIdx o).foldl (fun cs (c, j) => cs.setIfInBounds (k * sz + j) c) cs := fun _ _ _ => rfl
    have lay1 : ∀ (l : List Value) (o : Nat) (cs : Array Value), k * sz + o + l.length ≤ cs.size → ∃ cs', (l.zipIdx o).foldl (fun cs (c, j) => cs.setIfInBounds (k * sz + j) c) cs = cs' ∧ cs'.size = cs.size ∧ (∀ j, j < k * sz + o → cs'[j]? = cs[j]?) ∧ (∀ m u, l[m]? = some u → cs'[k * sz + o + m]? = some u) := by
      intro l
      induction l with
      | nil => intro o cs _; exact ⟨cs, rfl, rfl, fun _ _ => rfl, by simp⟩
      | cons u l ih =>
        intro o cs hle
        simp only [List.length_cons] at hle
        obtain ⟨cs', e1, e2, e3, e4⟩ := ih (o + 1) (cs.setIfInBounds (k * sz + o) u) (by simp; omega)
        refine ⟨cs', by rw [List.zipIdx_cons, List.foldl_cons]; exact e1, by rw [e2]; simp, fun j hj => ?_, fun m x hx => ?_⟩
        · rw [e3 j (by omega), Array.getElem?_setIfInBounds, if_neg (by omega)]
        · cases m with
          | zero =>
            simp only [List.getElem?_cons_zero, Option.some.injEq] at hx; subst hx
            rw [Nat.add_zero, e3 _ (by omega), Array.getElem?_setIfInBounds, if_pos rfl, if_pos (by omega)]
          | succ m => rw [show k * sz + o + (m + 1) = k * sz + (o + 1) + m by omega]; exact e4 m x (by simpa using hx)
    obtain ⟨cs', e1, e2, e3, e4⟩ := lay1 v.cells.toList 0 cells (by simp [h1]; try omega)
    obtain ⟨cells', f1, f2, f3, f4⟩ := fill_spec vs (k + 1) cs' (fun u hu => hv u (by simp [hu])) (by rw [e2]; rw [show k + 1 + vs.length = k + (v :: vs).length by simp; omega]; exact hs)
    refine ⟨cells', ?_, by rw [f2, e2], fun j hj => ?_, fun m u hu j x hx => ?_⟩
    · rw [List.zipIdx_cons, List.map_cons]
      simp only [Instr.fill, h1]
      rw [if_neg (by simp; omega)]
      rw [← f1]
      congr 1
      rw [← e1, ← Array.foldl_toList, Array.toList_zipIdx]
    · rw [f3 j (by rw [Nat.succ_mul]; omega), e3 j (by omega)]
    · cases m with
      | zero =>
        simp only [List.getElem?_cons_zero, Option.some.injEq] at hu; subst hu
        have hj : j < sz := by rw [← h1]; exact (Array.getElem?_eq_some_iff.1 hx).1
        rw [Nat.add_zero, f3 _ (by rw [Nat.succ_mul]; omega)]
        have := e4 j x (by simpa using hx)
        simpa using this
      | succ m => rw [show k + (m + 1) = k + 1 + m by omega]; exact f4 m u (by simpa using hu) j x hx
/-- The places of a literal's parts, in order. -/
def inOrder {β : Type} : List (Nat × β) → Nat → Bool
  | [], _ => true
  | (i, _) :: r, k => Nat.beq i k && inOrder r (k + 1)
theorem zip_of_inOrder {β γ : Type} (f : β → γ) : ∀ (l : List (Nat × β)) (k : Nat), inOrder l k = true → l.map (fun (i, x) => (i, f x)) = ((l.map fun p => f p.2).zipIdx k).map fun (v, i) => (i, v)
  | [], _, _ => rfl
  | (i, x) :: r, k, h => by
    simp only [inOrder, Bool.and_eq_true] at h
    obtain ⟨h1, h2⟩ := h
    have h1 := Nat.eq_of_beq_eq_true h1; subst h1
    simp only [List.map_cons, List.zipIdx_cons]
    rw [zip_of_inOrder f r (i + 1) h2]
theorem run_lit {T E len : Nat} {i : TypeInfo} {z : Value} (ht : P.underlying T = some (.slice E)) (hi : P.info? E = some i) (hz : i.zero = some z) (hs : len * i.size ≤ 16777216) {parts : Array (Nat × Value)} {vs : List Value} (hpl : parts.toList = (vs.zipIdx 0).map fun (v, i) => (i, v)) {cells' : Array Value}
    (f1 : Instr.fill (fun k => some (k * i.size, i.size)) ((Array.range (len * i.size)).map (z.cells[· % z.cells.size]!)) ((vs.zipIdx 0).map fun (v, i) => (i, v)) = some cells') {w : World} :
    (Instr.buildSlice T len parts).run P w = .ok (.slice (some ⟨w.heap.size, 0, none⟩) len len) { w with heap := w.heap.push (.cells cells' E) } := by
  have hu : (underlying T).run P w = .ok (.slice E) w := by simp [underlying, ht, go_sem]
  have hq : (sizeOf E).run P w = .ok i.size w := by simp [sizeOf, typeInfo, hi, go_sem]
  have hzv : (zeroValue E).run P w = .ok z w := by simp [zeroValue, typeInfo, hi, hz, go_sem]
  have hbig : ¬ (len * i.size > 2 ^ 24) := Nat.not_lt.2 (Nat.le_trans hs (by simp))
  unfold Instr.buildSlice
  simp only [Sem.run_bind, hu, hq, Result.andThen_ok, hpl]
  rw [if_neg hbig]
  by_cases h0 : len * i.size = 0
  · rw [if_pos h0]
    have hm : Array.map (fun x => (#[] : Array Value)[x % (#[] : Array Value).size]!) (Array.range (len * i.size)) = (Array.range (len * i.size)).map (z.cells[· % z.cells.size]!) := by rw [h0]; simp
    simp only [Sem.run_bind, Sem.run_pure, Result.andThen_ok, hm, f1, newRow, run_new]
  · rw [if_neg h0]
    simp only [Sem.run_bind, hzv, Sem.run_pure, Result.andThen_ok, f1, newRow, run_new]
theorem ac_lit {d : Option Tmp} {T E sz by_ len ty : Nat} {parts : List (Nat × Operand)} {pos : String} {af : Array Edge} {g : Option (Nat × Bool)} (enc : α → List Value) (xs : List α) {vs : List Value} (et : ET P T E sz by_) (e : EncOk sz enc)
    (hp : inOrder parts 0 = true) (hv : Evs env (parts.map (·.2)) vs) (hvs : vs.map (fun v => v.cells.toList) = xs.map enc) (hl : parts.length = len) (hs : len * sz ≤ 16777216) :
    Ac P ⟨d, .buildSlice T len parts.toArray, ty, pos, af, g⟩ w0 env H (fun v H' => ∃ b, v = .slice (some ⟨b, 0, none⟩) xs.length xs.length ∧ H' = sl E sz enc (some ⟨b, 0, none⟩) xs.length xs :: H) := Ac.of_run fun ρ w r s => by
  obtain ⟨i, z, ht, hi, hz, rfl, rfl, hzs⟩ := et.ex
  have hlen : vs.length = xs.length := by have := congrArg List.length hvs; simpa using this
  have hlv : vs.length = len := by rw [← hl, ← hv.rho r]; simp
  have hsz : ∀ v ∈ vs, v.cells.size = i.size := by
    intro v hm
    have : v.cells.toList ∈ vs.map (fun v => v.cells.toList) := List.mem_map_of_mem hm
    rw [hvs] at this
    obtain ⟨x, _, hx⟩ := List.mem_map.1 this
    rw [← e.len x, hx]; simp
  obtain ⟨cells', f1, f2, -, f4⟩ := fill_spec vs 0 ((Array.range (len * i.size)).map (z.cells[· % z.cells.size]!)) hsz (by simp [hlv])
  have sat := s.alloc (.cells cells' E)
  have hpl : (parts.toArray.map fun (i, x) => (i, ρ x)).toList = (vs.zipIdx 0).map fun (v, i) => (i, v) := by
    rw [Array.toList_map, zip_of_inOrder ρ parts 0 hp]
    congr 2
    have := hv.rho r
    rw [← this]; simp
  have hrun := run_v (run_lit (w := w) ht hi hz hs hpl f1)
  refine ⟨.slice (some ⟨w.heap.size, 0, none⟩) len len, _, _, hrun, ⟨w.heap.size, by rw [← hlen, hlv], rfl⟩, sat.ent (sl_new (Nat.le_refl _) ?_ ?_)⟩
  · rw [f2]; simp [← hlen, hlv]
  · intro k x hk j v hj
    have hkv : (vs.map (fun v => v.cells.toList))[k]? = some (enc x) := by rw [hvs]; simp [hk]
    rw [List.getElem?_map] at hkv
    cases hvk : vs[k]? with
    | none => rw [hvk] at hkv; cases hkv
    | some u =>
      rw [hvk] at hkv
      have hue : u.cells.toList = enc x := by simpa using hkv
      have := f4 k u hvk j v (by rw [← hue] at hj; simpa using hj)
      rwa [Nat.zero_add] at this
/-- make([]T, l, c): zeros. -/
theorem ac_make {d : Option Tmp} {x y : Operand} {T E sz by_ ty : Nat} {pos : String} {af : Array Edge} {g : Option (Nat × Bool)} (enc : α → List Value) (z0 : α) {zz : Value} {k k' : IntKind} {l c : Int} (et : ET P T E sz by_) (e : EncOk sz enc) (zv : ZV P E zz) (hz0 : zz.cells.toList = enc z0)
    (hx : ev env x = some (.int k l)) (hy : ev env y = some (.int k' c)) (h0 : 0 ≤ l) (hlc : l ≤ c) (hb : (by_ : Int) * c ≤ 281474976710656) (hm : c ≤ 9223372036854775807) :
    Ac P ⟨d, .makeSlice T x y, ty, pos, af, g⟩ w0 env H (fun v H' => ∃ b, v = .slice (some ⟨b, 0, none⟩) (List.replicate l.toNat z0).length c.toNat ∧ H' = sl E sz enc (some ⟨b, 0, none⟩) c.toNat (List.replicate l.toNat z0) :: H) := Ac.of_run fun ρ w r s => by
  obtain ⟨i, z, ht, hi, hz, rfl, rfl, hzs⟩ := et.ex
  have hzz : zz = z := by have := zv.run w; simp [zeroValue, typeInfo, hi, hz, go_sem] at this; exact this.symm
  subst hzz
  have hrun := run_make (P := P) w T E i zz ht hi hz k k' l c h0 hlc hb hm
  refine ⟨_, _, _, run_v (s := Instr.makeSlice T (ρ x) (ρ y)) (by rw [r.eval hx, r.eval hy]; exact hrun), ⟨w.heap.size, by simp, rfl⟩, (s.alloc _).ent (sl_new (by simp; omega) (by simp [madeCells]) ?_)⟩
  intro m y hm' j v hj
  have hlt : m < l.toNat := by have := (List.getElem?_eq_some_iff.1 hm').1; simpa using this
  have hy : y = z0 := by rw [List.getElem?_replicate, if_pos hlt] at hm'; exact (Option.some.inj hm').symm
  subst hy
  have hjs : j < i.size := by rw [← e.len y]; exact (List.getElem?_eq_some_iff.1 hj).1
  have hlt2 : m * i.size + j < c.toNat * i.size := by
    have : (m + 1) * i.size ≤ c.toNat * i.size := Nat.mul_le_mul_right _ (by omega)
    rw [Nat.succ_mul] at this; omega
  simp only [madeCells, Array.getElem?_map, Array.getElem?_range]
  rw [if_pos hlt2]
  simp only [Option.map_some, hzs]
  rw [Nat.mul_comm, Nat.mul_add_mod, Nat.mod_eq_of_lt hjs]
  rw [← hz0] at hj
  have : zz.cells[j]? = some v := by simpa using hj
  rw [getElem!_pos zz.cells j (by omega)]
  rw [Array.getElem?_eq_getElem (by omega)] at this
  exact this

/-- make([]T, l, c): zeros, those in the spare room too. -/
theorem ac_makeF {d : Option Tmp} {x y : Operand} {T E sz by_ ty : Nat} {pos : String} {af : Array Edge} {g : Option (Nat × Bool)} (enc : α → List Value) (z0 : α) {zz : Value} {k k' : IntKind} {l c : Int} (et : ET P T E sz by_) (e : EncOk sz enc) (zv : ZV P E zz) (hz0 : zz.cells.toList = enc z0)
    (hx : ev env x = some (.int k l)) (hy : ev env y = some (.int k' c)) (h0 : 0 ≤ l) (hlc : l ≤ c) (hb : (by_ : Int) * c ≤ 281474976710656) (hm : c ≤ 9223372036854775807) :
    Ac P ⟨d, .makeSlice T x y, ty, pos, af, g⟩ w0 env H (fun v H' => ∃ b, v = .slice (some ⟨b, 0, none⟩) l.toNat c.toNat ∧ H' = sl E sz enc (some ⟨b, 0, none⟩) c.toNat (List.replicate c.toNat z0) :: H) := Ac.of_run fun ρ w r s => by
  obtain ⟨i, z, ht, hi, hz, rfl, rfl, hzs⟩ := et.ex
  have hzz : zz = z := by have := zv.run w; simp [zeroValue, typeInfo, hi, hz, go_sem] at this; exact this.symm
  subst hzz
  have hrun := run_make (P := P) w T E i zz ht hi hz k k' l c h0 hlc hb hm
  refine ⟨_, _, _, run_v (s := Instr.makeSlice T (ρ x) (ρ y)) (by rw [r.eval hx, r.eval hy]; exact hrun), ⟨w.heap.size, rfl, rfl⟩, (s.alloc _).ent (sl_new (by simp) (by simp [madeCells]) ?_)⟩
  intro m y hm' j v hj
  have hlt : m < c.toNat := by have := (List.getElem?_eq_some_iff.1 hm').1; simpa using this
  have hy : y = z0 := by rw [List.getElem?_replicate, if_pos hlt] at hm'; exact (Option.some.inj hm').symm
  subst hy
  have hjs : j < i.size := by rw [← e.len y]; exact (List.getElem?_eq_some_iff.1 hj).1
  have hlt2 : m * i.size + j < c.toNat * i.size := by
    have : (m + 1) * i.size ≤ c.toNat * i.size := Nat.mul_le_mul_right _ (by omega)
    rw [Nat.succ_mul] at this; omega
  simp only [madeCells, Array.getElem?_map, Array.getElem?_range]
  rw [if_pos hlt2]
  simp only [Option.map_some, hzs]
  rw [Nat.mul_comm, Nat.mul_add_mod, Nat.mod_eq_of_lt hjs]
  rw [← hz0] at hj
  have : zz.cells[j]? = some v := by simpa using hj
  rw [getElem!_pos zz.cells j (by omega)]
  rw [Array.getElem?_eq_getElem (by omega)] at this
  exact this

/-! ### Parts of a slice -/
def suba (a : Option Addr) (lo c sz : Nat) : Option Addr := if c = lo then a else a.map (·.add (lo * sz))
theorem SlH.cut {sz : Nat} {enc : α → List Value} {a : Option Addr} {xs : List α} (S : SlH w0 H sz enc a xs) (lo hi c : Nat) (hc : xs.length ≤ c ∨ hi ≤ c) : SlH w0 H sz enc (suba a lo c sz) ((xs.take hi).drop lo) := fun w s hne => by
  have hx : xs ≠ [] := by rintro rfl; simp at hne
  obtain ⟨b, off, rfl, h⟩ := S w s hx
  have hlo : lo < hi ∧ lo < xs.length := by
    have : 0 < ((xs.take hi).drop lo).length := List.length_pos_iff.2 hne
    simp at this; omega
  have hcl : ¬ c = lo := by omega
  refine ⟨b, off + lo * sz, ?_, fun i x hi' j v hv => ?_⟩
  · simp only [suba, hcl, if_false, Option.map_some]
    congr 1; unfold Addr.add; split <;> simp_all
  · rw [List.getElem?_drop, List.getElem?_take] at hi'
    split at hi'
    · have := h (lo + i) x hi' j v hv
      rw [show off + lo * sz + (i * sz + j) = off + ((lo + i) * sz + j) by rw [Nat.add_mul]; omega]; exact this
    · cases hi'
theorem SlH.cutH {sz : Nat} {enc : α → List Value} {a : Option Addr} {xs : List α} (S : SlH w0 H sz enc a xs) (hi c : Nat) (hc : xs.length ≤ c) : SlH w0 H sz enc (suba a 0 c sz) (xs.take hi) := by
  have := S.cut 0 hi c (.inl hc); rwa [List.drop_zero] at this
theorem SlH.cutL {sz : Nat} {enc : α → List Value} {a : Option Addr} {xs : List α} (S : SlH w0 H sz enc a xs) (lo c : Nat) (hc : xs.length ≤ c) : SlH w0 H sz enc (suba a lo c sz) (xs.drop lo) := by
  have := S.cut lo xs.length c (.inl hc); rwa [List.take_length] at this
theorem SrcH.sl' {sz tx e' n : Nat} {enc : α → List Value} {a : Option Addr} {c : Nat} {ys : List α} (hk : P.underlying tx = some (.slice e')) (e : EncOk sz enc) (hn : n = ys.length) (S : SlH w0 H sz enc a ys) : SrcH P w0 H sz tx (.slice a n c) ys.length (ys.flatMap enc) := by
  subst hn; exact SrcH.sl hk e S
theorem Gs.slLen {E sz : Nat} {enc : α → List Value} {a : Option Addr} {c : Nat} {xs : List α} {H' : List HProp} {X : Act → World → Prop} (t : Take (sl E sz enc a c xs) H H') (g : xs.length ≤ c → Gs w0 n env H X) : Gs w0 n env H X := fun ac w e s => by
  refine g ?_ ac w e s
  obtain ⟨h0, x, -⟩ := (s.take t).toRo
  rcases x with ⟨-, rfl, rfl⟩ | ⟨_, _, _, _, _, h, _⟩
  · exact Nat.le_refl _
  · exact h
theorem run_bound {w : World} {k : IntKind} {i : Int} {y : Nat} {code : BoundsCode} (h0 : 0 ≤ i) (h1 : i ≤ y) : (Instr.sliceBound (.int k i) y code).run P w = .ok i.toNat w := by
  simp [Instr.sliceBound, asIntOf, h0, h1, go_sem]
theorem run_cut {T E : Nat} {inf : TypeInfo} (ht : P.underlying T = some (.slice E)) (hi : P.info? E = some inf) {a : Option Addr} {l c x y : Nat} {lo hi' : Option Value} {w : World}
    (hb : (Instr.sliceBounds true l c lo hi' none).run P w = .ok (x, y, c) w) : (Instr.sliceAt T (.slice a l c) lo hi' none).run P w = .ok (.slice (suba a x c inf.size) (y - x) (c - x)) w := by
  have hu : (underlying T).run P w = .ok (.slice E) w := by simp [underlying, ht, go_sem]
  have hq : (sizeOf E).run P w = .ok inf.size w := by simp [sizeOf, typeInfo, hi, go_sem]
  unfold Instr.sliceAt Instr.slice
  simp only [Sem.run_bind, hu, hb, hq, Result.andThen_ok]
  rfl
/-- s[lo:hi] of a slice; s[lo:], s[:hi]. -/
theorem pu_slice {d : Option Tmp} {x y z : Operand} {T E sz by_ ty : Nat} {pos : String} {af : Array Edge} {g : Option (Nat × Bool)} {a : Option Addr} {l c : Nat} {k k' : IntKind} {i j : Int} (et : ET P T E sz by_) (hx : ev env x = some (.slice a l c)) (hy : ev env y = some (.int k i)) (hz : ev env z = some (.int k' j))
    (h0 : 0 ≤ i) (h1 : i ≤ j) (h2 : j ≤ c) : Pu P ⟨d, .slice T x (some y) (some z) none, ty, pos, af, g⟩ env (.slice (suba a i.toNat c sz) (j.toNat - i.toNat) (c - i.toNat)) := fun ρ w e => by
  obtain ⟨inf, zz, ht, hi, -, rfl, rfl, -⟩ := et.ex
  refine run_v (s := Instr.sliceAt T (ρ x) (some (ρ y)) (some (ρ z)) none) ?_
  rw [e.eval hx, e.eval hy, e.eval hz]
  exact run_cut ht hi (by simp only [Instr.sliceBounds, Sem.run_bind, Sem.run_pure, Result.andThen_ok, run_bound (P := P) (w := w) (k := k') (code := .sliceAcap) (show 0 ≤ j by omega) h2, run_bound (P := P) (w := w) (k := k) h0 (show i ≤ (j.toNat : Int) by omega), if_true])
theorem pu_sliceL {d : Option Tmp} {x y : Operand} {T E sz by_ ty : Nat} {pos : String} {af : Array Edge} {g : Option (Nat × Bool)} {a : Option Addr} {l c : Nat} {k : IntKind} {i : Int} (et : ET P T E sz by_) (hx : ev env x = some (.slice a l c)) (hy : ev env y = some (.int k i))
    (h0 : 0 ≤ i) (h1 : i ≤ l) : Pu P ⟨d, .slice T x (some y) none none, ty, pos, af, g⟩ env (.slice (suba a i.toNat c sz) (l - i.toNat) (c - i.toNat)) := fun ρ w e => by
  obtain ⟨inf, zz, ht, hi, -, rfl, rfl, -⟩ := et.ex
  refine run_v (s := Instr.sliceAt T (ρ x) (some (ρ y)) none none) ?_
  rw [e.eval hx, e.eval hy]
  exact run_cut ht hi (by simp only [Instr.sliceBounds, Sem.run_bind, Sem.run_pure, Result.andThen_ok, run_bound (P := P) (w := w) (k := k) h0 h1])
theorem pu_sliceH {d : Option Tmp} {x z : Operand} {T E sz by_ ty : Nat} {pos : String} {af : Array Edge} {g : Option (Nat × Bool)} {a : Option Addr} {l c : Nat} {k : IntKind} {j : Int} (et : ET P T E sz by_) (hx : ev env x = some (.slice a l c)) (hz : ev env z = some (.int k j))
    (h0 : 0 ≤ j) (h1 : j ≤ c) : Pu P ⟨d, .slice T x none (some z) none, ty, pos, af, g⟩ env (.slice (suba a 0 c sz) j.toNat c) := fun ρ w e => by
  obtain ⟨inf, zz, ht, hi, -, rfl, rfl, -⟩ := et.ex
  refine run_v (s := Instr.sliceAt T (ρ x) none (some (ρ z)) none) ?_
  rw [e.eval hx, e.eval hz]
  have h := run_cut (P := P) (a := a) (l := l) (c := c) (x := 0) (y := j.toNat) (lo := none) (hi' := some (.int k j)) (w := w) ht hi (by simp only [Instr.sliceBounds, Sem.run_bind, Sem.run_pure, Result.andThen_ok, run_bound (P := P) (w := w) (k := k) h0 h1])
  simpa only [Nat.sub_zero] using h
theorem suba_some {b o lo c sz : Nat} (h : ¬ c = lo) : suba (some ⟨b, o, none⟩) lo c sz = some ⟨b, o + lo * sz, none⟩ := by
  simp only [suba, h, if_false, Option.map_some]
  congr 1; unfold Addr.add; split <;> simp_all
theorem suba_zero {a : Option Addr} {c sz : Nat} : suba a 0 c sz = a := by
  unfold suba; split
  · rfl
  · cases a <;> simp [Addr.add]
end
end Go.Sl
