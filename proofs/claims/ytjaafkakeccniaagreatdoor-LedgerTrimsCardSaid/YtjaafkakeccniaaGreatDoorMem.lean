/- Memory: variables and rows of cells, slices that are owned, slices that are read: one rule for each operation. Nothing of the program stands here. -/
import Derived.Test.YtjaafkakeccniaaGreatDoorOp
namespace Go.Sl
open Go

def cl (b : Nat) (T : TypeId) (cs : List Value) : HProp := pt b (.cells cs.toArray T (0, 0))
def grab : Nat → List Value → Option (List Value)
  | 0, _ => some []
  | _ + 1, [] => none
  | k + 1, v :: r => match grab k r with | some l => some (v :: l) | none => none
theorem grab_spec : ∀ (k : Nat) (l vs : List Value), grab k l = some vs → vs.length = k ∧ ∀ (j : Nat) (v : Value), vs[j]? = some v → l[j]? = some v
  | 0, _, vs, h => by simp only [grab, Option.some.injEq] at h; subst h; simp
  | k + 1, [], _, h => by simp [grab] at h
  | k + 1, v :: r, vs, h => by
    simp only [grab] at h
    split at h
    · rename_i l hl
      obtain ⟨h1, h2⟩ := grab_spec k r l hl
      simp only [Option.some.injEq] at h; subst h
      refine ⟨by simp [h1], fun j u hu => ?_⟩
      cases j with
      | zero => simpa using hu
      | succ j => simp only [List.getElem?_cons_succ] at hu ⊢; exact h2 j u hu
    · cases h
/-- New values over old ones, from a place on. -/
def lay : List Value → Nat → List Value → Option (List Value)
  | cs, 0, [] => some cs
  | [], _, _ => none
  | _ :: cs, 0, v :: vs => match lay cs 0 vs with | some r => some (v :: r) | none => none
  | c :: cs, k + 1, vs => match lay cs k vs with | some r => some (c :: r) | none => none

section
variable {P : Program} {n : Nat} {w0 : World} {env : Env} {H : List HProp}

theorem cell_of {w : World} {b : Nat} {cs : List Value} {T : TypeId} {fr : Nat × Nat} (h : w.heap[b]? = some (.cells cs.toArray T fr)) (o : Nat) : w.cell? ⟨b, o, none⟩ = cs[o]? := by
  simp [World.cell?, h]
theorem Sat.cl {w : World} {b : Nat} {T : TypeId} {cs : List Value} {L : List HProp} (s : Sat w0 w (Sl.cl b T cs :: L)) : w.heap[b]? = some (.cells cs.toArray T (0, 0)) := Sat.pt s
/-- The cells at a place read so. -/
def Rdc (w0 : World) (H : List HProp) (b o : Nat) (vs : List Value) : Prop := ∀ w, Sat w0 w H → ∀ j v, vs[j]? = some v → w.cell? ⟨b, o + j, none⟩ = some v
theorem Rdc.cl {H' : List HProp} (k : Nat) {b o : Nat} {T : TypeId} {cs vs : List Value} (t : Take (Sl.cl b T cs) H H') (h : grab k (cs.drop o) = some vs) : Rdc w0 H b o vs := fun w s j v hv => by
  rw [cell_of (s.take t).cl]
  have := (grab_spec k _ vs h).2 j v hv
  simpa using this

theorem Rdc.cl1 {H' : List HProp} {b o : Nat} {T : TypeId} {cs : List Value} {v : Value} (t : Take (Sl.cl b T cs) H H') (h : cs[o]? = some v) : Rdc w0 H b o [v] := fun w s j u hu => by
  rw [cell_of (s.take t).cl]
  cases j with
  | zero => simp at hu; subst hu; simpa using h
  | succ j => simp at hu

structure NA (P : Program) (T : TypeId) : Prop where
  run : ∀ w, (isAgg T).run P w = .ok false w
structure AG (P : Program) (T k : Nat) : Prop where
  run : ∀ w, (isAgg T).run P w = .ok true w
  size : ∀ w, (sizeOf T).run P w = .ok k w
theorem run_load_some {w : World} {a : Addr} {v : Value} (h : w.cell? a = some v) : (load a).run P w = .ok v w := by simp [h]
theorem loadCells_run {w : World} {b o : Nat} : ∀ (vs : List Value) (i : Nat) (acc : Array Value), (∀ j v, vs[j]? = some v → w.cell? ⟨b, o + (i + j), none⟩ = some v) →
    (loadCellsFrom ⟨b, o, none⟩ i vs.length acc).run P w = .ok (acc ++ vs.toArray) w
  | [], i, acc, _ => by simp [loadCellsFrom, go_sem]
  | v :: vs, i, acc, h => by
    have h0 : w.cell? ((⟨b, o, none⟩ : Addr).add i) = some v := by
      have := h 0 v rfl
      simp only [Nat.add_zero] at this
      unfold Addr.add; split
      · rename_i e; subst e; simpa using this
      · exact this
    have ih := loadCells_run vs (i + 1) (acc.push v) (fun j u hu => by have := h (j + 1) u (by simpa using hu); rw [show i + 1 + j = i + (j + 1) by omega]; exact this)
    simp only [List.length_cons, loadCellsFrom, Sem.run_bind, run_load_some h0, Result.andThen_ok, ih]
    simp
theorem rd_ld {d : Option Tmp} {x : Operand} {T ty : TypeId} {pos : String} {af : Array Edge} {g : Option (Nat × Bool)} {b o : Nat} {v : Value} (na : NA P T) (hx : ev env x = some (.pointer (some ⟨b, o, none⟩)))
    (r : Rdc w0 H b o [v]) : Rd P ⟨d, .load T x, ty, pos, af, g⟩ w0 env H v := fun ρ w e s => by
  refine run_v (s := Instr.loadAt T (ρ x)) ?_
  rw [e.eval hx]
  simp only [Instr.loadAt, Instr.sureAddr, loadVar, Sem.run_bind, Sem.run_pure, na.run, Result.andThen_ok]
  exact run_load_some (r w s 0 v rfl)
theorem rd_lda {d : Option Tmp} {x : Operand} {T k ty : TypeId} {pos : String} {af : Array Edge} {g : Option (Nat × Bool)} {b o : Nat} {vs : List Value} (ag : AG P T k) (hx : ev env x = some (.pointer (some ⟨b, o, none⟩)))
    (r : Rdc w0 H b o vs) (hk : vs.length = k) : Rd P ⟨d, .load T x, ty, pos, af, g⟩ w0 env H (.agg vs.toArray) := fun ρ w e s => by
  refine run_v (s := Instr.loadAt T (ρ x)) ?_
  rw [e.eval hx]
  have h := loadCells_run (P := P) (w := w) (b := b) (o := o) vs 0 #[] (fun j v hv => by simpa using r w s j v hv)
  simp only [Instr.loadAt, Instr.sureAddr, loadVar, Sem.run_bind, Sem.run_pure, ag.run, ag.size, Result.andThen_ok, loadCells, if_true, ← hk, h]
  simp

/-! ### Fields of values -/
structure FN (P : Program) (T i off : Nat) : Prop where
  run : ∀ (cs : Array Value) (v : Value) (w : World), cs[off]? = some v → (Instr.field T (.agg cs) i).run P w = .ok v w
theorem FN.mk' {T i off : Nat} {fs : Array Field} {f : Field} (ht : P.underlying T = some (.struct fs)) (hf : fs[i]? = some f) (ho : f.offset = off) (ha : ∀ w, (isAgg f.type).run P w = .ok false w) : FN P T i off :=
  ⟨fun cs v w hv => by
    have h0 : (underlying T).run P w = .ok (.struct fs) w := by simp [underlying, ht, go_sem]
    simp only [Instr.field, Sem.run_bind, h0, Result.andThen_ok, hf, asAgg, Sem.run_pure, part, ha, ho]
    simp [hv]⟩
structure FG (P : Program) (T i off k : Nat) : Prop where
  run : ∀ (cs : Array Value) (w : World), (Instr.field T (.agg cs) i).run P w = .ok (.agg (cs.extract off (off + k))) w
theorem FG.mk' {T i off k : Nat} {fs : Array Field} {f : Field} (ht : P.underlying T = some (.struct fs)) (hf : fs[i]? = some f) (ho : f.offset = off) (ha : ∀ w, (isAgg f.type).run P w = .ok true w) (hk : ∀ w, (sizeOf f.type).run P w = .ok k w) : FG P T i off k :=
  ⟨fun cs w => by
    have h0 : (underlying T).run P w = .ok (.struct fs) w := by simp [underlying, ht, go_sem]
    simp only [Instr.field, Sem.run_bind, h0, Result.andThen_ok, hf, asAgg, Sem.run_pure, part, ha, ho, hk, if_true]⟩
theorem pu_fn {d : Option Tmp} {x : Operand} {T i off : Nat} {ty : TypeId} {pos : String} {af : Array Edge} {g : Option (Nat × Bool)} {cs : List Value} {v : Value} (f : FN P T i off) (h : ev env x = some (.agg cs.toArray)) (hv : cs[off]? = some v) :
    Pu P ⟨d, .field T x i, ty, pos, af, g⟩ env v :=
  fun ρ w e => by refine run_v (s := Instr.field T (ρ x) i) ?_; rw [e.eval h]; exact f.run _ v w (by simpa using hv)
theorem grab_take : ∀ (k : Nat) (l vs : List Value), grab k l = some vs → l.take k = vs
  | 0, _, vs, h => by simp only [grab, Option.some.injEq] at h; subst h; simp
  | k + 1, [], _, h => by simp [grab] at h
  | k + 1, v :: r, vs, h => by
    simp only [grab] at h
    split at h
    · rename_i l hl
      simp only [Option.some.injEq] at h; subst h
      simp [grab_take k r l hl]
    · cases h
theorem pu_fg {d : Option Tmp} {x : Operand} {T i off k : Nat} {ty : TypeId} {pos : String} {af : Array Edge} {g : Option (Nat × Bool)} {cs vs : List Value} (f : FG P T i off k) (h : ev env x = some (.agg cs.toArray)) (hv : grab k (cs.drop off) = some vs) :
    Pu P ⟨d, .field T x i, ty, pos, af, g⟩ env (.agg vs.toArray) :=
  fun ρ w e => by
    refine run_v (s := Instr.field T (ρ x) i) ?_
    rw [e.eval h, f.run, ← grab_take k _ vs hv]
    simp [List.extract_toArray, List.extract_eq_take_drop]

/-! ### New variables -/
theorem run_new {o : Obj} {w : World} : (newObj o).run P w = .ok w.heap.size { w with heap := w.heap.push o } := rfl
theorem ac_box {d : Option Tmp} {x : Operand} {T ty : TypeId} {pos : String} {af : Array Edge} {g : Option (Nat × Bool)} {v : Value} {cs : List Value} (hx : ev env x = some v) (hc : v.cells = cs.toArray) :
    Ac P ⟨d, .box T x, ty, pos, af, g⟩ w0 env H (fun u H' => ∃ b, u = .pointer (some ⟨b, 0, none⟩) ∧ H' = cl b T cs :: H) := Ac.of_run fun ρ w e s => by
  refine ⟨_, _, _, run_v (s := Instr.box T (ρ x)) (v := .pointer (some ⟨w.heap.size, 0, none⟩)) (w' := { w with heap := w.heap.push (.cells cs.toArray T) }) ?_, ⟨w.heap.size, rfl, rfl⟩, s.alloc _⟩
  rw [e.eval hx]
  simp only [Instr.box, newVar, newRow, Sem.run_bind, hc, run_new, Result.andThen_ok]; rfl
structure ZV (P : Program) (T : TypeId) (v : Value) : Prop where
  run : ∀ w, (zeroValue T).run P w = .ok v w
theorem ac_alloc {d : Option Tmp} {T ty : TypeId} {pos : String} {af : Array Edge} {g : Option (Nat × Bool)} {v : Value} {cs : List Value} (z : ZV P T v) (hc : v.cells = cs.toArray) :
    Ac P ⟨d, .alloc T, ty, pos, af, g⟩ w0 env H (fun u H' => ∃ b, u = .pointer (some ⟨b, 0, none⟩) ∧ H' = cl b T cs :: H) := Ac.of_run fun ρ w e s => by
  refine ⟨_, _, _, run_v (s := Instr.alloc T true (.tuple #[])) (v := .pointer (some ⟨w.heap.size, 0, none⟩)) (w' := { w with heap := w.heap.push (.cells cs.toArray T) }) ?_, ⟨w.heap.size, rfl, rfl⟩, s.alloc _⟩
  simp only [Instr.alloc, newVar, newRow, Sem.run_bind, z.run, hc, run_new, Result.andThen_ok]; rfl

/-! ### Stores -/
theorem lay_length : ∀ (cs : List Value) (o : Nat) (vs ds : List Value), lay cs o vs = some ds → ds.length = cs.length
  | cs, 0, [], ds, h => by simp only [lay, Option.some.injEq] at h; rw [h]
  | [], o + 1, vs, ds, h => by simp [lay] at h
  | [], 0, v :: vs, ds, h => by simp [lay] at h
  | c :: cs, 0, v :: vs, ds, h => by
    simp only [lay] at h; split at h
    · rename_i r hr; simp only [Option.some.injEq] at h; subst h; simp [lay_length cs 0 vs r hr]
    · cases h
  | c :: cs, o + 1, vs, ds, h => by
    simp only [lay] at h; split at h
    · rename_i r hr; simp only [Option.some.injEq] at h; subst h; simp [lay_length cs o vs r hr]
    · cases h
theorem lay_step : ∀ (cs : List Value) (o : Nat) (v : Value) (vs ds : List Value), lay cs o (v :: vs) = some ds → o < cs.length ∧ lay (cs.set o v) (o + 1) vs = some ds
  | [], 0, v, vs, ds, h => by simp [lay] at h
  | [], o + 1, v, vs, ds, h => by simp [lay] at h
  | c :: cs, 0, v, vs, ds, h => by
    simp only [lay] at h
    refine ⟨by simp, ?_⟩
    simp only [List.set_cons_zero, lay]; exact h
  | c :: cs, o + 1, v, vs, ds, h => by
    simp only [lay] at h
    split at h
    · rename_i r hr
      obtain ⟨h1, h2⟩ := lay_step cs o v vs r hr
      refine ⟨by simp; omega, ?_⟩
      simp only [List.set_cons_succ, lay, h2]; exact h
    · cases h
theorem lay_nil : ∀ (cs : List Value) (o : Nat) (ds : List Value), lay cs o [] = some ds → ds = cs
  | cs, 0, ds, h => by simp only [lay, Option.some.injEq] at h; exact h.symm
  | [], o + 1, ds, h => by simp [lay] at h
  | c :: cs, o + 1, ds, h => by
    simp only [lay] at h; split at h
    · rename_i r hr; simp only [Option.some.injEq] at h; subst h; rw [lay_nil cs o r hr]
    · cases h
def plain : Value → Bool
  | .agg _ | .tuple _ => false
  | _ => true
theorem run_store {w : World} {b o : Nat} {cs : List Value} {T : TypeId} {v : Value} (h : w.heap[b]? = some (.cells cs.toArray T (0, 0))) (ho : o < cs.length) (hv : plain v = true) :
    (store ⟨b, o, none⟩ v).run P w = .ok () (w.setCell ⟨b, o, none⟩ v) := by
  have hc : w.cell? ⟨b, o, none⟩ = some cs[o] := by rw [cell_of h]; simp [ho]
  have hf : w.frozen? ⟨b, o, none⟩ = false := by simp [World.frozen?, h]
  cases v <;> first | (cases hv; done) | simp [store, Sem.run, hc, hf]
theorem heap_setCell {w : World} {b o : Nat} {cs : List Value} {T : TypeId} {v : Value} (h : w.heap[b]? = some (.cells cs.toArray T (0, 0))) :
    (w.setCell ⟨b, o, none⟩ v).heap[b]? = some (.cells (cs.set o v).toArray T (0, 0)) := by
  simp [World.setCell, Array.getElem?_modify, h]
theorem run_stores {b : Nat} {T : TypeId} {L : List HProp} : ∀ (vs : List Value) (i o : Nat) (cs ds : List Value) (w : World), Sat w0 w (Sl.cl b T cs :: L) → (∀ v ∈ vs, plain v = true) → lay cs (o + i) vs = some ds →
    ∃ w', (storeCells ⟨b, o, none⟩ vs i).run P w = .ok () w' ∧ Sat w0 w' (Sl.cl b T ds :: L)
  | [], i, o, cs, ds, w, s, _, h => ⟨w, by simp [storeCells, go_sem], by rw [lay_nil _ _ _ h]; exact s⟩
  | v :: vs, i, o, cs, ds, w, s, hp, h => by
    obtain ⟨h1, h2⟩ := lay_step _ _ _ _ _ h
    have hr := run_store (P := P) s.cl h1 (hp v (by simp))
    have s' : Sat w0 (w.setCell ⟨b, o + i, none⟩ v) (Sl.cl b T (cs.set (o + i) v) :: L) :=
      Sat.write s rfl rfl rfl (by simp [World.setCell]) (heap_setCell s.cl) fun c hc _ => by
        simp only [World.setCell, Array.getElem?_modify]; rw [if_neg (by simpa using fun e => hc e.symm)]
    obtain ⟨w', hw, s''⟩ := run_stores vs (i + 1) o _ ds _ s' (fun u hu => hp u (by simp [hu])) (by rw [show o + (i + 1) = o + i + 1 by omega]; exact h2)
    refine ⟨w', ?_, s''⟩
    have hadd : (⟨b, o, none⟩ : Addr).add i = ⟨b, o + i, none⟩ := by unfold Addr.add; split <;> simp_all
    simp only [storeCells, hadd, Sem.run_bind, hr, Result.andThen_ok, hw]
structure SZ (P : Program) (T k : Nat) : Prop where
  run : ∀ w, (sizeOf T).run P w = .ok k w
theorem ac_st {d : Option Tmp} {x y : Operand} {T k ty : TypeId} {pos : String} {af : Array Edge} {g : Option (Nat × Bool)} {H' : List HProp} {b o : Nat} {E : TypeId} {v : Value} {cs vs ds : List Value} (sz : SZ P T k)
    (hx : ev env x = some (.pointer (some ⟨b, o, none⟩))) (hy : ev env y = some v) (t : Take (cl b E cs) H H') (hv : v.cells = vs.toArray) (hk : vs.length = k) (hp : vs.all plain = true) (hl : lay cs o vs = some ds) :
    Ac P ⟨d, .store T x y, ty, pos, af, g⟩ w0 env H (fun _ H'' => H'' = cl b E ds :: H') := Ac.of_skip fun ρ w e s => by
  obtain ⟨w', hw, s'⟩ := run_stores (P := P) vs 0 o cs ds w (s.take t) (by simpa using hp) (by simpa using hl)
  refine ⟨_, w', ?_, rfl, s'⟩
  show ((do Instr.storeAt T (ρ x) (ρ y); pure Next.skip : Sem Next)).run P w = _
  rw [e.eval hx, e.eval hy]
  simp only [Instr.storeAt, Instr.sureAddr, storeVar, Sem.run_bind, Sem.run_pure, sz.run, Result.andThen_ok, hv]
  simp only [List.size_toArray, hk, ne_eq, not_true, if_false, Sem.run_bind, Sem.run_pure, Result.andThen_ok, hw]

/-! ### Slices -/
/-- An owned slice: at address a, of capacity c, its elements xs, each enc'd in sz cells of type E. -/
def sl {α : Type} (E sz : Nat) (enc : α → List Value) (a : Option Addr) (c : Nat) (xs : List α) : HProp := fun h =>
  (a = none ∧ xs = [] ∧ c = 0) ∨ ∃ b off cells, a = some ⟨b, off, none⟩ ∧ pt b (.cells cells E (0, 0)) h ∧ xs.length ≤ c ∧ off + c * sz ≤ cells.size ∧
    ∀ i x, xs[i]? = some x → ∀ j v, (enc x)[j]? = some v → cells[off + (i * sz + j)]? = some v
/-- A slice that reads so in a world. -/
def SlW {α : Type} (w : World) (sz : Nat) (enc : α → List Value) (a : Option Addr) (xs : List α) : Prop :=
  xs ≠ [] → ∃ b off, a = some ⟨b, off, none⟩ ∧ ∀ i x, xs[i]? = some x → ∀ j v, (enc x)[j]? = some v → w.cell? ⟨b, off + (i * sz + j), none⟩ = some v
def SlH {α : Type} (w0 : World) (H : List HProp) (sz : Nat) (enc : α → List Value) (a : Option Addr) (xs : List α) : Prop := ∀ w, Sat w0 w H → SlW w sz enc a xs
theorem SlH.own {α : Type} {H' : List HProp} {E sz : Nat} {enc : α → List Value} {a : Option Addr} {c : Nat} {xs : List α} (t : Take (sl E sz enc a c xs) H H') : SlH w0 H sz enc a xs := fun w s hne => by
  obtain ⟨h0, x, s'⟩ := (s.take t).toRo
  rcases x with ⟨-, rfl, -⟩ | ⟨b, off, cells, rfl, hp, hl, hc, hx⟩
  · exact (hne rfl).elim
  · refine ⟨b, off, rfl, fun i x hi j v hv => ?_⟩
    have := s'.ro b _ hp.1
    simp only [World.cell?, this]
    exact hx i x hi j v hv
/-- A slice in a part of the heap that is not written. -/
def slR {α : Type} (h0 : Hp) (sz : Nat) (enc : α → List Value) (a : Option Addr) (xs : List α) : Prop :=
  xs ≠ [] → ∃ b off cells E fr, a = some ⟨b, off, none⟩ ∧ h0 b = some (.cells cells E fr) ∧ ∀ i x, xs[i]? = some x → ∀ j v, (enc x)[j]? = some v → cells[off + (i * sz + j)]? = some v
theorem SlH.ro {α : Type} {H' : List HProp} {h0 : Hp} {sz : Nat} {enc : α → List Value} {a : Option Addr} {xs : List α} (t : Take (Sl.ro h0) H H') (r : slR h0 sz enc a xs) : SlH w0 H sz enc a xs := fun w s hne => by
  obtain ⟨b, off, cells, E, fr, rfl, hb, hx⟩ := r hne
  refine ⟨b, off, rfl, fun i x hi j v hv => ?_⟩
  have := (s.take t).ro b _ hb
  simp only [World.cell?, this]
  exact hx i x hi j v hv
/-- Where it has an element it has an address. -/
theorem SlH.at {α : Type} {X : Act → World → Prop} {sz : Nat} {enc : α → List Value} {a : Option Addr} {xs : List α} (S : SlH w0 H sz enc a xs) (hne : xs ≠ [])
    (g : ∀ b off, a = some ⟨b, off, none⟩ → Gs w0 n env H X) : Gs w0 n env H X := fun ac w e s => by
  obtain ⟨b, off, h, -⟩ := S w s hne; exact g b off h ac w e s
/-- The address of a slice, where it has an element. -/
theorem Gs.slAddr {α : Type} {X : Act → World → Prop} {sz : Nat} {enc : α → List Value} {a : Option Addr} {xs : List α} (S : SlH w0 H sz enc a xs)
    (g : ∀ b off, (xs ≠ [] → a = some ⟨b, off, none⟩) → Gs w0 n env H X) : Gs w0 n env H X := fun ac w e s => by
  by_cases hne : xs = []
  · exact g 0 0 (fun h => (h hne).elim) ac w e s
  · obtain ⟨b, off, h, -⟩ := S w s hne; exact g b off (fun _ => h) ac w e s
/-- A part of the heap, of whatever make, in which a slice reads so. -/
def Srd {α : Type} (A : HProp) (sz : Nat) (enc : α → List Value) (a : Option Addr) (xs : List α) : Prop := ∀ (w0 : World) (H H' : List HProp), Take A H H' → SlH w0 H sz enc a xs
theorem Srd.h {α : Type} {A : HProp} {sz : Nat} {enc : α → List Value} {a : Option Addr} {xs : List α} (S : Srd A sz enc a xs) {H' : List HProp} (t : Take A H H') : SlH w0 H sz enc a xs := S _ _ _ t
theorem Srd.own {α : Type} {E sz : Nat} {enc : α → List Value} {a : Option Addr} {c : Nat} {xs : List α} : Srd (sl E sz enc a c xs) sz enc a xs := fun _ _ _ t => SlH.own t
theorem Srd.ro {α : Type} {h0 : Hp} {sz : Nat} {enc : α → List Value} {a : Option Addr} {xs : List α} (r : slR h0 sz enc a xs) : Srd (Sl.ro h0) sz enc a xs := fun _ _ _ t => SlH.ro t r
theorem SlH.pre {α : Type} {sz : Nat} {enc : α → List Value} {a : Option Addr} {xs ys : List α} (S : SlH w0 H sz enc a (xs ++ ys)) : SlH w0 H sz enc a xs := fun w s hne => by
  obtain ⟨b, off, h, hx⟩ := S w s (by simp [hne])
  exact ⟨b, off, h, fun i x hi => hx i x (by rw [List.getElem?_append_left (List.getElem?_eq_some_iff.1 hi).1]; exact hi)⟩
theorem Rdc.el {α : Type} {sz : Nat} {enc : α → List Value} {b off i : Nat} {xs : List α} {x : α} {vs : List Value} (S : SlH w0 H sz enc (some ⟨b, off, none⟩) xs) (hi : xs[i]? = some x) (hv : enc x = vs) : Rdc w0 H b (off + i * sz) vs := fun w s j v hj => by
  obtain ⟨b', off', h, hx⟩ := S w s (by rintro rfl; cases hi)
  cases h
  rw [Nat.add_assoc]; exact hx i x hi j v (by rw [hv]; exact hj)
theorem Rdc.el0 {α : Type} {enc : α → List Value} {b off i : Nat} {xs : List α} {x : α} {vs : List Value} {o : Nat} {sz : Nat} (S : SlH w0 H sz enc (some ⟨b, off, none⟩) xs) (hi : xs[i]? = some x) (ho : o = off + i * sz) (hv : enc x = vs) : Rdc w0 H b o vs := by
  subst ho; exact Rdc.el S hi hv
/-- A part of an element. -/
theorem Rdc.elp {α : Type} {enc : α → List Value} {b off i f : Nat} {xs : List α} {x : α} {vs : List Value} {o sz : Nat} (k : Nat) (S : SlH w0 H sz enc (some ⟨b, off, none⟩) xs) (hi : xs[i]? = some x) (ho : o = off + i * sz + f) (h : grab k ((enc x).drop f) = some vs) : Rdc w0 H b o vs := fun w s j v hj => by
  obtain ⟨b', off', h', hx⟩ := S w s (by rintro rfl; cases hi)
  cases h'
  have h2 := (grab_spec k _ _ h).2 j v hj
  rw [List.getElem?_drop] at h2
  have := hx i x hi (f + j) v h2
  rw [ho, Nat.add_assoc (off + i * sz), Nat.add_assoc off]; exact this
/-- a[i] of a slice, its address. -/
structure SE (P : Program) (T sz : Nat) : Prop where
  elem : ∃ E, P.underlying T = some (.slice E) ∧ ∀ w, (sizeOf E).run P w = .ok sz w
theorem pu_ia {d : Option Tmp} {x y : Operand} {T sz ty : TypeId} {pos : String} {af : Array Edge} {g : Option (Nat × Bool)} {b o l c : Nat} {k : IntKind} {i : Int} (se : SE P T sz) (hx : ev env x = some (.slice (some ⟨b, o, none⟩) l c)) (hy : ev env y = some (.int k i))
    (h0 : 0 ≤ i) (h1 : i < l) : Pu P ⟨d, .indexAddr T x y, ty, pos, af, g⟩ env (.pointer (some ⟨b, o + i.toNat * sz, none⟩)) := fun ρ w e => by
  obtain ⟨E, hE, hs⟩ := se.elem
  refine run_v (s := Instr.indexAt T (ρ x) (ρ y)) ?_
  rw [e.eval hx, e.eval hy]
  have hu : (underlying T).run P w = .ok (.slice E) w := by simp [underlying, hE, go_sem]
  simp only [Instr.indexAt, asIntOf, Sem.run_bind, Sem.run_pure, hu, Result.andThen_ok]
  rw [if_pos ⟨h0, by omega⟩]
  simp only [Sem.run_bind, hs, Result.andThen_ok, Sem.run_pure]
  congr 3
  unfold Addr.add; split <;> simp_all
theorem pu_len {d : Option Tmp} {x : Operand} {T E ty : TypeId} {pos : String} {af : Array Edge} {g : Option (Nat × Bool)} {a : Option Addr} {l c : Nat} (ht : P.underlying T = some (.slice E)) (hx : ev env x = some (.slice a l c)) :
    Pu P ⟨d, .call ⟨.builtin .len, #[x], #[T]⟩, ty, pos, af, g⟩ env (.int .i64 l) := fun ρ w e => by
  have hu : (underlying T).run P w = .ok (.slice E) w := by simp [underlying, ht, go_sem]
  simp [execOp, resolve, invoke, builtin, Builtin.len_, e.eval hx, hu, go_sem, goInt]
theorem pu_lenS {d : Option Tmp} {x : Operand} {T ty : TypeId} {pos : String} {af : Array Edge} {g : Option (Nat × Bool)} {s : ByteArray} (ht : P.underlying T = some .string) (hx : ev env x = some (.string s)) :
    Pu P ⟨d, .call ⟨.builtin .len, #[x], #[T]⟩, ty, pos, af, g⟩ env (.int .i64 s.size) := fun ρ w e => by
  have hu : (underlying T).run P w = .ok .string w := by simp [underlying, ht, go_sem]
  simp [execOp, resolve, invoke, builtin, Builtin.len_, e.eval hx, hu, go_sem, goInt]

/-! ### Calls -/
theorem as_call {d : Option Tmp} {f : FuncId} {args : List Operand} {ts : Array TypeId} {ty : TypeId} {pos : String} {af : Array Edge} {g : Option (Nat × Bool)} {vs : List Value} {pre H' : List HProp} {post : Value → List HProp → Prop}
    (S : Ct P f vs pre post) (hv : Evs env args vs) (t : Takes pre H H') : Ac P ⟨d, .call ⟨.value (.func f), args.toArray, ts⟩, ty, pos, af, g⟩ w0 env H (fun v H'' => ∃ hs, post v hs ∧ H'' = hs ++ H') := fun ρ w e s => by
  have hr : (execOp ρ ⟨d, .call ⟨.value (.func f), args.toArray, ts⟩, ty, pos, af, g⟩).run P w = .ok (.enter f vs.toArray) w := by
    show (do let d ← resolve ρ ⟨.value (.func f), args.toArray, ts⟩ ty; invoke d.target d.args : Sem Next).run P w = _
    have h1 : resolve ρ ⟨.value (.func f), args.toArray, ts⟩ ty = (pure ⟨.fn (.func f) #[], vs.toArray⟩ : Sem Deferred) := by
      simp only [resolve, e.eval (x := .func f) rfl, Deferred.ofValue]
      show (pure ⟨Target.fn (.func f) #[], #[] ++ args.toArray.map ρ⟩ : Sem Deferred) = _
      rw [List.map_toArray, hv.rho e]; simp
    rw [h1]
    simp only [Sem.run_bind, Sem.run_pure, Result.andThen_ok, invoke]
    simpa using S.enters w
  rw [hr]
  exact (S.calls w0 w H' (s.takes t)).mono fun _ _ ⟨v, hs, he, hp, hsat⟩ => ⟨v, he, hs ++ H', ⟨hs, hp, rfl⟩, hsat⟩
/-- A call of a function value. -/
theorem as_callV {d : Option Tmp} {f : FuncId} {x : Operand} {us cs : List Value} {args : List Operand} {ts : Array TypeId} {ty : TypeId} {pos : String} {af : Array Edge} {g : Option (Nat × Bool)} {vs : List Value} {pre H' : List HProp} {post : Value → List HProp → Prop}
    (hx : ev env x = some (.func (.func f) us.toArray cs.toArray)) (S : Ct P f (us ++ vs ++ cs) pre post) (hv : Evs env args vs) (t : Takes pre H H') : Ac P ⟨d, .call ⟨.value x, args.toArray, ts⟩, ty, pos, af, g⟩ w0 env H (fun v H'' => ∃ hs, post v hs ∧ H'' = hs ++ H') := fun ρ w e s => by
  have hr : (execOp ρ ⟨d, .call ⟨.value x, args.toArray, ts⟩, ty, pos, af, g⟩).run P w = .ok (.enter f (us ++ vs ++ cs).toArray) w := by
    show (do let d ← resolve ρ ⟨.value x, args.toArray, ts⟩ ty; invoke d.target d.args : Sem Next).run P w = _
    have h1 : resolve ρ ⟨.value x, args.toArray, ts⟩ ty = (pure ⟨.fn (.func f) cs.toArray, us.toArray ++ vs.toArray⟩ : Sem Deferred) := by
      simp only [resolve, e.eval hx, Deferred.ofValue]
      rw [List.map_toArray, hv.rho e]
    rw [h1]
    simp only [Sem.run_bind, Sem.run_pure, Result.andThen_ok, invoke]
    simpa using S.enters w
  rw [hr]
  exact (S.calls w0 w H' (s.takes t)).mono fun _ _ ⟨v, hs, he, hp, hsat⟩ => ⟨v, he, hs ++ H', ⟨hs, hp, rfl⟩, hsat⟩

/-! ### Ends whose result lies in a variable -/
section ends
variable {fn : Func} {post : Value → List HProp → Prop} {R : List HProp}
theorem run_lda {w : World} {T k b o : Nat} {vs : List Value} (ag : AG P T k) (r : Rdc w0 H b o vs) (hk : vs.length = k) (s : Sat w0 w H) : (loadVar T ⟨b, o, none⟩).run P w = .ok (.agg vs.toArray) w := by
  have h := loadCells_run (P := P) (w := w) (b := b) (o := o) vs 0 #[] (fun j v hv => by simpa using r w s j v hv)
  simp only [loadVar, Sem.run_bind, ag.run, ag.size, Result.andThen_ok, loadCells, if_true, ← hk, h]
  simp
theorem results_c1 {t T : Nat} (hr : fn.results = #[.cell t T]) {tmps : Array Value} {w : World} {A : Addr} {v : Value} (h : tmps.getD t undef = .pointer (some A)) (hl : (loadVar T A).run P w = .ok v w) : (results fn tmps).run P w = .ok v w := by
  have h' : tmps[t]?.getD undef = .pointer (some A) := by rw [← h, Array.getD_eq_getD_getElem?]
  unfold results; rw [hr]; simp [asAddr, h', hl]
theorem results_c2 {t u T : Nat} (hr : fn.results = #[.cell t T, .tmp u]) {tmps : Array Value} {w : World} {A : Addr} {v x : Value} (h : tmps.getD t undef = .pointer (some A)) (hu : tmps.getD u undef = x) (hl : (loadVar T A).run P w = .ok v w) : (results fn tmps).run P w = .ok (.tuple #[v, x]) w := by
  have h' : tmps[t]?.getD undef = .pointer (some A) := by rw [← h, Array.getD_eq_getD_getElem?]
  have hu' : tmps[u]?.getD undef = x := by rw [← hu, Array.getD_eq_getD_getElem?]
  unfold results; rw [hr]; simp [asAddr, h', hl, hu']
theorem Gs.finc1 {t T k b : Nat} {vs : List Value} (hr : fn.results = #[.cell t T]) (ag : AG P T k) (h : lk env t = some (.pointer (some ⟨b, 0, none⟩))) (r : Rdc w0 H b 0 vs) (hk : vs.length = k) (hs : List HProp) (hp : post (.agg vs.toArray) hs) (hH : Ent H (hs ++ R)) :
    Gs w0 n env H (bodyPost P fn (fun e w' => ∃ v hs, e = .returned v ∧ post v hs ∧ Sat w0 w' (hs ++ R)) .ret) := fun a w e s =>
  ⟨e.defers, _, results_c1 hr (e.slots t _ h) (run_lda ag r hk s), _, hs, rfl, hp, hH.sat s⟩
theorem Gs.finc2 {t u T k b : Nat} {vs : List Value} {x : Value} (hr : fn.results = #[.cell t T, .tmp u]) (ag : AG P T k) (h : lk env t = some (.pointer (some ⟨b, 0, none⟩))) (r : Rdc w0 H b 0 vs) (hk : vs.length = k) (hu : lk env u = some x) (hs : List HProp) (hp : post (.tuple #[.agg vs.toArray, x]) hs) (hH : Ent H (hs ++ R)) :
    Gs w0 n env H (bodyPost P fn (fun e w' => ∃ v hs, e = .returned v ∧ post v hs ∧ Sat w0 w' (hs ++ R)) .ret) := fun a w e s =>
  ⟨e.defers, _, results_c2 hr (e.slots t _ h) (e.slots u _ hu) (run_lda ag r hk s), _, hs, rfl, hp, hH.sat s⟩
end ends
end
end Go.Sl
