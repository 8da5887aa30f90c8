/- Equality of structs; maps: look-up, update, delete, length, ranging. Nothing of the program stands here. -/
import Derived.Test.YtjaafkakeccniaaGreatDoorSlc
import Derived.Test.YtjaafkakeccniaaGreatDoorKv
import Derived.Maps.RangeRun
namespace Go.Sl
open Go

section
variable {P : Program} {n : Nat} {w0 : World} {env : Env} {H : List HProp}

/-! ### == -/
theorem beq_bytes (a b : ByteArray) : (a == b) = decide (a = b) := by
  cases a with | mk a => cases b with | mk b =>
  have : ((⟨a⟩ : ByteArray) == ⟨b⟩) = (a == b) := rfl
  rw [this]
  by_cases h : a = b <;> simp [h]
/-- Values of a type are compared so (from some depth of calls on). -/
def CmpT {α : Type} [DecidableEq α] (P : Program) (t : TypeId) (val : α → Value) (m : Nat) : Prop := ∀ d, m ≤ d → ∀ a b w, (Op.equalIn d t (val a) (val b)).run P w = .ok (decide (a = b)) w
theorem cmp_int {t : TypeId} {k : IntKind} (ht : P.underlying t = some (.int k)) : CmpT P t (fun i : Int => .int k i) 1 := fun d hd a b w => by
  obtain ⟨d, rfl⟩ : ∃ e, d = e + 1 := ⟨d - 1, by omega⟩
  have hu : (underlying t).run P w = .ok (.int k) w := by simp [underlying, ht, go_sem]
  unfold Op.equalIn
  simp only [Sem.run_bind, hu, Result.andThen_ok, if_true]
  rfl
theorem cmp_str {t : TypeId} (ht : P.underlying t = some .string) : CmpT P t (fun s : ByteArray => .string s) 1 := fun d hd a b w => by
  obtain ⟨d, rfl⟩ : ∃ e, d = e + 1 := ⟨d - 1, by omega⟩
  have hu : (underlying t).run P w = .ok .string w := by simp [underlying, ht, go_sem]
  unfold Op.equalIn
  simp only [Sem.run_bind, hu, Result.andThen_ok, Sem.run_pure]
  congr 1
  exact beq_bytes a b
/-- A struct's fields, one behind the other. -/
theorem eq_fields {d : Nat} {w : World} {xs ys : Array Value} : ∀ (fs : List Field) (bs : List Bool), fs.length = bs.length →
    (∀ (i : Nat) (f : Field) (b : Bool), fs[i]? = some f → bs[i]? = some b → f.name ≠ "_" ∧ ∃ u v, (part f.type xs f.offset).run P w = .ok u w ∧ (part f.type ys f.offset).run P w = .ok v w ∧ (Op.equalIn d f.type u v).run P w = .ok b w) →
    (do
      for f in fs do
        if f.name ≠ "_" then
          if !(← Op.equalIn d f.type (← part f.type xs f.offset) (← part f.type ys f.offset)) then return false
      Pure.pure true : Sem Bool).run P w = .ok (bs.all id) w := by
  intro fs
  induction fs with
  | nil => intro bs h _; cases bs with
    | nil => rfl
    | cons => cases h
  | cons f fs ih =>
    intro bs h hf
    cases bs with
    | nil => cases h
    | cons b bs =>
      obtain ⟨hn, u, v, h1, h2, h3⟩ := hf 0 f b rfl rfl
      have ih' := ih bs (by simpa using h) fun i g c hg hc => hf (i + 1) g c (by simpa using hg) (by simpa using hc)
      simp only [List.forIn_cons, bind_assoc, Sem.run_bind, hn, ne_eq, not_false_eq_true, if_true, h1, h2, h3, Result.andThen_ok, List.all_cons, id]
      cases b with
      | true =>
        simp only [Bool.not_true, Bool.false_eq_true, if_false, Sem.run_bind, Sem.run_pure, Result.andThen_ok, Bool.true_and]
        simpa only [Sem.run_bind] using ih'
      | false => rfl
theorem equalIn_struct {d : Nat} {t : TypeId} {fs : Array Field} {xs ys : Array Value} {w : World} {bs : List Bool} (ht : P.underlying t = some (.struct fs)) (hs : P.stoodInHeld t = false) (hl : fs.toList.length = bs.length)
    (h : ∀ (i : Nat) (f : Field) (b : Bool), fs.toList[i]? = some f → bs[i]? = some b → f.name ≠ "_" ∧ ∃ u v, (part f.type xs f.offset).run P w = .ok u w ∧ (part f.type ys f.offset).run P w = .ok v w ∧ (Op.equalIn d f.type u v).run P w = .ok b w) :
    (Op.equalIn (d + 1) t (.agg xs) (.agg ys)).run P w = .ok (bs.all id) w := by
  have hu : (underlying t).run P w = .ok (.struct fs) w := by simp [underlying, ht, go_sem]
  have hp : (program).run P w = .ok P w := rfl
  unfold Op.equalIn
  simp only [Sem.run_bind, hu, Result.andThen_ok, hp, hs, Bool.false_eq_true, if_false]
  have := eq_fields (P := P) fs.toList bs hl h
  rw [← Array.forIn_toList]
  simpa only [Sem.run_bind] using this
theorem part_na {t : TypeId} {xs : Array Value} {o : Nat} {v : Value} {w : World} (na : NA P t) (h : xs[o]? = some v) : (part t xs o).run P w = .ok v w := by
  simp only [part, Sem.run_bind, na.run, Result.andThen_ok]; simp [h]
theorem part_ag {t k : Nat} {xs : Array Value} {o : Nat} {w : World} (ag : AG P t k) : (part t xs o).run P w = .ok (.agg (xs.extract o (o + k))) w := by
  simp only [part, Sem.run_bind, ag.run, ag.size, Result.andThen_ok, if_true]; rfl
/-- A struct of two integers; of three; of two such and a string. -/
theorem cmp_ii {t t0 : TypeId} {f0 f1 : Field} {k : IntKind} (ht : P.underlying t = some (.struct #[f0, f1])) (hs : P.stoodInHeld t = false) (hn : f0.name ≠ "_" ∧ f1.name ≠ "_") (hf : (f0.type = t0 ∧ f1.type = t0) ∧ f0.offset = 0 ∧ f1.offset = 1)
    (hi : P.underlying t0 = some (.int k)) (na : NA P t0) : CmpT P t (fun p : Int × Int => .agg #[.int k p.1, .int k p.2]) 2 := fun d hd a b w => by
  obtain ⟨d, rfl⟩ : ∃ e, d = e + 1 := ⟨d - 1, by omega⟩
  have e := equalIn_struct (P := P) (d := d) (w := w) (xs := #[.int k a.1, .int k a.2]) (ys := #[.int k b.1, .int k b.2]) (bs := [decide (a.1 = b.1), decide (a.2 = b.2)]) ht hs rfl (fun i f c hf' hc => by
    match i with
    | 0 => simp at hf' hc; subst hf'; subst hc; rw [hf.1.1, hf.2.1]; exact ⟨hn.1, _, _, part_na na rfl, part_na na rfl, cmp_int hi d (by omega) _ _ w⟩
    | 1 => simp at hf' hc; subst hf'; subst hc; rw [hf.1.2, hf.2.2]; exact ⟨hn.2, _, _, part_na na rfl, part_na na rfl, cmp_int hi d (by omega) _ _ w⟩
    | i + 2 => simp at hf')
  refine e.trans ?_; congr 1
  cases a; cases b; simp
theorem cmp_iii {t t0 : TypeId} {f0 f1 f2 : Field} {k : IntKind} (ht : P.underlying t = some (.struct #[f0, f1, f2])) (hs : P.stoodInHeld t = false) (hn : f0.name ≠ "_" ∧ f1.name ≠ "_" ∧ f2.name ≠ "_") (hf : (f0.type = t0 ∧ f1.type = t0 ∧ f2.type = t0) ∧ f0.offset = 0 ∧ f1.offset = 1 ∧ f2.offset = 2)
    (hi : P.underlying t0 = some (.int k)) (na : NA P t0) : CmpT P t (fun p : Int × Int × Int => .agg #[.int k p.1, .int k p.2.1, .int k p.2.2]) 2 := fun d hd a b w => by
  obtain ⟨d, rfl⟩ : ∃ e, d = e + 1 := ⟨d - 1, by omega⟩
  have e := equalIn_struct (P := P) (d := d) (w := w) (xs := #[.int k a.1, .int k a.2.1, .int k a.2.2]) (ys := #[.int k b.1, .int k b.2.1, .int k b.2.2]) (bs := [decide (a.1 = b.1), decide (a.2.1 = b.2.1), decide (a.2.2 = b.2.2)]) ht hs rfl (fun i f c hf' hc => by
    match i with
    | 0 => simp at hf' hc; subst hf'; subst hc; rw [hf.1.1, hf.2.1]; exact ⟨hn.1, _, _, part_na na rfl, part_na na rfl, cmp_int hi d (by omega) _ _ w⟩
    | 1 => simp at hf' hc; subst hf'; subst hc; rw [hf.1.2.1, hf.2.2.1]; exact ⟨hn.2.1, _, _, part_na na rfl, part_na na rfl, cmp_int hi d (by omega) _ _ w⟩
    | 2 => simp at hf' hc; subst hf'; subst hc; rw [hf.1.2.2, hf.2.2.2]; exact ⟨hn.2.2, _, _, part_na na rfl, part_na na rfl, cmp_int hi d (by omega) _ _ w⟩
    | i + 3 => simp at hf')
  refine e.trans ?_; congr 1
  obtain ⟨a1, a2, a3⟩ := a; obtain ⟨b1, b2, b3⟩ := b; simp
theorem cmp_iiiis {t t0 t1 t2 : TypeId} {f0 f1 f2 : Field} {k : IntKind} (ht : P.underlying t = some (.struct #[f0, f1, f2])) (hs : P.stoodInHeld t = false) (hn : f0.name ≠ "_" ∧ f1.name ≠ "_" ∧ f2.name ≠ "_") (hf : (f0.type = t0 ∧ f1.type = t1 ∧ f2.type = t2) ∧ f0.offset = 0 ∧ f1.offset = 2 ∧ f2.offset = 4)
    (c0 : CmpT P t0 (fun p : Int × Int => .agg #[.int k p.1, .int k p.2]) 2) (a0 : AG P t0 2) (c1 : CmpT P t1 (fun p : Int × Int => .agg #[.int k p.1, .int k p.2]) 2) (a1 : AG P t1 2) (h2 : P.underlying t2 = some .string) (n2 : NA P t2) :
    CmpT P t (fun p : Int × Int × Int × Int × ByteArray => .agg #[.int k p.1, .int k p.2.1, .int k p.2.2.1, .int k p.2.2.2.1, .string p.2.2.2.2]) 3 := fun d hd a b w => by
  obtain ⟨d, rfl⟩ : ∃ e, d = e + 1 := ⟨d - 1, by omega⟩
  obtain ⟨a1', a2, a3, a4, a5⟩ := a
  obtain ⟨b1, b2, b3, b4, b5⟩ := b
  have e := equalIn_struct (P := P) (d := d) (w := w) (xs := #[.int k a1', .int k a2, .int k a3, .int k a4, .string a5]) (ys := #[.int k b1, .int k b2, .int k b3, .int k b4, .string b5]) (bs := [decide ((a1', a2) = (b1, b2)), decide ((a3, a4) = (b3, b4)), decide (a5 = b5)]) ht hs rfl (fun i f c hf' hc => by
    match i with
    | 0 => simp only [List.getElem?_cons_zero, Option.some.injEq] at hf' hc; subst hf'; subst hc; rw [hf.1.1, hf.2.1]; exact ⟨hn.1, _, _, part_ag a0, part_ag a0, c0 d (by omega) (a1', a2) (b1, b2) w⟩
    | 1 => simp only [List.getElem?_cons_succ, List.getElem?_cons_zero, Option.some.injEq] at hf' hc; subst hf'; subst hc; rw [hf.1.2.1, hf.2.2.1]; exact ⟨hn.2.1, _, _, part_ag a1, part_ag a1, c1 d (by omega) (a3, a4) (b3, b4) w⟩
    | 2 => simp only [List.getElem?_cons_succ, List.getElem?_cons_zero, Option.some.injEq] at hf' hc; subst hf'; subst hc; rw [hf.1.2.2, hf.2.2.2]; exact ⟨hn.2.2, _, _, part_na n2 rfl, part_na n2 rfl, cmp_str h2 d (by omega) _ _ w⟩
    | i + 3 => simp at hf')
  refine e.trans ?_; congr 1
  simp only [List.all_cons, List.all_nil, id, Bool.and_true, Prod.mk.injEq, Bool.decide_and, Bool.and_assoc]
/-- == and != at a type with such a comparison. -/
theorem eqGuard_no {op : BinOp} {t : TypeId} {x y : Operand} {a b : Array Value} {w : World} (h : P.eqGuardType P.depth t = false) : (eqGuard op t x y (.agg a) (.agg b)).run P w = .ok () w := by
  unfold eqGuard
  cases op <;> simp [h, go_sem]
theorem pu_eqT {α : Type} [DecidableEq α] {d : Option Tmp} {x y : Operand} {T T' ty m : Nat} {pos : String} {af : Array Edge} {g : Option (Nat × Bool)} {cs : α → List Value} {a b : α} (c : CmpT P T (fun a => .agg (cs a).toArray) m) (hm : m ≤ 10000) (hg : P.eqGuardType P.depth T = false)
    (hx : ev env x = some (.agg (cs a).toArray)) (hy : ev env y = some (.agg (cs b).toArray)) : Pu P ⟨d, .binOp .eql T x y T', ty, pos, af, g⟩ env (.bool (decide (a = b))) := fun ρ w e => by
  refine run_v (s := do eqGuard .eql T x y (ρ x) (ρ y); binOp .eql T (ρ x) (ρ y)) ?_
  rw [e.eval hx, e.eval hy]
  have h1 : binOp .eql T (.agg (cs a).toArray) (.agg (cs b).toArray) = (do Pure.pure (.bool (← Op.equal T (.agg (cs a).toArray) (.agg (cs b).toArray)))) := rfl
  simp only [Sem.run_bind, eqGuard_no hg, Result.andThen_ok, h1, Op.equal, Op.maxDepth, c 10000 hm a b w]
  rfl
theorem pu_neT {α : Type} [DecidableEq α] {d : Option Tmp} {x y : Operand} {T T' ty m : Nat} {pos : String} {af : Array Edge} {g : Option (Nat × Bool)} {cs : α → List Value} {a b : α} (c : CmpT P T (fun a => .agg (cs a).toArray) m) (hm : m ≤ 10000) (hg : P.eqGuardType P.depth T = false)
    (hx : ev env x = some (.agg (cs a).toArray)) (hy : ev env y = some (.agg (cs b).toArray)) : Pu P ⟨d, .binOp .neq T x y T', ty, pos, af, g⟩ env (.bool (decide (a ≠ b))) := fun ρ w e => by
  refine run_v (s := do eqGuard .neq T x y (ρ x) (ρ y); binOp .neq T (ρ x) (ρ y)) ?_
  rw [e.eval hx, e.eval hy]
  have h1 : binOp .neq T (.agg (cs a).toArray) (.agg (cs b).toArray) = (do Pure.pure (.bool (!(← Op.equal T (.agg (cs a).toArray) (.agg (cs b).toArray))))) := rfl
  simp only [Sem.run_bind, eqGuard_no hg, Result.andThen_ok, h1, Op.equal, Op.maxDepth, c 10000 hm a b w]
  by_cases h : a = b <;> simp [h, go_sem]

/-! ### Maps -/
open Go.Kv
open Go.ChangeMaps (setBlock)
variable {κ ν : Type}
/-- An entry's place and value, looked for from place i on. -/
def seek [DecidableEq κ] (k : κ) : List (κ × Value) → Nat → Option (Nat × Value)
  | [], _ => none
  | (k', v) :: r, i => if k = k' then some (i, v) else seek k r (i + 1)
structure KeyT [DecidableEq κ] (P : Program) (K : TypeId) (enck : κ → Value) : Prop where
  check : ∀ e k w, (Instr.checkKey e 10000 K (enck k)).run P w = .ok () w
  find : ∀ (l : List (κ × Value)) (es : List MapEntry) (k : κ) (w : World), es.map (fun e => (e.key, e.val)) = l.map (fun p => (enck p.1, p.2)) → (Instr.findKey K (enck k) es).run P w = .ok (seek k l 0) w
  same : ∀ k, Instr.sameBits 10000 (enck k) (enck k) = true
theorem find_asking [DecidableEq κ] {K m : TypeId} {enck : κ → Value} (c : CmpT P K enck m) (hm : m ≤ 10000) {k : κ} {w : World} : ∀ (l : List (κ × Value)) (es : List MapEntry) (i : Nat), es.map (fun e => (e.key, e.val)) = l.map (fun p => (enck p.1, p.2)) →
    (Instr.findAsking K (enck k) es i).run P w = .ok (seek k l i) w
  | [], [], i, _ => rfl
  | [], _ :: _, i, h => by simp at h
  | _ :: _, [], i, h => by simp at h
  | (k', v) :: l, e :: es, i, h => by
    simp only [List.map_cons, List.cons.injEq, Prod.mk.injEq] at h
    obtain ⟨⟨h1, h2⟩, h3⟩ := h
    have hc : (Op.equal K (enck k) (enck k')).run P w = .ok (decide (k = k')) w := c 10000 hm k k' w
    simp only [Instr.findAsking, h1, Sem.run_bind, hc, Result.andThen_ok, seek]
    by_cases hk : k = k'
    · simp [hk, h2, go_sem]
    · simp only [hk, decide_false, Bool.false_eq_true, if_false]; exact find_asking c hm l es (i + 1) h3
theorem KeyT.struct [DecidableEq κ] {K m : TypeId} {enck : κ → Value} {fs : Array Field} (ht : P.underlying K = some (.struct fs)) (c : CmpT P K enck m) (hm : m ≤ 10000) (hc : ∀ e k w, (Instr.checkKey e 10000 K (enck k)).run P w = .ok () w)
    (hs : ∀ k, Instr.sameBits 10000 (enck k) (enck k) = true) : KeyT P K enck :=
  ⟨hc, fun l es k w h => by
    have hu : (underlying K).run P w = .ok (.struct fs) w := by simp [underlying, ht, go_sem]
    unfold Instr.findKey
    simp only [Sem.run_bind, hu, Result.andThen_ok]
    cases es with
    | nil =>
      cases l with
      | nil => rfl
      | cons => simp at h
    | cons e es =>
      have : Instr.findNow (.struct fs) (enck k) (e :: es) 0 = none := by simp [Instr.findNow, Instr.sameNow]
      rw [this]; exact find_asking c hm l _ 0 h, hs⟩
theorem find_now {P : Program} {k : ByteArray} : ∀ (l : List (ByteArray × Value)) (es : List MapEntry) (i : Nat), es.map (fun e => (e.key, e.val)) = l.map (fun p => (Value.string p.1, p.2)) → Instr.findNow .string (.string k) es i = some (seek k l i)
  | [], [], i, _ => rfl
  | [], _ :: _, i, h => by simp at h
  | _ :: _, [], i, h => by simp at h
  | (k', v) :: l, e :: es, i, h => by
    simp only [List.map_cons, List.cons.injEq, Prod.mk.injEq] at h
    obtain ⟨⟨h1, h2⟩, h3⟩ := h
    simp only [Instr.findNow, Instr.sameNow, h1, seek, beq_bytes]
    by_cases hk : k = k'
    · simp [hk, h2]
    · simp only [hk, decide_false, if_false]; exact find_now (P := P) l es (i + 1) h3
theorem KeyT.str {K : TypeId} (ht : P.underlying K = some .string) : KeyT P K (fun s : ByteArray => .string s) :=
  ⟨fun e k w => by
    have hu : (underlying K).run P w = .ok .string w := by simp [underlying, ht, go_sem]
    unfold Instr.checkKey
    simp only [Sem.run_bind, hu, Result.andThen_ok]; rfl, fun l es k w h => by
    have hu : (underlying K).run P w = .ok .string w := by simp [underlying, ht, go_sem]
    unfold Instr.findKey
    simp only [Sem.run_bind, hu, Result.andThen_ok, find_now (P := P) l es 0 h]; rfl, fun k => by
    unfold Instr.sameBits; rw [beq_bytes]; simp⟩
/-- The check of a struct key: each of its fields'. -/
theorem check_fields {e : Bool} {d : Nat} {w : World} {xs : Array Value} : ∀ (fs : List Field), (∀ f ∈ fs, ∃ u, (part f.type xs f.offset).run P w = .ok u w ∧ (Instr.checkKey e d f.type u).run P w = .ok () w) →
    (do
      for f in fs do
        if f.name ≠ "_" then Instr.checkKey e d f.type (← part f.type xs f.offset) : Sem Unit).run P w = .ok () w := by
  intro fs
  induction fs with
  | nil => intro _; rfl
  | cons f fs ih =>
    intro h
    obtain ⟨u, h1, h2⟩ := h f (by simp)
    have ih' := ih fun g hg => h g (by simp [hg])
    simp only [List.forIn_cons, bind_assoc]
    by_cases hn : f.name = "_"
    · simp only [hn, ne_eq, not_true, if_false, Sem.run_bind, Sem.run_pure, Result.andThen_ok] at ih' ⊢; exact ih'
    · simp only [hn, ne_eq, not_false_eq_true, if_true, Sem.run_bind, h1, h2, Sem.run_pure, Result.andThen_ok] at ih' ⊢; exact ih'
theorem check_struct {e : Bool} {d : Nat} {w : World} {xs : Array Value} {K : TypeId} {fs : Array Field} (ht : P.underlying K = some (.struct fs)) (h : ∀ f ∈ fs.toList, ∃ u, (part f.type xs f.offset).run P w = .ok u w ∧ (Instr.checkKey e d f.type u).run P w = .ok () w) :
    (Instr.checkKey e (d + 1) K (.agg xs)).run P w = .ok () w := by
  have hu : (underlying K).run P w = .ok (.struct fs) w := by simp [underlying, ht, go_sem]
  unfold Instr.checkKey
  simp only [Sem.run_bind, hu, Result.andThen_ok]
  rw [← Array.forIn_toList]
  have := check_fields (P := P) fs.toList h
  simpa only [Sem.run_bind] using this
theorem check_int {e : Bool} {d : Nat} {w : World} {K : TypeId} {k k' : IntKind} {i : Int} (ht : P.underlying K = some (.int k)) : (Instr.checkKey e (d + 1) K (.int k' i)).run P w = .ok () w := by
  have hu : (underlying K).run P w = .ok (.int k) w := by simp [underlying, ht, go_sem]
  unfold Instr.checkKey
  simp only [Sem.run_bind, hu, Result.andThen_ok]; rfl

/-- A map. -/
def mp (enck : κ → Value) (encv : ν → Value) (b : Nat) (m : List (κ × ν)) : HProp := fun h => ∃ ents clock, pt b (.map ents clock) h ∧ ents.toList.map (fun e => (e.key, e.val)) = m.map (fun p => (enck p.1, encv p.2)) ∧ (mkeys m).Nodup ∧
  (ents.toList.map (·.born)).Nodup ∧ ∀ e ∈ ents.toList, e.born < clock
theorem seek_spec [DecidableEq κ] {k : κ} {encv : ν → Value} : ∀ (m : List (κ × ν)) (i : Nat), (seek k (m.map fun p => (p.1, encv p.2)) i = none ∧ mget m k = none) ∨
    ∃ j v, seek k (m.map fun p => (p.1, encv p.2)) i = some (i + j, encv v) ∧ mget m k = some v ∧ m[j]? = some (k, v) ∧ (∀ v', (m.set j (k, v')) = mput m k v') ∧ m.eraseIdx j = mdel m k
  | [], i => .inl ⟨rfl, rfl⟩
  | (k', v) :: m, i => by
    simp only [List.map_cons, seek, mget]
    by_cases h : k = k'
    · subst h
      refine .inr ⟨0, v, by simp, by simp, by simp, fun v' => by simp [mput], by simp [mdel]⟩
    · simp only [h, if_false]
      rcases seek_spec m (i + 1) with ⟨h1, h2⟩ | ⟨j, u, h1, h2, h3, h4, h5⟩
      · exact .inl ⟨h1, h2⟩
      · refine .inr ⟨j + 1, u, by rw [h1]; congr 2; omega, h2, by simpa using h3, fun v' => by simp [mput, h, h4], by simp [mdel, h, h5]⟩
theorem find_in [DecidableEq κ] {K : TypeId} {enck : κ → Value} {encv : ν → Value} (kt : KeyT P K enck) {m : List (κ × ν)} {es : Array MapEntry} (he : es.toList.map (fun e => (e.key, e.val)) = m.map (fun p => (enck p.1, encv p.2))) (k : κ) (w : World) :
    (Instr.findKey K (enck k) es.toList).run P w = .ok (seek k (m.map fun p => (p.1, encv p.2)) 0) w :=
  kt.find _ _ k w (by rw [he, List.map_map]; rfl)
theorem run_getMap {w : World} {b : Nat} {es : Array MapEntry} {clock : Nat} (h : w.heap[b]? = some (.map es clock)) : (getObj b).run P w = .ok (.map es clock) w := by
  simp [getObj, Sem.run, h]
theorem Gs.mpNodup {X : Act → World → Prop} {enck : κ → Value} {encv : ν → Value} {b : Nat} {m : List (κ × ν)} {H' : List HProp} (t : Take (mp enck encv b m) H H') (g : (mkeys m).Nodup → Gs w0 n env H X) : Gs w0 n env H X := fun a w e s => by
  obtain ⟨h0, ⟨ents, clock, _, _, hn, _⟩, _⟩ := (s.take t).toRo
  exact g hn a w e s
theorem rd_lenM {d : Option Tmp} {x : Operand} {T K E ty : TypeId} {pos : String} {af : Array Edge} {g : Option (Nat × Bool)} {enck : κ → Value} {encv : ν → Value} {b : Nat} {m : List (κ × ν)} {H' : List HProp} (ht : P.underlying T = some (.map K E)) (hx : ev env x = some (.map (some b))) (t : Take (mp enck encv b m) H H') :
    Rd P ⟨d, .call ⟨.builtin .len, #[x], #[T]⟩, ty, pos, af, g⟩ w0 env H (.int .i64 m.length) := fun ρ w e s => by
  obtain ⟨h0, ⟨ents, clock, hp, he, -⟩, s'⟩ := (s.take t).toRo
  have hb := s'.ro b _ hp.1
  have hu : (underlying T).run P w = .ok (.map K E) w := by simp [underlying, ht, go_sem]
  have hl : ents.size = m.length := by have := congrArg List.length he; simpa using this
  show (do Pure.pure (Next.value (← Builtin.len_ #[T] ty (#[x].map ρ))) : Sem Next).run P w = _
  rw [show #[x].map ρ = #[ρ x] by simp, e.eval hx]
  refine run_v ?_
  unfold Builtin.len_
  simp only [List.getElem?_toArray, List.getElem?_cons_zero, Sem.run_bind, hu, run_getMap hb, Result.andThen_ok, hl]
  rfl
theorem rd_look [DecidableEq κ] {d : Option Tmp} {x y : Operand} {T K E ty : TypeId} {pos : String} {af : Array Edge} {g : Option (Nat × Bool)} {enck : κ → Value} {encv : ν → Value} {b : Nat} {m : List (κ × ν)} {k : κ} {z : ν} {H' : List HProp} (ht : P.underlying T = some (.map K E)) (kt : KeyT P K enck) (zv : ZV P E (encv z))
    (hx : ev env x = some (.map (some b))) (hy : ev env y = some (enck k)) (t : Take (mp enck encv b m) H H') (ok : Bool) :
    Rd P ⟨d, .lookup T x y ok, ty, pos, af, g⟩ w0 env H (if ok then .tuple #[encv ((mget m k).getD z), .bool (mget m k).isSome] else encv ((mget m k).getD z)) := fun ρ w e s => by
  obtain ⟨h0, ⟨ents, clock, hp, he, -⟩, s'⟩ := (s.take t).toRo
  have hb := s'.ro b _ hp.1
  have hu : (underlying T).run P w = .ok (.map K E) w := by simp [underlying, ht, go_sem]
  refine run_v (s := Instr.lookup T (ρ x) (ρ y) ok) ?_
  rw [e.eval hx, e.eval hy]
  unfold Instr.lookup
  simp only [Sem.run_bind, hu, run_getMap hb, Result.andThen_ok, Sem.run_pure, kt.check, find_in kt he]
  rcases seek_spec (encv := encv) (k := k) m 0 with ⟨h1, h2⟩ | ⟨j, u, h1, h2, -⟩
  · rw [h1, h2]; simp only [Sem.run_bind, zv.run, Result.andThen_ok, Sem.run_pure]; cases ok <;> rfl
  · rw [h1, h2]; simp only [Sem.run_pure, Result.andThen_ok]; cases ok <;> rfl
theorem rd_look1 [DecidableEq κ] {d : Option Tmp} {x y : Operand} {T K E ty : TypeId} {pos : String} {af : Array Edge} {g : Option (Nat × Bool)} {enck : κ → Value} {encv : ν → Value} {b : Nat} {m : List (κ × ν)} {k : κ} {z : ν} {H' : List HProp} (ht : P.underlying T = some (.map K E)) (kt : KeyT P K enck) (zv : ZV P E (encv z))
    (hx : ev env x = some (.map (some b))) (hy : ev env y = some (enck k)) (t : Take (mp enck encv b m) H H') :
    Rd P ⟨d, .lookup T x y false, ty, pos, af, g⟩ w0 env H (encv ((mget m k).getD z)) := rd_look ht kt zv hx hy t false
theorem rd_look2 [DecidableEq κ] {d : Option Tmp} {x y : Operand} {T K E ty : TypeId} {pos : String} {af : Array Edge} {g : Option (Nat × Bool)} {enck : κ → Value} {encv : ν → Value} {b : Nat} {m : List (κ × ν)} {k : κ} {z : ν} {H' : List HProp} (ht : P.underlying T = some (.map K E)) (kt : KeyT P K enck) (zv : ZV P E (encv z))
    (hx : ev env x = some (.map (some b))) (hy : ev env y = some (enck k)) (t : Take (mp enck encv b m) H H') :
    Rd P ⟨d, .lookup T x y true, ty, pos, af, g⟩ w0 env H (.tuple #[encv ((mget m k).getD z), .bool (mget m k).isSome]) := rd_look ht kt zv hx hy t true
theorem run_setMap {w : World} {b : Nat} {es : Array MapEntry} {clock : Nat} {o : Obj} (h : w.heap[b]? = some (.map es clock)) : (setObj b o).run P w = .ok () { w with heap := w.heap.setIfInBounds b o } := by
  simp [setObj, Sem.run, h]
theorem Sat.setMap {w : World} {b : Nat} {o o' : Obj} {L : List HProp} (s : Sat w0 w (Sl.pt b o :: L)) : Sat w0 { w with heap := w.heap.setIfInBounds b o' } (Sl.pt b o' :: L) := by
  have hb := s.pt
  have hlt := (Array.getElem?_eq_some_iff.1 hb).1
  refine s.write rfl rfl rfl (by simp) (by simp [hlt]) fun c hc _ => ?_
  simp only [Array.getElem?_setIfInBounds]; rw [if_neg (fun e => hc e.symm)]
theorem Sat.setMap' {w : World} {b : Nat} {o o' : Obj} {L : List HProp} (s : Sat w0 w (Sl.pt b o :: L)) : Sat w0 (ChangeMaps.setBlock w b o') (Sl.pt b o' :: L) := s.setMap
theorem ac_put [DecidableEq κ] {d : Option Tmp} {x y z : Operand} {T K E ty : TypeId} {pos : String} {af : Array Edge} {g : Option (Nat × Bool)} {enck : κ → Value} {encv : ν → Value} {b : Nat} {m : List (κ × ν)} {k : κ} {v : ν} {H' : List HProp} (ht : P.underlying T = some (.map K E)) (kt : KeyT P K enck)
    (hx : ev env x = some (.map (some b))) (hy : ev env y = some (enck k)) (hz : ev env z = some (encv v)) (t : Take (mp enck encv b m) H H') :
    Ac P ⟨d, .mapUpdate T x y z, ty, pos, af, g⟩ w0 env H (fun _ H'' => H'' = mp enck encv b (mput m k v) :: H') := Ac.of_skip fun ρ w r s => by
  have st := s.take t
  obtain ⟨h, le, h1, h2, dd, rfl, ⟨ents, clock, hp, he, hn, hb1, hb2⟩, hl⟩ := st.heap
  have hb := le b _ (Hp.un_left hp.1)
  have sat : Sat w0 w (pt b (.map ents clock) :: H') := ⟨st.os, st.tape, st.output, st.size, _, le, h1, h2, dd, rfl, hp, hl⟩
  have hu : (underlying T).run P w = .ok (.map K E) w := by simp [underlying, ht, go_sem]
  have key : ∀ es' clock', es'.toList.map (fun e => (e.key, e.val)) = (mput m k v).map (fun p => (enck p.1, encv p.2)) → (es'.toList.map (·.born)).Nodup → (∀ e ∈ es'.toList, e.born < clock') →
      (Instr.mapUpdate T (.map (some b)) (enck k) (encv v)).run P w = .ok () { w with heap := w.heap.setIfInBounds b (.map es' clock') } →
      ∃ H'' w', (do Instr.mapUpdate T (ρ x) (ρ y) (ρ z); Pure.pure Next.skip : Sem Next).run P w = .ok .skip w' ∧ H'' = mp enck encv b (mput m k v) :: H' ∧ Sat w0 w' H'' := by
    intro es' clock' g1 g2 g3 g4
    refine ⟨_, _, ?_, rfl, (sat.setMap (o' := .map es' clock')).ent fun hh hpp => ⟨es', clock', hpp, g1, nodup_put hn k v, g2, g3⟩⟩
    rw [r.eval hx, r.eval hy, r.eval hz]
    simp only [Sem.run_bind, g4, Result.andThen_ok]; rfl
  show ∃ H'' w', (do Instr.mapUpdate T (ρ x) (ρ y) (ρ z); Pure.pure Next.skip : Sem Next).run P w = .ok .skip w' ∧ H'' = mp enck encv b (mput m k v) :: H' ∧ Sat w0 w' H''
  rcases seek_spec (encv := encv) (k := k) m 0 with ⟨g1, g2⟩ | ⟨j, u, g1, g2, g3, g4, -⟩
  · have hput : mput m k v = m ++ [(k, v)] := by
      have : ∀ (m : List (κ × ν)), mget m k = none → mput m k v = m ++ [(k, v)] := by
        intro m
        induction m with
        | nil => intro _; rfl
        | cons p m ih =>
          obtain ⟨k', v'⟩ := p
          intro h
          simp only [mget] at h
          by_cases hk : k = k'
          · simp [hk] at h
          · simp only [hk, if_false] at h; simp [mput, hk, ih h]
      exact this m g2
    refine key (ents.push { key := enck k, val := encv v, born := clock }) (clock + 1) ?_ ?_ ?_ ?_
    · rw [hput]; simp [he]
    · simp only [Array.toList_push, List.map_append, List.map_cons, List.map_nil]
      rw [List.nodup_append]
      refine ⟨hb1, by simp, fun a ha c hc e => ?_⟩
      simp at hc; subst hc; subst e
      obtain ⟨e, he', hee⟩ := List.mem_map.1 ha
      have := hb2 e he'; omega
    · intro e hee
      simp only [Array.toList_push, List.mem_append, List.mem_singleton] at hee
      rcases hee with hee | rfl
      · have := hb2 e hee; omega
      · simp
    · unfold Instr.mapUpdate
      simp only [Sem.run_bind, hu, run_getMap hb, Result.andThen_ok, kt.check, find_in kt he, g1]
      exact run_setMap hb
  · rw [Nat.zero_add] at g1
    have hj : j < m.length := (List.getElem?_eq_some_iff.1 g3).1
    have hjs : j < ents.size := by have := congrArg List.length he; simp at this; omega
    have hej : (ents[j].key, ents[j].val) = (enck k, encv u) := by
      have h1 : (ents.toList.map (fun e => (e.key, e.val)))[j]? = some (ents[j].key, ents[j].val) := by simp [hjs]
      rw [he] at h1
      simp [g3] at h1
      rw [← h1.1, ← h1.2]
    simp only [Prod.mk.injEq] at hej
    refine key (ents.modify j fun e => { e with key := enck k, val := encv v }) clock ?_ ?_ ?_ ?_
    · rw [← g4 v, Array.toList_modify]
      apply List.ext_getElem?
      intro i
      simp only [List.getElem?_map, List.getElem?_modify, List.getElem?_set]
      have hei : (ents.toList[i]?).map (fun e => (e.key, e.val)) = (m[i]?).map (fun p => (enck p.1, encv p.2)) := by
        have := congrArg (·[i]?) he; simpa only [List.getElem?_map] using this
      by_cases hij : j = i
      · subst hij
        simp [hj, hjs]
      · simp only [hij, if_false]
        rw [← hei]; cases ents.toList[i]? <;> simp
    · rw [Array.toList_modify]
      have : ((ents.toList.modify j fun e => { e with key := enck k, val := encv v }).map (·.born)) = ents.toList.map (·.born) := by
        apply List.ext_getElem?
        intro i
        simp only [List.getElem?_map, List.getElem?_modify]
        cases ents.toList[i]? with
        | none => simp
        | some e => by_cases hij : j = i <;> simp [hij]
      rw [this]; exact hb1
    · intro e hee
      rw [Array.toList_modify] at hee
      obtain ⟨i, hi⟩ := List.mem_iff_getElem?.1 hee
      rw [List.getElem?_modify] at hi
      cases hx' : ents.toList[i]? with
      | none => rw [hx'] at hi; simp at hi
      | some e0 =>
        have := hb2 e0 (List.mem_of_getElem? hx')
        rw [hx'] at hi
        by_cases hij : j = i <;> simp [hij] at hi <;> subst hi <;> exact this
    · unfold Instr.mapUpdate
      have hk : (Instr.keyThatStays (((ents[j]?).map (·.key)).getD (enck k)) (enck k)).run P w = .ok (enck k) w := by
        have : (((ents[j]?).map (·.key)).getD (enck k)) = enck k := by simp [hjs, hej.1]
        rw [this]; unfold Instr.keyThatStays; rw [if_pos (kt.same k)]; rfl
      simp only [Sem.run_bind, hu, run_getMap hb, Result.andThen_ok, kt.check, find_in kt he, g1, hk]
      exact run_setMap hb
theorem ac_del [DecidableEq κ] {d : Option Tmp} {x y : Operand} {T K E ty : TypeId} {ts : Array TypeId} {pos : String} {af : Array Edge} {g : Option (Nat × Bool)} {enck : κ → Value} {encv : ν → Value} {b : Nat} {m : List (κ × ν)} {k : κ} {H' : List HProp} (ht : P.underlying T = some (.map K E)) (kt : KeyT P K enck) (hts : ts[0]? = some T)
    (hx : ev env x = some (.map (some b))) (hy : ev env y = some (enck k)) (t : Take (mp enck encv b m) H H') :
    Ac P ⟨d, .call ⟨.builtin .delete, #[x, y], ts⟩, ty, pos, af, g⟩ w0 env H (fun _ H'' => H'' = mp enck encv b (mdel m k) :: H') := Ac.of_run fun ρ w r s => by
  have st := s.take t
  obtain ⟨h, le, h1, h2, dd, rfl, ⟨ents, clock, hp, he, hn, hb1, hb2⟩, hl⟩ := st.heap
  have hb := le b _ (Hp.un_left hp.1)
  have sat : Sat w0 w (pt b (.map ents clock) :: H') := ⟨st.os, st.tape, st.output, st.size, _, le, h1, h2, dd, rfl, hp, hl⟩
  have hu : (underlying T).run P w = .ok (.map K E) w := by simp [underlying, ht, go_sem]
  have key : ∀ es', es'.toList.map (fun e => (e.key, e.val)) = (mdel m k).map (fun p => (enck p.1, encv p.2)) → (es'.toList.map (·.born)).Nodup → (∀ e ∈ es'.toList, e.born < clock) →
      (Builtin.delete_ ts ty #[.map (some b), enck k]).run P w = .ok (.tuple #[]) { w with heap := w.heap.setIfInBounds b (.map es' clock) } →
      ∃ v H'' w', (do Pure.pure (Next.value (← Builtin.delete_ ts ty (#[x, y].map ρ))) : Sem Next).run P w = .ok (.value v) w' ∧ H'' = mp enck encv b (mdel m k) :: H' ∧ Sat w0 w' H'' := by
    intro es' g1 g2 g3 g4
    refine ⟨.tuple #[], _, _, ?_, rfl, (sat.setMap (o' := .map es' clock)).ent fun hh hpp => ⟨es', clock, hpp, g1, nodup_del hn k, g2, g3⟩⟩
    rw [show #[x, y].map ρ = #[ρ x, ρ y] by simp, r.eval hx, r.eval hy]
    exact run_v g4
  show ∃ v H'' w', (do Pure.pure (Next.value (← Builtin.delete_ ts ty (#[x, y].map ρ))) : Sem Next).run P w = .ok (.value v) w' ∧ H'' = mp enck encv b (mdel m k) :: H' ∧ Sat w0 w' H''
  rcases seek_spec (encv := encv) (k := k) m 0 with ⟨g1, g2⟩ | ⟨j, u, g1, g2, g3, -, g5⟩
  · have hdel : mdel m k = m := by
      have : ∀ (m : List (κ × ν)), mget m k = none → mdel m k = m := by
        intro m
        induction m with
        | nil => intro _; rfl
        | cons p m ih =>
          obtain ⟨k', v'⟩ := p
          intro h
          simp only [mget] at h
          by_cases hk : k = k'
          · simp [hk] at h
          · simp only [hk, if_false] at h; simp [mdel, hk, ih h]
      exact this m g2
    refine key ents (by rw [hdel]; exact he) hb1 hb2 ?_
    unfold Builtin.delete_
    simp only [hts, List.getElem?_toArray, List.getElem?_cons_zero, List.getElem?_cons_succ, Sem.run_bind, hu, run_getMap hb, Result.andThen_ok, kt.check, find_in kt he, g1, run_setMap hb]; rfl
  · rw [Nat.zero_add] at g1
    have hj : j < m.length := (List.getElem?_eq_some_iff.1 g3).1
    have hjs : j < ents.size := by have := congrArg List.length he; simp at this; omega
    have htl : (ents.eraseIdxIfInBounds j).toList = ents.toList.eraseIdx j := by simp [Array.eraseIdxIfInBounds, hjs]
    refine key (ents.eraseIdxIfInBounds j) ?_ ?_ ?_ ?_
    · rw [htl, ← g5, ChangeMaps.map_eraseIdx, he, ChangeMaps.map_eraseIdx]
    · rw [htl, ChangeMaps.map_eraseIdx]; exact List.Nodup.sublist (List.eraseIdx_sublist ..) hb1
    · intro e hee; rw [htl] at hee; exact hb2 e ((List.eraseIdx_sublist ..).subset hee)
    · unfold Builtin.delete_
      simp only [hts, List.getElem?_toArray, List.getElem?_cons_zero, List.getElem?_cons_succ, Sem.run_bind, hu, run_getMap hb, Result.andThen_ok, kt.check, find_in kt he, g1, run_setMap hb]; rfl
theorem ac_mkmap {d : Option Tmp} {T ty : TypeId} {pos : String} {af : Array Edge} {g : Option (Nat × Bool)} (enck : κ → Value) (encv : ν → Value) :
    Ac P ⟨d, .makeMap T none, ty, pos, af, g⟩ w0 env H (fun v H' => ∃ b, v = .map (some b) ∧ H' = mp enck encv b [] :: H) := Ac.of_run fun ρ w r s => by
  refine ⟨_, _, _, run_v (s := Instr.makeMap T none) (v := .map (some w.heap.size)) (w' := { w with heap := w.heap.push (.map #[] 0) }) rfl, ⟨w.heap.size, rfl, rfl⟩, (s.alloc _).ent fun h hp => ⟨#[], 0, hp, rfl, by simp, by simp, by simp⟩⟩

/-! ### Ranging over a map that is not written meanwhile -/
/-- An iterator r over the map b: 'left' is still to come, 'last' came last. -/
def itr (enck : κ → Value) (encv : ν → Value) (r b : Nat) (m left : List (κ × ν)) (last : Option (κ × ν)) : HProp := fun h => ∃ ents clock seen, two (pt b (.map ents clock)) (pt r (.mapIter (some b) clock seen clock)) h ∧
  ents.toList.map (fun e => (e.key, e.val)) = m.map (fun p => (enck p.1, encv p.2)) ∧ (mkeys m).Nodup ∧ (ents.toList.map (·.born)).Nodup ∧ (∀ e ∈ ents.toList, e.born < clock) ∧
  left = ((ents.toList.zip m).filter (fun x => !seen.contains x.1.born)).map (·.2) ∧ (∀ p, last = some p → ∃ e, (e, p) ∈ ents.toList.zip m ∧ seen.back? = some e.born)
theorem itr_mp {enck : κ → Value} {encv : ν → Value} {r b : Nat} {m left : List (κ × ν)} {last : Option (κ × ν)} {w : World} {L : List HProp} (s : Sat w0 w (itr enck encv r b m left last :: L)) : Sat w0 w (mp enck encv b m :: L) := by
  obtain ⟨h, le, h1, h2, d, rfl, ⟨ents, clock, seen, ht, he, hn, hb1, hb2, -⟩, l⟩ := s.heap
  have s2 : Sat w0 w (two (pt b (.map ents clock)) (pt r (.mapIter (some b) clock seen clock)) :: L) := ⟨s.os, s.tape, s.output, s.size, _, le, h1, h2, d, rfl, ht, l⟩
  have s3 := (Sat.two.1 s2).take (.tl .hd) |>.drop
  exact s3.ent fun h hp => ⟨ents, clock, hp, he, hn, hb1, hb2⟩
theorem Gs.itrEnd {X : Act → World → Prop} {enck : κ → Value} {encv : ν → Value} {r b : Nat} {m left : List (κ × ν)} {last : Option (κ × ν)} {H' : List HProp} (t : Take (itr enck encv r b m left last) H H') (g : Gs w0 n env (mp enck encv b m :: H') X) : Gs w0 n env H X :=
  fun a w e s => g a w e (itr_mp (s.take t))
theorem ac_range {d : Option Tmp} {x : Operand} {T K E ty : TypeId} {pos : String} {af : Array Edge} {g : Option (Nat × Bool)} {enck : κ → Value} {encv : ν → Value} {b : Nat} {m : List (κ × ν)} {H' : List HProp} (ht : P.underlying T = some (.map K E))
    (hx : ev env x = some (.map (some b))) (t : Take (mp enck encv b m) H H') :
    Ac P ⟨d, .range T x, ty, pos, af, g⟩ w0 env H (fun v H'' => ∃ r, v = .pointer (some ⟨r, 0, none⟩) ∧ H'' = itr enck encv r b m m none :: H') := Ac.of_run fun ρ w r s => by
  have st := s.take t
  obtain ⟨h, le, h1, h2, dd, rfl, ⟨ents, clock, hp, he, hn, hb1, hb2⟩, hl⟩ := st.heap
  have hb := le b _ (Hp.un_left hp.1)
  have sat : Sat w0 w (pt b (.map ents clock) :: H') := ⟨st.os, st.tape, st.output, st.size, _, le, h1, h2, dd, rfl, hp, hl⟩
  have hu : (underlying T).run P w = .ok (.map K E) w := by simp [underlying, ht, go_sem]
  refine ⟨_, _, _, run_v (s := Instr.range T (ρ x)) (v := .pointer (some ⟨w.heap.size, 0, none⟩)) (w' := { w with heap := w.heap.push (.mapIter (some b) clock #[] clock) }) ?_, ⟨w.heap.size, rfl, rfl⟩, ?_⟩
  · rw [r.eval hx]
    unfold Instr.range
    simp only [Sem.run_bind, hu, run_getMap hb, Result.andThen_ok, Sem.run_pure, run_new]
  · have s2 := Sat.two.2 ((sat.alloc (.mapIter (some b) clock #[] clock)).take (.tl .hd))
    refine s2.ent fun hh h2 => ⟨ents, clock, #[], h2, he, hn, hb1, hb2, ?_, fun p hp => by cases hp⟩
    have hl' := congrArg List.length he
    simp at hl'
    have hf : (ents.toList.zip m).filter (fun x => !(#[] : Array Nat).contains x.1.born) = ents.toList.zip m := List.filter_eq_self.2 fun y _ => by simp
    rw [hf]
    exact (List.map_snd_zip (by simp [hl'])).symm
theorem filter_erase {α : Type} {f : α → Nat} : ∀ (l : List α) (i : Nat) (x : α), (l.map f).Nodup → l[i]? = some x → l.filter (fun y => !(f y == f x)) = l.eraseIdx i
  | [], _, _, _, h => by simp at h
  | a :: l, 0, x, hn, h => by
    simp at h; subst h
    have hn' := List.nodup_cons.1 hn
    have : l.filter (fun y => !(f y == f a)) = l := List.filter_eq_self.2 fun y hy => by
      have : f y ≠ f a := fun e => hn'.1 (e ▸ List.mem_map_of_mem hy)
      simp [this]
    simp [this]
  | a :: l, i + 1, x, hn, h => by
    have hn' := List.nodup_cons.1 hn
    have hx : l[i]? = some x := by simpa using h
    have hm : f a ≠ f x := fun e => hn'.1 (e ▸ List.mem_map_of_mem (List.mem_of_getElem? hx))
    simp only [List.filter_cons, List.eraseIdx_cons_succ]
    rw [filter_erase l i x hn'.2 hx]
    simp [hm]
theorem zip_filter : ∀ (es : List MapEntry) (m : List (κ × ν)) (q : MapEntry → Bool), es.length = m.length → es.filter q = ((es.zip m).filter (fun x => q x.1)).map (·.1)
  | [], _, _, _ => rfl
  | _ :: _, [], _, h => by cases h
  | e :: es, p :: m, q, h => by
    simp only [List.zip_cons_cons, List.filter_cons]
    have := zip_filter es m q (by simpa using h)
    split <;> simp [this]
theorem zip_at {enck : κ → Value} {encv : ν → Value} : ∀ (es : List MapEntry) (m : List (κ × ν)), es.map (fun e => (e.key, e.val)) = m.map (fun p => (enck p.1, encv p.2)) → ∀ x ∈ es.zip m, x.1.key = enck x.2.1 ∧ x.1.val = encv x.2.2
  | [], _, _, x, hx => by simp at hx
  | _ :: _, [], h, _, _ => by simp at h
  | e :: es, p :: m, h, x, hx => by
    simp only [List.map_cons, List.cons.injEq, Prod.mk.injEq] at h
    simp only [List.zip_cons_cons, List.mem_cons] at hx
    rcases hx with rfl | hx
    · exact h.1
    · exact zip_at es m h.2 x hx
theorem ac_next {d : Option Tmp} {x : Operand} {ty : TypeId} {pos : String} {af : Array Edge} {g : Option (Nat × Bool)} {enck : κ → Value} {encv : ν → Value} {r b : Nat} {m left : List (κ × ν)} {last : Option (κ × ν)} {H' : List HProp}
    (hx : ev env x = some (.pointer (some ⟨r, 0, none⟩))) (t : Take (itr enck encv r b m left last) H H') :
    Ac P ⟨d, .next x false, ty, pos, af, g⟩ w0 env H (fun v H'' => (left = [] ∧ v = .tuple #[.bool false] ∧ H'' = itr enck encv r b m left last :: H') ∨
      ∃ i p, left[i]? = some p ∧ v = .tuple #[.bool true, enck p.1, encv p.2] ∧ H'' = itr enck encv r b m (left.eraseIdx i) (some p) :: H') := Ac.of_run fun ρ w rr s => by
  have st := s.take t
  obtain ⟨h, le, h1, h2, dd, rfl, ⟨ents, clock, seen, htw, he, hn, hb1, hb2, hleft, hlast⟩, hl⟩ := st.heap
  have sat2 : Sat w0 w (two (pt b (.map ents clock)) (pt r (.mapIter (some b) clock seen clock)) :: H') := ⟨st.os, st.tape, st.output, st.size, _, le, h1, h2, dd, rfl, htw, hl⟩
  have satA := Sat.two.1 sat2
  have satB := satA.take (.tl .hd)
  have hb := satA.pt
  have hr := satB.pt
  have hlen : ents.toList.length = m.length := by have := congrArg List.length he; simpa using this
  have hcand : (leftOf ents seen).toList = ((ents.toList.zip m).filter (fun x => !seen.contains x.1.born)).map (·.1) := by
    unfold leftOf; rw [Array.toList_filter]; exact zip_filter _ _ _ hlen
  rcases run_next_at (P := P) w ty r b clock clock seen ents clock hr hb hb2 (Nat.le_refl _) with ⟨h0, hrun⟩ | ⟨e, hmem, w1, hw1, hrun⟩
  · refine ⟨_, _, w, run_v (s := Instr.next (ρ x) false ty) (by rw [rr.eval hx]; exact hrun), .inl ⟨?_, rfl, rfl⟩, st⟩
    have h0' : (leftOf ents seen).toList.length = 0 := by simpa using h0
    rw [hcand] at h0'
    rw [hleft]
    simpa using h0'
  · rw [hcand] at hmem
    obtain ⟨⟨e', p⟩, hmem', rfl⟩ := List.mem_map.1 hmem
    obtain ⟨i, hi⟩ := List.mem_iff_getElem?.1 hmem'
    have hz := (List.mem_filter.1 hmem').1
    have hkv := zip_at _ _ he _ hz
    refine ⟨_, _, setBlock w1 r (.mapIter (some b) clock (seen.push e'.born) clock), run_v (s := Instr.next (ρ x) false ty) (by rw [rr.eval hx]; exact hrun), .inr ⟨i, p, ?_, ?_, rfl⟩, ?_⟩
    · rw [hleft, List.getElem?_map, hi]; rfl
    · simp only at hkv; rw [hkv.1, hkv.2]
    · have satB1 : Sat w0 w1 (pt r (.mapIter (some b) clock seen clock) :: pt b (.map ents clock) :: H') := by
        rcases hw1 with rfl | rfl
        · exact satB
        · exact satB.drew
      have sat3 := Sat.two.2 ((satB1.setMap' (o' := .mapIter (some b) clock (seen.push e'.born) clock)).take (.tl .hd))
      refine sat3.ent fun hh h2 => ⟨ents, clock, _, h2, he, hn, hb1, hb2, ?_, fun q hq => ?_⟩
      · rw [hleft, ← ChangeMaps.map_eraseIdx]
        have hnd : (((ents.toList.zip m).filter (fun x => !seen.contains x.1.born)).map (fun x => x.1.born)).Nodup := by
          refine List.Nodup.sublist (List.Sublist.map _ (List.filter_sublist ..)) ?_
          have : (ents.toList.zip m).map (fun x => x.1.born) = ents.toList.map (·.born) := by
            rw [← List.map_fst_zip (l₁ := ents.toList) (l₂ := m) (by omega)]
            rw [List.map_map]
            rw [List.map_fst_zip (by omega)]; rfl
          rw [this]; exact hb1
        rw [← filter_erase _ i (e', p) hnd hi, List.filter_filter]
        congr 1
        apply List.filter_congr
        intro y _
        simp only [Array.contains_push]
        cases hc : seen.contains y.1.born <;> simp
      · cases hq
        exact ⟨e', hz, by simp⟩
theorem ac_entry {d : Option Tmp} {x : Operand} {ty : TypeId} {pos : String} {af : Array Edge} {g : Option (Nat × Bool)} {enck : κ → Value} {encv : ν → Value} {r b : Nat} {m left : List (κ × ν)} {p : κ × ν} {H' : List HProp}
    (hx : ev env x = some (.pointer (some ⟨r, 0, none⟩))) (t : Take (itr enck encv r b m left (some p)) H H') :
    Rd P ⟨d, .entry x, ty, pos, af, g⟩ w0 env H (.tuple #[enck p.1, encv p.2]) := fun ρ w rr s => by
  have st := s.take t
  obtain ⟨h, le, h1, h2, dd, rfl, ⟨ents, clock, seen, htw, he, hn, hb1, hb2, hleft, hlast⟩, hl⟩ := st.heap
  have sat2 : Sat w0 w (two (pt b (.map ents clock)) (pt r (.mapIter (some b) clock seen clock)) :: H') := ⟨st.os, st.tape, st.output, st.size, _, le, h1, h2, dd, rfl, htw, hl⟩
  have satA := Sat.two.1 sat2
  have satB := satA.take (.tl .hd)
  have hb := satA.pt
  have hr := satB.pt
  obtain ⟨e, hz, hback⟩ := hlast p rfl
  have hkv := zip_at _ _ he _ hz
  have hm : e ∈ ents.toList := (List.of_mem_zip hz).1
  have hf : ents.find? (·.born == e.born) = some e := by rw [← Array.find?_toList]; exact find_born e ents.toList hb1 hm
  refine run_v (s := Instr.entry (ρ x)) ?_
  rw [rr.eval hx]
  simp only at hkv
  simp only [Instr.entry, getObj, Sem.run_bind, Sem.run, hr, hb, Result.andThen, hback, bne_self_eq_false, Bool.false_eq_true, if_false, hf, hkv.1, hkv.2]
  rfl
end
end Go.Sl
