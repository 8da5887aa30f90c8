/- What the closing leans on: part 3. -/
import Derived.Test.YtklgiidfompdpaaGreatDoorYb
import Derived.Maps.RangeRun
import Derived.Test.YtklgiidfompdpaaGreatDoorProg
import Derived.Laws.Small
import Derived.Shelf.GgSortFunc.RowK
import Derived.Lib.Overlaps
import Derived.Lib.AppendZerosOnto
namespace Go.Sl
open Go
section
variable {P : Program} {n : Nat} {w0 : World} {env : Env} {H : List HProp}
theorem beq_bytes (a b : ByteArray) : (a == b) = decide (a = b) := by
 cases a with | mk a => cases b with | mk b =>
 have : ((⟨a⟩ : ByteArray) == ⟨b⟩) = (a == b) := rfl
 rw [this]
 by_cases h : a = b <;> simp [h]
def CmpT {α : Type} [DecidableEq α] (P : Program) (t : TypeId) (val : α → Value) (m : Nat) : Prop := ∀ d, m ≤ d → ∀ a b w, (Op.equalIn d t (val a) (val b)).run P w = .ok (decide (a = b)) w
theorem cmp_int {t : TypeId} {k : IntKind} (ht : P.underlying t = some (.int k)) : CmpT P t (fun i : Int => .int k i) 1 := fun d hd a b w => by
 obtain ⟨d, rfl⟩ : ∃ e, d = e + 1 := ⟨d - 1, by omega⟩
 have hu : (underlying t).run P w = .ok (.int k) w := by simp [underlying, ht, go_sem]
 unfold Op.equalIn
 simp only [Sem.run_bind, hu, Result.andThen_ok, if_true]
 rfl
theorem cmp_str {t : TypeId} (ht : P.underlying t = some .string) : CmpT P t (fun s : ByteArray => .string s) 1 := fun d hd a b w => by
 obtain ⟨d, rfl⟩ : ∃ e, d = e + 1 := ⟨d - 1, by omega⟩
 have hu : (underlying t).run P w = .ok .string w := by simp [underlying, ht, go_sem]
 unfold Op.equalIn
 simp only [Sem.run_bind, hu, Result.andThen_ok, Sem.run_pure]
 congr 1
 exact beq_bytes a b
theorem eq_fields {d : Nat} {w : World} {xs ys : Array Value} : ∀ (fs : List Field) (bs : List Bool), fs.length = bs.length →
   (∀ (i : Nat) (f : Field) (b : Bool), fs[i]? = some f → bs[i]? = some b → f.name ≠ "_" ∧ ∃ u v, (part f.type xs f.offset).run P w = .ok u w ∧ (part f.type ys f.offset).run P w = .ok v w ∧ (Op.equalIn d f.type u v).run P w = .ok b w) →
   (do
     for f in fs do
       if f.name ≠ "_" then
         if !(← Op.equalIn d f.type (← part f.type xs f.offset) (← part f.type ys f.offset)) then return false
     Pure.pure true : Sem Bool).run P w = .ok (bs.all id) w := by
 intro fs
 induction fs with
 | nil => intro bs h _; cases bs with
   | nil => rfl
   | cons => cases h
 | cons f fs ih =>
   intro bs h hf
   cases bs with
   | nil => cases h
   | cons b bs =>
     obtain ⟨hn, u, v, h1, h2, h3⟩ := hf 0 f b rfl rfl
     have ih' := ih bs (by simpa using h) fun i g c hg hc => hf (i + 1) g c (by simpa using hg) (by simpa using hc)
     simp only [List.forIn_cons, bind_assoc, Sem.run_bind, hn, ne_eq, not_false_eq_true, if_true, h1, h2, h3, Result.andThen_ok, List.all_cons, id]
     cases b with
     | true =>
       simp only [Bool.not_true, Bool.false_eq_true, if_false, Sem.run_bind, Sem.run_pure, Result.andThen_ok, Bool.true_and]
       simpa only [Sem.run_bind] using ih'
     | false => rfl
theorem equalIn_struct {d : Nat} {t : TypeId} {fs : Array Field} {xs ys : Array Value} {w : World} {bs : List Bool} (ht : P.underlying t = some (.struct fs)) (hs : P.stoodInHeld t = false) (hl : fs.toList.length = bs.length)
   (h : ∀ (i : Nat) (f : Field) (b : Bool), fs.toList[i]? = some f → bs[i]? = some b → f.name ≠ "_" ∧ ∃ u v, (part f.type xs f.offset).run P w = .ok u w ∧ (part f.type ys f.offset).run P w = .ok v w ∧ (Op.equalIn d f.type u v).run P w = .ok b w) :
   (Op.equalIn (d + 1) t (.agg xs) (.agg ys)).run P w = .ok (bs.all id) w := by
 have hu : (underlying t).run P w = .ok (.struct fs) w := by simp [underlying, ht, go_sem]
 have hp : (program).run P w = .ok P w := rfl
 unfold Op.equalIn
 simp only [Sem.run_bind, hu, Result.andThen_ok, hp, hs, Bool.false_eq_true, if_false]
 have := eq_fields (P := P) fs.toList bs hl h
 rw [← Array.forIn_toList]
 simpa only [Sem.run_bind] using this
theorem part_na {t : TypeId} {xs : Array Value} {o : Nat} {v : Value} {w : World} (na : NA P t) (h : xs[o]? = some v) : (part t xs o).run P w = .ok v w := by
 simp only [part, Sem.run_bind, na.run, Result.andThen_ok]; simp [h]
theorem part_ag {t k : Nat} {xs : Array Value} {o : Nat} {w : World} (ag : AG P t k) : (part t xs o).run P w = .ok (.agg (xs.extract o (o + k))) w := by
 simp only [part, Sem.run_bind, ag.run, ag.size, Result.andThen_ok, if_true]; rfl
theorem cmp_ii {t t0 : TypeId} {f0 f1 : Field} {k : IntKind} (ht : P.underlying t = some (.struct #[f0, f1])) (hs : P.stoodInHeld t = false) (hn : f0.name ≠ "_" ∧ f1.name ≠ "_") (hf : (f0.type = t0 ∧ f1.type = t0) ∧ f0.offset = 0 ∧ f1.offset = 1)
   (hi : P.underlying t0 = some (.int k)) (na : NA P t0) : CmpT P t (fun p : Int × Int => .agg #[.int k p.1, .int k p.2]) 2 := fun d hd a b w => by
 obtain ⟨d, rfl⟩ : ∃ e, d = e + 1 := ⟨d - 1, by omega⟩
 have e := equalIn_struct (P := P) (d := d) (w := w) (xs := #[.int k a.1, .int k a.2]) (ys := #[.int k b.1, .int k b.2]) (bs := [decide (a.1 = b.1), decide (a.2 = b.2)]) ht hs rfl (fun i f c hf' hc => by
   match i with
   | 0 => simp at hf' hc; subst hf'; subst hc; rw [hf.1.1, hf.2.1]; exact ⟨hn.1, _, _, part_na na rfl, part_na na rfl, cmp_int hi d (by omega) _ _ w⟩
   | 1 => simp at hf' hc; subst hf'; subst hc; rw [hf.1.2, hf.2.2]; exact ⟨hn.2, _, _, part_na na rfl, part_na na rfl, cmp_int hi d (by omega) _ _ w⟩
   | i + 2 => simp at hf')
 refine e.trans ?_; congr 1
 cases a; cases b; simp
theorem cmp_iiiis {t t0 t1 t2 : TypeId} {f0 f1 f2 : Field} {k : IntKind} (ht : P.underlying t = some (.struct #[f0, f1, f2])) (hs : P.stoodInHeld t = false) (hn : f0.name ≠ "_" ∧ f1.name ≠ "_" ∧ f2.name ≠ "_") (hf : (f0.type = t0 ∧ f1.type = t1 ∧ f2.type = t2) ∧ f0.offset = 0 ∧ f1.offset = 2 ∧ f2.offset = 4)
   (c0 : CmpT P t0 (fun p : Int × Int => .agg #[.int k p.1, .int k p.2]) 2) (a0 : AG P t0 2) (c1 : CmpT P t1 (fun p : Int × Int => .agg #[.int k p.1, .int k p.2]) 2) (a1 : AG P t1 2) (h2 : P.underlying t2 = some .string) (n2 : NA P t2) :
   CmpT P t (fun p : Int × Int × Int × Int × ByteArray => .agg #[.int k p.1, .int k p.2.1, .int k p.2.2.1, .int k p.2.2.2.1, .string p.2.2.2.2]) 3 := fun d hd a b w => by
 obtain ⟨d, rfl⟩ : ∃ e, d = e + 1 := ⟨d - 1, by omega⟩
 obtain ⟨a1', a2, a3, a4, a5⟩ := a
 obtain ⟨b1, b2, b3, b4, b5⟩ := b
 have e := equalIn_struct (P := P) (d := d) (w := w) (xs := #[.int k a1', .int k a2, .int k a3, .int k a4, .string a5]) (ys := #[.int k b1, .int k b2, .int k b3, .int k b4, .string b5]) (bs := [decide ((a1', a2) = (b1, b2)), decide ((a3, a4) = (b3, b4)), decide (a5 = b5)]) ht hs rfl (fun i f c hf' hc => by
   match i with
   | 0 => simp only [List.getElem?_cons_zero, Option.some.injEq] at hf' hc; subst hf'; subst hc; rw [hf.1.1, hf.2.1]; exact ⟨hn.1, _, _, part_ag a0, part_ag a0, c0 d (by omega) (a1', a2) (b1, b2) w⟩
   | 1 => simp only [List.getElem?_cons_succ, List.getElem?_cons_zero, Option.some.injEq] at hf' hc; subst hf'; subst hc; rw [hf.1.2.1, hf.2.2.1]; exact ⟨hn.2.1, _, _, part_ag a1, part_ag a1, c1 d (by omega) (a3, a4) (b3, b4) w⟩
   | 2 => simp only [List.getElem?_cons_succ, List.getElem?_cons_zero, Option.some.injEq] at hf' hc; subst hf'; subst hc; rw [hf.1.2.2, hf.2.2.2]; exact ⟨hn.2.2, _, _, part_na n2 rfl, part_na n2 rfl, cmp_str h2 d (by omega) _ _ w⟩
   | i + 3 => simp at hf')
 refine e.trans ?_; congr 1
 simp only [List.all_cons, List.all_nil, id, Bool.and_true, Prod.mk.injEq, Bool.decide_and, Bool.and_assoc]
theorem eqGuard_no {op : BinOp} {t : TypeId} {x y : Operand} {a b : Array Value} {w : World} (h : P.eqGuardType P.depth t = false) : (eqGuard op t x y (.agg a) (.agg b)).run P w = .ok () w := by
 unfold eqGuard
 cases op <;> simp [h, go_sem]
theorem pu_eqT {α : Type} [DecidableEq α] {d : Option Tmp} {x y : Operand} {T T' ty m : Nat} {pos : String} {af : Array Edge} {g : Option (Nat × Bool)} {cs : α → List Value} {a b : α} (c : CmpT P T (fun a => .agg (cs a).toArray) m) (hm : m ≤ 10000) (hg : P.eqGuardType P.depth T = false)
   (hx : ev env x = some (.agg (cs a).toArray)) (hy : ev env y = some (.agg (cs b).toArray)) : Pu P ⟨d, .binOp .eql T x y T', ty, pos, af, g⟩ env (.bool (decide (a = b))) := fun ρ w e => by
 refine run_v (s := do eqGuard .eql T x y (ρ x) (ρ y); binOp .eql T (ρ x) (ρ y)) ?_
 rw [e.eval hx, e.eval hy]
 have h1 : binOp .eql T (.agg (cs a).toArray) (.agg (cs b).toArray) = (do Pure.pure (.bool (← Op.equal T (.agg (cs a).toArray) (.agg (cs b).toArray)))) := rfl
 simp only [Sem.run_bind, eqGuard_no hg, Result.andThen_ok, h1, Op.equal, Op.maxDepth, c 10000 hm a b w]
 rfl
theorem pu_neT {α : Type} [DecidableEq α] {d : Option Tmp} {x y : Operand} {T T' ty m : Nat} {pos : String} {af : Array Edge} {g : Option (Nat × Bool)} {cs : α → List Value} {a b : α} (c : CmpT P T (fun a => .agg (cs a).toArray) m) (hm : m ≤ 10000) (hg : P.eqGuardType P.depth T = false)
   (hx : ev env x = some (.agg (cs a).toArray)) (hy : ev env y = some (.agg (cs b).toArray)) : Pu P ⟨d, .binOp .neq T x y T', ty, pos, af, g⟩ env (.bool (decide (a ≠ b))) := fun ρ w e => by
 refine run_v (s := do eqGuard .neq T x y (ρ x) (ρ y); binOp .neq T (ρ x) (ρ y)) ?_
 rw [e.eval hx, e.eval hy]
 have h1 : binOp .neq T (.agg (cs a).toArray) (.agg (cs b).toArray) = (do Pure.pure (.bool (!(← Op.equal T (.agg (cs a).toArray) (.agg (cs b).toArray))))) := rfl
 simp only [Sem.run_bind, eqGuard_no hg, Result.andThen_ok, h1, Op.equal, Op.maxDepth, c 10000 hm a b w]
 by_cases h : a = b <;> simp [h, go_sem]
open Go.Kv
open Go.ChangeMaps (setBlock)
variable {κ ν : Type}
def seek [DecidableEq κ] (k : κ) : List (κ × Value) → Nat → Option (Nat × Value)
 | [], _ => none
 | (k', v) :: r, i => if k = k' then some (i, v) else seek k r (i + 1)
structure KeyT [DecidableEq κ] (P : Program) (K : TypeId) (enck : κ → Value) : Prop where
 check : ∀ e k w, (Instr.checkKey e 10000 K (enck k)).run P w = .ok () w
 find : ∀ (l : List (κ × Value)) (es : List MapEntry) (k : κ) (w : World), es.map (fun e => (e.key, e.val)) = l.map (fun p => (enck p.1, p.2)) → (Instr.findKey K (enck k) es).run P w = .ok (seek k l 0) w
 same : ∀ k, Instr.sameBits 10000 (enck k) (enck k) = true
theorem find_asking [DecidableEq κ] {K m : TypeId} {enck : κ → Value} (c : CmpT P K enck m) (hm : m ≤ 10000) {k : κ} {w : World} : ∀ (l : List (κ × Value)) (es : List MapEntry) (i : Nat), es.map (fun e => (e.key, e.val)) = l.map (fun p => (enck p.1, p.2)) →
   (Instr.findAsking K (enck k) es i).run P w = .ok (seek k l i) w
 | [], [], i, _ => rfl
 | [], _ :: _, i, h => by simp at h
 | _ :: _, [], i, h => by simp at h
 | (k', v) :: l, e :: es, i, h => by
   simp only [List.map_cons, List.cons.injEq, Prod.mk.injEq] at h
   obtain ⟨⟨h1, h2⟩, h3⟩ := h
   have hc : (Op.equal K (enck k) (enck k')).run P w = .ok (decide (k = k')) w := c 10000 hm k k' w
   simp only [Instr.findAsking, h1, Sem.run_bind, hc, Result.andThen_ok, seek]
   by_cases hk : k = k'
   · simp [hk, h2, go_sem]
   · simp only [hk, decide_false, Bool.false_eq_true, if_false]; exact find_asking c hm l es (i + 1) h3
theorem KeyT.struct [DecidableEq κ] {K m : TypeId} {enck : κ → Value} {fs : Array Field} (ht : P.underlying K = some (.struct fs)) (c : CmpT P K enck m) (hm : m ≤ 10000) (hc : ∀ e k w, (Instr.checkKey e 10000 K (enck k)).run P w = .ok () w)
   (hs : ∀ k, Instr.sameBits 10000 (enck k) (enck k) = true) : KeyT P K enck :=
 ⟨hc, fun l es k w h => by
   have hu : (underlying K).run P w = .ok (.struct fs) w := by simp [underlying, ht, go_sem]
   unfold Instr.findKey
   simp only [Sem.run_bind, hu, Result.andThen_ok]
   cases es with
   | nil =>
     cases l with
     | nil => rfl
     | cons => simp at h
   | cons e es =>
     have : Instr.findNow (.struct fs) (enck k) (e :: es) 0 = none := by simp [Instr.findNow, Instr.sameNow]
     rw [this]; exact find_asking c hm l _ 0 h, hs⟩
theorem find_now {P : Program} {k : ByteArray} : ∀ (l : List (ByteArray × Value)) (es : List MapEntry) (i : Nat), es.map (fun e => (e.key, e.val)) = l.map (fun p => (Value.string p.1, p.2)) → Instr.findNow .string (.string k) es i = some (seek k l i)
 | [], [], i, _ => rfl
 | [], _ :: _, i, h => by simp at h
 | _ :: _, [], i, h => by simp at h
 | (k', v) :: l, e :: es, i, h => by
   simp only [List.map_cons, List.cons.injEq, Prod.mk.injEq] at h
   obtain ⟨⟨h1, h2⟩, h3⟩ := h
   simp only [Instr.findNow, Instr.sameNow, h1, seek, beq_bytes]
   by_cases hk : k = k'
   · simp [hk, h2]
   · simp only [hk, decide_false, if_false]; exact find_now (P := P) l es (i + 1) h3
theorem KeyT.str {K : TypeId} (ht : P.underlying K = some .string) : KeyT P K (fun s : ByteArray => .string s) :=
 ⟨fun e k w => by
   have hu : (underlying K).run P w = .ok .string w := by simp [underlying, ht, go_sem]
   unfold Instr.checkKey
   simp only [Sem.run_bind, hu, Result.andThen_ok]; rfl, fun l es k w h => by
   have hu : (underlying K).run P w = .ok .string w := by simp [underlying, ht, go_sem]
   unfold Instr.findKey
   simp only [Sem.run_bind, hu, Result.andThen_ok, find_now (P := P) l es 0 h]; rfl, fun k => by
   unfold Instr.sameBits; rw [beq_bytes]; simp⟩
theorem check_fields {e : Bool} {d : Nat} {w : World} {xs : Array Value} : ∀ (fs : List Field), (∀ f ∈ fs, ∃ u, (part f.type xs f.offset).run P w = .ok u w ∧ (Instr.checkKey e d f.type u).run P w = .ok () w) →
   (do
     for f in fs do
       if f.name ≠ "_" then Instr.checkKey e d f.type (← part f.type xs f.offset) : Sem Unit).run P w = .ok () w := by
 intro fs
 induction fs with
 | nil => intro _; rfl
 | cons f fs ih =>
   intro h
   obtain ⟨u, h1, h2⟩ := h f (by simp)
   have ih' := ih fun g hg => h g (by simp [hg])
   simp only [List.forIn_cons, bind_assoc]
   by_cases hn : f.name = "_"
   · simp only [hn, ne_eq, not_true, if_false, Sem.run_bind, Sem.run_pure, Result.andThen_ok] at ih' ⊢; exact ih'
   · simp only [hn, ne_eq, not_false_eq_true, if_true, Sem.run_bind, h1, h2, Sem.run_pure, Result.andThen_ok] at ih' ⊢; exact ih'
theorem check_struct {e : Bool} {d : Nat} {w : World} {xs : Array Value} {K : TypeId} {fs : Array Field} (ht : P.underlying K = some (.struct fs)) (h : ∀ f ∈ fs.toList, ∃ u, (part f.type xs f.offset).run P w = .ok u w ∧ (Instr.checkKey e d f.type u).run P w = .ok () w) :
   (Instr.checkKey e (d + 1) K (.agg xs)).run P w = .ok () w := by
 have hu : (underlying K).run P w = .ok (.struct fs) w := by simp [underlying, ht, go_sem]
 unfold Instr.checkKey
 simp only [Sem.run_bind, hu, Result.andThen_ok]
 rw [← Array.forIn_toList]
 have := check_fields (P := P) fs.toList h
 simpa only [Sem.run_bind] using this
theorem check_int {e : Bool} {d : Nat} {w : World} {K : TypeId} {k k' : IntKind} {i : Int} (ht : P.underlying K = some (.int k)) : (Instr.checkKey e (d + 1) K (.int k' i)).run P w = .ok () w := by
 have hu : (underlying K).run P w = .ok (.int k) w := by simp [underlying, ht, go_sem]
 unfold Instr.checkKey
 simp only [Sem.run_bind, hu, Result.andThen_ok]; rfl
def mp (enck : κ → Value) (encv : ν → Value) (b : Nat) (m : List (κ × ν)) : HProp := fun h => ∃ ents clock, pt b (.map ents clock) h ∧ ents.toList.map (fun e => (e.key, e.val)) = m.map (fun p => (enck p.1, encv p.2)) ∧ (mkeys m).Nodup ∧
 (ents.toList.map (·.born)).Nodup ∧ ∀ e ∈ ents.toList, e.born < clock
theorem seek_spec [DecidableEq κ] {k : κ} {encv : ν → Value} : ∀ (m : List (κ × ν)) (i : Nat), (seek k (m.map fun p => (p.1, encv p.2)) i = none ∧ mget m k = none) ∨
   ∃ j v, seek k (m.map fun p => (p.1, encv p.2)) i = some (i + j, encv v) ∧ mget m k = some v ∧ m[j]? = some (k, v) ∧ (∀ v', (m.set j (k, v')) = mput m k v') ∧ m.eraseIdx j = mdel m k
 | [], i => .inl ⟨rfl, rfl⟩
 | (k', v) :: m, i => by
   simp only [List.map_cons, seek, mget]
   by_cases h : k = k'
   · subst h
     refine .inr ⟨0, v, by simp, by simp, by simp, fun v' => by simp [mput], by simp [mdel]⟩
   · simp only [h, if_false]
     rcases seek_spec m (i + 1) with ⟨h1, h2⟩ | ⟨j, u, h1, h2, h3, h4, h5⟩
     · exact .inl ⟨h1, h2⟩
     · refine .inr ⟨j + 1, u, by rw [h1]; congr 2; omega, h2, by simpa using h3, fun v' => by simp [mput, h, h4], by simp [mdel, h, h5]⟩
theorem find_in [DecidableEq κ] {K : TypeId} {enck : κ → Value} {encv : ν → Value} (kt : KeyT P K enck) {m : List (κ × ν)} {es : Array MapEntry} (he : es.toList.map (fun e => (e.key, e.val)) = m.map (fun p => (enck p.1, encv p.2))) (k : κ) (w : World) :
   (Instr.findKey K (enck k) es.toList).run P w = .ok (seek k (m.map fun p => (p.1, encv p.2)) 0) w :=
 kt.find _ _ k w (by rw [he, List.map_map]; rfl)
theorem run_getMap {w : World} {b : Nat} {es : Array MapEntry} {clock : Nat} (h : w.heap[b]? = some (.map es clock)) : (getObj b).run P w = .ok (.map es clock) w := by
 simp [getObj, Sem.run, h]
theorem Gs.mpNodup {X : Act → World → Prop} {enck : κ → Value} {encv : ν → Value} {b : Nat} {m : List (κ × ν)} {H' : List HProp} (t : Take (mp enck encv b m) H H') (g : (mkeys m).Nodup → Gs w0 n env H X) : Gs w0 n env H X := fun a w e s => by
 obtain ⟨h0, ⟨ents, clock, _, _, hn, _⟩, _⟩ := (s.take t).toRo
 exact g hn a w e s
theorem rd_look [DecidableEq κ] {d : Option Tmp} {x y : Operand} {T K E ty : TypeId} {pos : String} {af : Array Edge} {g : Option (Nat × Bool)} {enck : κ → Value} {encv : ν → Value} {b : Nat} {m : List (κ × ν)} {k : κ} {z : ν} {H' : List HProp} (ht : P.underlying T = some (.map K E)) (kt : KeyT P K enck) (zv : ZV P E (encv z))
   (hx : ev env x = some (.map (some b))) (hy : ev env y = some (enck k)) (t : Take (mp enck encv b m) H H') (ok : Bool) :
   Rd P ⟨d, .lookup T x y ok, ty, pos, af, g⟩ w0 env H (if ok then .tuple #[encv ((mget m k).getD z), .bool (mget m k).isSome] else encv ((mget m k).getD z)) := fun ρ w e s => by
 obtain ⟨h0, ⟨ents, clock, hp, he, -⟩, s'⟩ := (s.take t).toRo
 have hb := s'.ro b _ hp.1
 have hu : (underlying T).run P w = .ok (.map K E) w := by simp [underlying, ht, go_sem]
 refine run_v (s := Instr.lookup T (ρ x) (ρ y) ok) ?_
 rw [e.eval hx, e.eval hy]
 unfold Instr.lookup
 simp only [Sem.run_bind, hu, run_getMap hb, Result.andThen_ok, Sem.run_pure, kt.check, find_in kt he]
 rcases seek_spec (encv := encv) (k := k) m 0 with ⟨h1, h2⟩ | ⟨j, u, h1, h2, -⟩
 · rw [h1, h2]; simp only [Sem.run_bind, zv.run, Result.andThen_ok, Sem.run_pure]; cases ok <;> rfl
 · rw [h1, h2]; simp only [Sem.run_pure, Result.andThen_ok]; cases ok <;> rfl
theorem rd_look1 [DecidableEq κ] {d : Option Tmp} {x y : Operand} {T K E ty : TypeId} {pos : String} {af : Array Edge} {g : Option (Nat × Bool)} {enck : κ → Value} {encv : ν → Value} {b : Nat} {m : List (κ × ν)} {k : κ} {z : ν} {H' : List HProp} (ht : P.underlying T = some (.map K E)) (kt : KeyT P K enck) (zv : ZV P E (encv z))
   (hx : ev env x = some (.map (some b))) (hy : ev env y = some (enck k)) (t : Take (mp enck encv b m) H H') :
   Rd P ⟨d, .lookup T x y false, ty, pos, af, g⟩ w0 env H (encv ((mget m k).getD z)) := rd_look ht kt zv hx hy t false
theorem rd_look2 [DecidableEq κ] {d : Option Tmp} {x y : Operand} {T K E ty : TypeId} {pos : String} {af : Array Edge} {g : Option (Nat × Bool)} {enck : κ → Value} {encv : ν → Value} {b : Nat} {m : List (κ × ν)} {k : κ} {z : ν} {H' : List HProp} (ht : P.underlying T = some (.map K E)) (kt : KeyT P K enck) (zv : ZV P E (encv z))
   (hx : ev env x = some (.map (some b))) (hy : ev env y = some (enck k)) (t : Take (mp enck encv b m) H H') :
   Rd P ⟨d, .lookup T x y true, ty, pos, af, g⟩ w0 env H (.tuple #[encv ((mget m k).getD z), .bool (mget m k).isSome]) := rd_look ht kt zv hx hy t true
theorem run_setMap {w : World} {b : Nat} {es : Array MapEntry} {clock : Nat} {o : Obj} (h : w.heap[b]? = some (.map es clock)) : (setObj b o).run P w = .ok () { w with heap := w.heap.setIfInBounds b o } := by
 simp [setObj, Sem.run, h]
theorem Sat.setMap {w : World} {b : Nat} {o o' : Obj} {L : List HProp} (s : Sat w0 w (Sl.pt b o :: L)) : Sat w0 { w with heap := w.heap.setIfInBounds b o' } (Sl.pt b o' :: L) := by
 have hb := s.pt
 have hlt := (Array.getElem?_eq_some_iff.1 hb).1
 refine s.write rfl rfl rfl (by simp) (by simp [hlt]) fun c hc _ => ?_
 simp only [Array.getElem?_setIfInBounds]; rw [if_neg (fun e => hc e.symm)]
theorem Sat.setMap' {w : World} {b : Nat} {o o' : Obj} {L : List HProp} (s : Sat w0 w (Sl.pt b o :: L)) : Sat w0 (ChangeMaps.setBlock w b o') (Sl.pt b o' :: L) := s.setMap
theorem ac_put [DecidableEq κ] {d : Option Tmp} {x y z : Operand} {T K E ty : TypeId} {pos : String} {af : Array Edge} {g : Option (Nat × Bool)} {enck : κ → Value} {encv : ν → Value} {b : Nat} {m : List (κ × ν)} {k : κ} {v : ν} {H' : List HProp} (ht : P.underlying T = some (.map K E)) (kt : KeyT P K enck)
   (hx : ev env x = some (.map (some b))) (hy : ev env y = some (enck k)) (hz : ev env z = some (encv v)) (t : Take (mp enck encv b m) H H') :
   Ac P ⟨d, .mapUpdate T x y z, ty, pos, af, g⟩ w0 env H (fun _ H'' => H'' = mp enck encv b (mput m k v) :: H') := Ac.of_skip fun ρ w r s => by
 have st := s.take t
 obtain ⟨h, le, h1, h2, dd, rfl, ⟨ents, clock, hp, he, hn, hb1, hb2⟩, hl⟩ := st.heap
 have hb := le b _ (Hp.un_left hp.1)
 have sat : Sat w0 w (pt b (.map ents clock) :: H') := ⟨st.os, st.tape, st.output, st.size, _, le, h1, h2, dd, rfl, hp, hl⟩
 have hu : (underlying T).run P w = .ok (.map K E) w := by simp [underlying, ht, go_sem]
 have key : ∀ es' clock', es'.toList.map (fun e => (e.key, e.val)) = (mput m k v).map (fun p => (enck p.1, encv p.2)) → (es'.toList.map (·.born)).Nodup → (∀ e ∈ es'.toList, e.born < clock') →
     (Instr.mapUpdate T (.map (some b)) (enck k) (encv v)).run P w = .ok () { w with heap := w.heap.setIfInBounds b (.map es' clock') } →
     ∃ H'' w', (do Instr.mapUpdate T (ρ x) (ρ y) (ρ z); Pure.pure Next.skip : Sem Next).run P w = .ok .skip w' ∧ H'' = mp enck encv b (mput m k v) :: H' ∧ Sat w0 w' H'' := by
   intro es' clock' g1 g2 g3 g4
   refine ⟨_, _, ?_, rfl, (sat.setMap (o' := .map es' clock')).ent fun hh hpp => ⟨es', clock', hpp, g1, nodup_put hn k v, g2, g3⟩⟩
   rw [r.eval hx, r.eval hy, r.eval hz]
   simp only [Sem.run_bind, g4, Result.andThen_ok]; rfl
 show ∃ H'' w', (do Instr.mapUpdate T (ρ x) (ρ y) (ρ z); Pure.pure Next.skip : Sem Next).run P w = .ok .skip w' ∧ H'' = mp enck encv b (mput m k v) :: H' ∧ Sat w0 w' H''
 rcases seek_spec (encv := encv) (k := k) m 0 with ⟨g1, g2⟩ | ⟨j, u, g1, g2, g3, g4, -⟩
 · have hput : mput m k v = m ++ [(k, v)] := by
     have : ∀ (m : List (κ × ν)), mget m k = none → mput m k v = m ++ [(k, v)] := by
       intro m
       induction m with
       | nil => intro _; rfl
       | cons p m ih =>
         obtain ⟨k', v'⟩ := p
         intro h
         simp only [mget] at h
         by_cases hk : k = k'
         · simp [hk] at h
         · simp only [hk, if_false] at h; simp [mput, hk, ih h]
     exact this m g2
   refine key (ents.push { key := enck k, val := encv v, born := clock }) (clock + 1) ?_ ?_ ?_ ?_
   · rw [hput]; simp [he]
   · simp only [Array.toList_push, List.map_append, List.map_cons, List.map_nil]
     rw [List.nodup_append]
     refine ⟨hb1, by simp, fun a ha c hc e => ?_⟩
     simp at hc; subst hc; subst e
     obtain ⟨e, he', hee⟩ := List.mem_map.1 ha
     have := hb2 e he'; omega
   · intro e hee
     simp only [Array.toList_push, List.mem_append, List.mem_singleton] at hee
     rcases hee with hee | rfl
     · have := hb2 e hee; omega
     · simp
   · unfold Instr.mapUpdate
     simp only [Sem.run_bind, hu, run_getMap hb, Result.andThen_ok, kt.check, find_in kt he, g1]
     exact run_setMap hb
 · rw [Nat.zero_add] at g1
   have hj : j < m.length := (List.getElem?_eq_some_iff.1 g3).1
   have hjs : j < ents.size := by have := congrArg List.length he; simp at this; omega
   have hej : (ents[j].key, ents[j].val) = (enck k, encv u) := by
     have h1 : (ents.toList.map (fun e => (e.key, e.val)))[j]? = some (ents[j].key, ents[j].val) := by simp [hjs]
     rw [he] at h1
     simp [g3] at h1
     rw [← h1.1, ← h1.2]
   simp only [Prod.mk.injEq] at hej
   refine key (ents.modify j fun e => { e with key := enck k, val := encv v }) clock ?_ ?_ ?_ ?_
   · rw [← g4 v, Array.toList_modify]
     apply List.ext_getElem?
     intro i
     simp only [List.getElem?_map, List.getElem?_modify, List.getElem?_set]
     have hei : (ents.toList[i]?).map (fun e => (e.key, e.val)) = (m[i]?).map (fun p => (enck p.1, encv p.2)) := by
       have := congrArg (·[i]?) he; simpa only [List.getElem?_map] using this
     by_cases hij : j = i
     · subst hij
       simp [hj, hjs]
     · simp only [hij, if_false]
       rw [← hei]; cases ents.toList[i]? <;> simp
   · rw [Array.toList_modify]
     have : ((ents.toList.modify j fun e => { e with key := enck k, val := encv v }).map (·.born)) = ents.toList.map (·.born) := by
       apply List.ext_getElem?
       intro i
       simp only [List.getElem?_map, List.getElem?_modify]
       cases ents.toList[i]? with
       | none => simp
       | some e => by_cases hij : j = i <;> simp [hij]
     rw [this]; exact hb1
   · intro e hee
     rw [Array.toList_modify] at hee
     obtain ⟨i, hi⟩ := List.mem_iff_getElem?.1 hee
     rw [List.getElem?_modify] at hi
     cases hx' : ents.toList[i]? with
     | none => rw [hx'] at hi; simp at hi
     | some e0 =>
       have := hb2 e0 (List.mem_of_getElem? hx')
       rw [hx'] at hi
       by_cases hij : j = i <;> simp [hij] at hi <;> subst hi <;> exact this
   · unfold Instr.mapUpdate
     have hk : (Instr.keyThatStays (((ents[j]?).map (·.key)).getD (enck k)) (enck k)).run P w = .ok (enck k) w := by
       have : (((ents[j]?).map (·.key)).getD (enck k)) = enck k := by simp [hjs, hej.1]
       rw [this]; unfold Instr.keyThatStays; rw [if_pos (kt.same k)]; rfl
     simp only [Sem.run_bind, hu, run_getMap hb, Result.andThen_ok, kt.check, find_in kt he, g1, hk]
     exact run_setMap hb
theorem ac_del [DecidableEq κ] {d : Option Tmp} {x y : Operand} {T K E ty : TypeId} {ts : Array TypeId} {pos : String} {af : Array Edge} {g : Option (Nat × Bool)} {enck : κ → Value} {encv : ν → Value} {b : Nat} {m : List (κ × ν)} {k : κ} {H' : List HProp} (ht : P.underlying T = some (.map K E)) (kt : KeyT P K enck) (hts : ts[0]? = some T)
   (hx : ev env x = some (.map (some b))) (hy : ev env y = some (enck k)) (t : Take (mp enck encv b m) H H') :
   Ac P ⟨d, .call ⟨.builtin .delete, #[x, y], ts⟩, ty, pos, af, g⟩ w0 env H (fun _ H'' => H'' = mp enck encv b (mdel m k) :: H') := Ac.of_run fun ρ w r s => by
 have st := s.take t
 obtain ⟨h, le, h1, h2, dd, rfl, ⟨ents, clock, hp, he, hn, hb1, hb2⟩, hl⟩ := st.heap
 have hb := le b _ (Hp.un_left hp.1)
 have sat : Sat w0 w (pt b (.map ents clock) :: H') := ⟨st.os, st.tape, st.output, st.size, _, le, h1, h2, dd, rfl, hp, hl⟩
 have hu : (underlying T).run P w = .ok (.map K E) w := by simp [underlying, ht, go_sem]
 have key : ∀ es', es'.toList.map (fun e => (e.key, e.val)) = (mdel m k).map (fun p => (enck p.1, encv p.2)) → (es'.toList.map (·.born)).Nodup → (∀ e ∈ es'.toList, e.born < clock) →
     (Builtin.delete_ ts ty #[.map (some b), enck k]).run P w = .ok (.tuple #[]) { w with heap := w.heap.setIfInBounds b (.map es' clock) } →
     ∃ v H'' w', (do Pure.pure (Next.value (← Builtin.delete_ ts ty (#[x, y].map ρ))) : Sem Next).run P w = .ok (.value v) w' ∧ H'' = mp enck encv b (mdel m k) :: H' ∧ Sat w0 w' H'' := by
   intro es' g1 g2 g3 g4
   refine ⟨.tuple #[], _, _, ?_, rfl, (sat.setMap (o' := .map es' clock)).ent fun hh hpp => ⟨es', clock, hpp, g1, nodup_del hn k, g2, g3⟩⟩
   rw [show #[x, y].map ρ = #[ρ x, ρ y] by simp, r.eval hx, r.eval hy]
   exact run_v g4
 show ∃ v H'' w', (do Pure.pure (Next.value (← Builtin.delete_ ts ty (#[x, y].map ρ))) : Sem Next).run P w = .ok (.value v) w' ∧ H'' = mp enck encv b (mdel m k) :: H' ∧ Sat w0 w' H''
 rcases seek_spec (encv := encv) (k := k) m 0 with ⟨g1, g2⟩ | ⟨j, u, g1, g2, g3, -, g5⟩
 · have hdel : mdel m k = m := by
     have : ∀ (m : List (κ × ν)), mget m k = none → mdel m k = m := by
       intro m
       induction m with
       | nil => intro _; rfl
       | cons p m ih =>
         obtain ⟨k', v'⟩ := p
         intro h
         simp only [mget] at h
         by_cases hk : k = k'
         · simp [hk] at h
         · simp only [hk, if_false] at h; simp [mdel, hk, ih h]
     exact this m g2
   refine key ents (by rw [hdel]; exact he) hb1 hb2 ?_
   unfold Builtin.delete_
   simp only [hts, List.getElem?_toArray, List.getElem?_cons_zero, List.getElem?_cons_succ, Sem.run_bind, hu, run_getMap hb, Result.andThen_ok, kt.check, find_in kt he, g1, run_setMap hb]; rfl
 · rw [Nat.zero_add] at g1
   have hj : j < m.length := (List.getElem?_eq_some_iff.1 g3).1
   have hjs : j < ents.size := by have := congrArg List.length he; simp at this; omega
   have htl : (ents.eraseIdxIfInBounds j).toList = ents.toList.eraseIdx j := by simp [Array.eraseIdxIfInBounds, hjs]
   refine key (ents.eraseIdxIfInBounds j) ?_ ?_ ?_ ?_
   · rw [htl, ← g5, ChangeMaps.map_eraseIdx, he, ChangeMaps.map_eraseIdx]
   · rw [htl, ChangeMaps.map_eraseIdx]; exact List.Nodup.sublist (List.eraseIdx_sublist ..) hb1
   · intro e hee; rw [htl] at hee; exact hb2 e ((List.eraseIdx_sublist ..).subset hee)
   · unfold Builtin.delete_
     simp only [hts, List.getElem?_toArray, List.getElem?_cons_zero, List.getElem?_cons_succ, Sem.run_bind, hu, run_getMap hb, Result.andThen_ok, kt.check, find_in kt he, g1, run_setMap hb]; rfl
theorem ac_mkmap {d : Option Tmp} {T ty : TypeId} {pos : String} {af : Array Edge} {g : Option (Nat × Bool)} (enck : κ → Value) (encv : ν → Value) :
   Ac P ⟨d, .makeMap T none, ty, pos, af, g⟩ w0 env H (fun v H' => ∃ b, v = .map (some b) ∧ H' = mp enck encv b [] :: H) := Ac.of_run fun ρ w r s => by
 refine ⟨_, _, _, run_v (s := Instr.makeMap T none) (v := .map (some w.heap.size)) (w' := { w with heap := w.heap.push (.map #[] 0) }) rfl, ⟨w.heap.size, rfl, rfl⟩, (s.alloc _).ent fun h hp => ⟨#[], 0, hp, rfl, by simp, by simp, by simp⟩⟩
def itr (enck : κ → Value) (encv : ν → Value) (r b : Nat) (m left : List (κ × ν)) (last : Option (κ × ν)) : HProp := fun h => ∃ ents clock seen, two (pt b (.map ents clock)) (pt r (.mapIter (some b) clock seen clock)) h ∧
 ents.toList.map (fun e => (e.key, e.val)) = m.map (fun p => (enck p.1, encv p.2)) ∧ (mkeys m).Nodup ∧ (ents.toList.map (·.born)).Nodup ∧ (∀ e ∈ ents.toList, e.born < clock) ∧
 left = ((ents.toList.zip m).filter (fun x => !seen.contains x.1.born)).map (·.2) ∧ (∀ p, last = some p → ∃ e, (e, p) ∈ ents.toList.zip m ∧ seen.back? = some e.born)
theorem itr_mp {enck : κ → Value} {encv : ν → Value} {r b : Nat} {m left : List (κ × ν)} {last : Option (κ × ν)} {w : World} {L : List HProp} (s : Sat w0 w (itr enck encv r b m left last :: L)) : Sat w0 w (mp enck encv b m :: L) := by
 obtain ⟨h, le, h1, h2, d, rfl, ⟨ents, clock, seen, ht, he, hn, hb1, hb2, -⟩, l⟩ := s.heap
 have s2 : Sat w0 w (two (pt b (.map ents clock)) (pt r (.mapIter (some b) clock seen clock)) :: L) := ⟨s.os, s.tape, s.output, s.size, _, le, h1, h2, d, rfl, ht, l⟩
 have s3 := (Sat.two.1 s2).take (.tl .hd) |>.drop
 exact s3.ent fun h hp => ⟨ents, clock, hp, he, hn, hb1, hb2⟩
theorem Gs.itrEnd {X : Act → World → Prop} {enck : κ → Value} {encv : ν → Value} {r b : Nat} {m left : List (κ × ν)} {last : Option (κ × ν)} {H' : List HProp} (t : Take (itr enck encv r b m left last) H H') (g : Gs w0 n env (mp enck encv b m :: H') X) : Gs w0 n env H X :=
 fun a w e s => g a w e (itr_mp (s.take t))
theorem ac_range {d : Option Tmp} {x : Operand} {T K E ty : TypeId} {pos : String} {af : Array Edge} {g : Option (Nat × Bool)} {enck : κ → Value} {encv : ν → Value} {b : Nat} {m : List (κ × ν)} {H' : List HProp} (ht : P.underlying T = some (.map K E))
   (hx : ev env x = some (.map (some b))) (t : Take (mp enck encv b m) H H') :
   Ac P ⟨d, .range T x, ty, pos, af, g⟩ w0 env H (fun v H'' => ∃ r, v = .pointer (some ⟨r, 0, none⟩) ∧ H'' = itr enck encv r b m m none :: H') := Ac.of_run fun ρ w r s => by
 have st := s.take t
 obtain ⟨h, le, h1, h2, dd, rfl, ⟨ents, clock, hp, he, hn, hb1, hb2⟩, hl⟩ := st.heap
 have hb := le b _ (Hp.un_left hp.1)
 have sat : Sat w0 w (pt b (.map ents clock) :: H') := ⟨st.os, st.tape, st.output, st.size, _, le, h1, h2, dd, rfl, hp, hl⟩
 have hu : (underlying T).run P w = .ok (.map K E) w := by simp [underlying, ht, go_sem]
 refine ⟨_, _, _, run_v (s := Instr.range T (ρ x)) (v := .pointer (some ⟨w.heap.size, 0, none⟩)) (w' := { w with heap := w.heap.push (.mapIter (some b) clock #[] clock) }) ?_, ⟨w.heap.size, rfl, rfl⟩, ?_⟩
 · rw [r.eval hx]
   unfold Instr.range
   simp only [Sem.run_bind, hu, run_getMap hb, Result.andThen_ok, Sem.run_pure, run_new]
 · have s2 := Sat.two.2 ((sat.alloc (.mapIter (some b) clock #[] clock)).take (.tl .hd))
   refine s2.ent fun hh h2 => ⟨ents, clock, #[], h2, he, hn, hb1, hb2, ?_, fun p hp => by cases hp⟩
   have hl' := congrArg List.length he
   simp at hl'
   have hf : (ents.toList.zip m).filter (fun x => !(#[] : Array Nat).contains x.1.born) = ents.toList.zip m := List.filter_eq_self.2 fun y _ => by simp
   rw [hf]
   exact (List.map_snd_zip (by simp [hl'])).symm
theorem filter_erase {α : Type} {f : α → Nat} : ∀ (l : List α) (i : Nat) (x : α), (l.map f).Nodup → l[i]? = some x → l.filter (fun y => !(f y == f x)) = l.eraseIdx i
 | [], _, _, _, h => by simp at h
 | a :: l, 0, x, hn, h => by
   simp at h; subst h
   have hn' := List.nodup_cons.1 hn
   have : l.filter (fun y => !(f y == f a)) = l := List.filter_eq_self.2 fun y hy => by
     have : f y ≠ f a := fun e => hn'.1 (e ▸ List.mem_map_of_mem hy)
     simp [this]
   simp [this]
 | a :: l, i + 1, x, hn, h => by
   have hn' := List.nodup_cons.1 hn
   have hx : l[i]? = some x := by simpa using h
   have hm : f a ≠ f x := fun e => hn'.1 (e ▸ List.mem_map_of_mem (List.mem_of_getElem? hx))
   simp only [List.filter_cons, List.eraseIdx_cons_succ]
   rw [filter_erase l i x hn'.2 hx]
   simp [hm]
theorem zip_filter : ∀ (es : List MapEntry) (m : List (κ × ν)) (q : MapEntry → Bool), es.length = m.length → es.filter q = ((es.zip m).filter (fun x => q x.1)).map (·.1)
 | [], _, _, _ => rfl
 | _ :: _, [], _, h => by cases h
 | e :: es, p :: m, q, h => by
   simp only [List.zip_cons_cons, List.filter_cons]
   have := zip_filter es m q (by simpa using h)
   split <;> simp [this]
theorem zip_at {enck : κ → Value} {encv : ν → Value} : ∀ (es : List MapEntry) (m : List (κ × ν)), es.map (fun e => (e.key, e.val)) = m.map (fun p => (enck p.1, encv p.2)) → ∀ x ∈ es.zip m, x.1.key = enck x.2.1 ∧ x.1.val = encv x.2.2
 | [], _, _, x, hx => by simp at hx
 | _ :: _, [], h, _, _ => by simp at h
 | e :: es, p :: m, h, x, hx => by
   simp only [List.map_cons, List.cons.injEq, Prod.mk.injEq] at h
   simp only [List.zip_cons_cons, List.mem_cons] at hx
   rcases hx with rfl | hx
   · exact h.1
   · exact zip_at es m h.2 x hx
theorem ac_next {d : Option Tmp} {x : Operand} {ty : TypeId} {pos : String} {af : Array Edge} {g : Option (Nat × Bool)} {enck : κ → Value} {encv : ν → Value} {r b : Nat} {m left : List (κ × ν)} {last : Option (κ × ν)} {H' : List HProp}
   (hx : ev env x = some (.pointer (some ⟨r, 0, none⟩))) (t : Take (itr enck encv r b m left last) H H') :
   Ac P ⟨d, .next x false, ty, pos, af, g⟩ w0 env H (fun v H'' => (left = [] ∧ v = .tuple #[.bool false] ∧ H'' = itr enck encv r b m left last :: H') ∨
     ∃ i p, left[i]? = some p ∧ v = .tuple #[.bool true, enck p.1, encv p.2] ∧ H'' = itr enck encv r b m (left.eraseIdx i) (some p) :: H') := Ac.of_run fun ρ w rr s => by
 have st := s.take t
 obtain ⟨h, le, h1, h2, dd, rfl, ⟨ents, clock, seen, htw, he, hn, hb1, hb2, hleft, hlast⟩, hl⟩ := st.heap
 have sat2 : Sat w0 w (two (pt b (.map ents clock)) (pt r (.mapIter (some b) clock seen clock)) :: H') := ⟨st.os, st.tape, st.output, st.size, _, le, h1, h2, dd, rfl, htw, hl⟩
 have satA := Sat.two.1 sat2
 have satB := satA.take (.tl .hd)
 have hb := satA.pt
 have hr := satB.pt
 have hlen : ents.toList.length = m.length := by have := congrArg List.length he; simpa using this
 have hcand : (leftOf ents seen).toList = ((ents.toList.zip m).filter (fun x => !seen.contains x.1.born)).map (·.1) := by
   unfold leftOf; rw [Array.toList_filter]; exact zip_filter _ _ _ hlen
 rcases run_next_at (P := P) w ty r b clock clock seen ents clock hr hb hb2 (Nat.le_refl _) with ⟨h0, hrun⟩ | ⟨e, hmem, w1, hw1, hrun⟩
 · refine ⟨_, _, w, run_v (s := Instr.next (ρ x) false ty) (by rw [rr.eval hx]; exact hrun), .inl ⟨?_, rfl, rfl⟩, st⟩
   have h0' : (leftOf ents seen).toList.length = 0 := by simpa using h0
   rw [hcand] at h0'
   rw [hleft]
   simpa using h0'
 · rw [hcand] at hmem
   obtain ⟨⟨e', p⟩, hmem', rfl⟩ := List.mem_map.1 hmem
   obtain ⟨i, hi⟩ := List.mem_iff_getElem?.1 hmem'
   have hz := (List.mem_filter.1 hmem').1
   have hkv := zip_at _ _ he _ hz
   refine ⟨_, _, setBlock w1 r (.mapIter (some b) clock (seen.push e'.born) clock), run_v (s := Instr.next (ρ x) false ty) (by rw [rr.eval hx]; exact hrun), .inr ⟨i, p, ?_, ?_, rfl⟩, ?_⟩
   · rw [hleft, List.getElem?_map, hi]; rfl
   · simp only at hkv; rw [hkv.1, hkv.2]
   · have satB1 : Sat w0 w1 (pt r (.mapIter (some b) clock seen clock) :: pt b (.map ents clock) :: H') := by
       rcases hw1 with rfl | rfl
       · exact satB
       · exact satB.drew
     have sat3 := Sat.two.2 ((satB1.setMap' (o' := .mapIter (some b) clock (seen.push e'.born) clock)).take (.tl .hd))
     refine sat3.ent fun hh h2 => ⟨ents, clock, _, h2, he, hn, hb1, hb2, ?_, fun q hq => ?_⟩
     · rw [hleft, ← ChangeMaps.map_eraseIdx]
       have hnd : (((ents.toList.zip m).filter (fun x => !seen.contains x.1.born)).map (fun x => x.1.born)).Nodup := by
         refine List.Nodup.sublist (List.Sublist.map _ (List.filter_sublist ..)) ?_
         have : (ents.toList.zip m).map (fun x => x.1.born) = ents.toList.map (·.born) := by
           rw [← List.map_fst_zip (l₁ := ents.toList) (l₂ := m) (by omega)]
           rw [List.map_map]
           rw [List.map_fst_zip (by omega)]; rfl
         rw [this]; exact hb1
       rw [← filter_erase _ i (e', p) hnd hi, List.filter_filter]
       congr 1
       apply List.filter_congr
       intro y _
       simp only [Array.contains_push]
       cases hc : seen.contains y.1.born <;> simp
     · cases hq
       exact ⟨e', hz, by simp⟩
theorem ac_entry {d : Option Tmp} {x : Operand} {ty : TypeId} {pos : String} {af : Array Edge} {g : Option (Nat × Bool)} {enck : κ → Value} {encv : ν → Value} {r b : Nat} {m left : List (κ × ν)} {p : κ × ν} {H' : List HProp}
   (hx : ev env x = some (.pointer (some ⟨r, 0, none⟩))) (t : Take (itr enck encv r b m left (some p)) H H') :
   Rd P ⟨d, .entry x, ty, pos, af, g⟩ w0 env H (.tuple #[enck p.1, encv p.2]) := fun ρ w rr s => by
 have st := s.take t
 obtain ⟨h, le, h1, h2, dd, rfl, ⟨ents, clock, seen, htw, he, hn, hb1, hb2, hleft, hlast⟩, hl⟩ := st.heap
 have sat2 : Sat w0 w (two (pt b (.map ents clock)) (pt r (.mapIter (some b) clock seen clock)) :: H') := ⟨st.os, st.tape, st.output, st.size, _, le, h1, h2, dd, rfl, htw, hl⟩
 have satA := Sat.two.1 sat2
 have satB := satA.take (.tl .hd)
 have hb := satA.pt
 have hr := satB.pt
 obtain ⟨e, hz, hback⟩ := hlast p rfl
 have hkv := zip_at _ _ he _ hz
 have hm : e ∈ ents.toList := (List.of_mem_zip hz).1
 have hf : ents.find? (·.born == e.born) = some e := by rw [← Array.find?_toList]; exact find_born e ents.toList hb1 hm
 refine run_v (s := Instr.entry (ρ x)) ?_
 rw [rr.eval hx]
 simp only at hkv
 simp only [Instr.entry, getObj, Sem.run_bind, Sem.run, hr, hb, Result.andThen, hback, bne_self_eq_false, Bool.false_eq_true, if_false, hf, hkv.1, hkv.2]
 rfl
end
end Go.Sl
namespace Go.Sl
open Go
def fillL (pl : List (Nat × Nat)) : List Value → List (Nat × List Value) → Option (List Value)
 | cs, [] => some cs
 | cs, (i, vs) :: r =>
   match pl[i]? with
   | none => none
   | some (o, k) => match Nat.beq vs.length k with
     | true => match lay cs o vs with
       | some ds => fillL pl ds r
       | none => none
     | false => none
theorem lay_le : ∀ (cs : List Value) (o : Nat) (vs ds : List Value), lay cs o vs = some ds → o + vs.length ≤ cs.length
 | cs, o, [], ds, h => by
   induction cs generalizing o ds with
   | nil => cases o <;> simp [lay] at h ⊢
   | cons c cs ih =>
     cases o with
     | zero => simp
     | succ o =>
       simp only [lay] at h; split at h
       · rename_i r hr; have := ih o r hr; simp at this ⊢; omega
       · cases h
 | cs, o, v :: vs, ds, h => by
   obtain ⟨h1, h2⟩ := lay_step _ _ _ _ _ h
   have := lay_le _ _ _ _ h2
   simp at this ⊢; omega
theorem lay_fold : ∀ (vs : List Value) (k : Nat) (cs : List Value) (o : Nat) (ds : List Value), lay cs (o + k) vs = some ds → (vs.zipIdx k).foldl (fun (cs : Array Value) (c, j) => cs.setIfInBounds (o + j) c) cs.toArray = ds.toArray
 | [], k, cs, o, ds, h => by rw [lay_nil _ _ _ h]; rfl
 | v :: vs, k, cs, o, ds, h => by
   obtain ⟨h1, h2⟩ := lay_step _ _ _ _ _ h
   rw [List.zipIdx_cons, List.foldl_cons]
   have := lay_fold vs (k + 1) _ o ds h2
   rw [← this]
   congr 1
   simp
theorem fill_of {pl : List (Nat × Nat)} : ∀ (r : List (Nat × List Value)) (vs : List (Nat × Value)) (cs ds : List Value), vs.map (fun p => (p.1, p.2.cells.toList)) = r → fillL pl cs r = some ds → Instr.fill (pl.toArray[·]?) cs.toArray vs = some ds.toArray
 | [], [], cs, ds, _, h => by simp only [fillL, Option.some.injEq] at h; subst h; rfl
 | [], _ :: _, _, _, h, _ => by cases h
 | _ :: _, [], _, _, h, _ => by cases h
 | (i, us) :: r, (j, v) :: vs, cs, ds, h, hf => by
   simp only [List.map_cons, List.cons.injEq, Prod.mk.injEq] at h
   obtain ⟨⟨rfl, rfl⟩, h⟩ := h
   simp only [fillL] at hf
   simp only [Instr.fill, List.getElem?_toArray]
   cases hp : pl[j]? with
   | none => rw [hp] at hf; cases hf
   | some q =>
     obtain ⟨o, k⟩ := q
     rw [hp] at hf
     simp only at hf ⊢
     split at hf
     · rename_i hb
       have hk := Nat.eq_of_beq_eq_true hb
       split at hf
       · rename_i es he
         have hle := lay_le _ _ _ _ he
         have hfold := lay_fold v.cells.toList 0 cs o es (by simpa using he)
         have : v.cells.zipIdx.foldl (fun (cs : Array Value) (c, j) => cs.setIfInBounds (o + j) c) cs.toArray = es.toArray := by
           rw [← hfold, ← Array.foldl_toList, Array.toList_zipIdx]
         simp only [Array.length_toList] at hk hle
         rw [if_neg (by simp [hk]; omega), this]
         simpa only [List.getElem?_toArray] using fill_of r vs es ds h hf
       · cases hf
     · cases hf
structure BD (P : Program) (T : TypeId) (pl : List (Nat × Nat)) (z : List Value) : Prop where
 run : ∀ (parts : Array (Nat × Value)) (cells : Array Value), Instr.fill (pl.toArray[·]?) z.toArray parts.toList = some cells → ∀ w, (Instr.build T parts).run P w = .ok (.agg cells) w
def Places (P : Program) : List Field → List (Nat × Nat) → Prop
 | [], [] => True
 | f :: fs, p :: ps => f.offset = p.1 ∧ (∀ w, (sizeOf f.type).run P w = .ok p.2 w) ∧ Places P fs ps
 | _, _ => False
theorem Places.run {P : Program} : ∀ (fs : List Field) (pl : List (Nat × Nat)), Places P fs pl → ∀ w, (fs.mapM fun f => (do pure (f.offset, ← sizeOf f.type) : Sem (Nat × Nat))).run P w = .ok pl w
 | [], [], _, w => rfl
 | [], _ :: _, h, w => h.elim
 | _ :: _, [], h, w => h.elim
 | f :: fs, (o, k) :: ps, h, w => by
   obtain ⟨h1, h2, h3⟩ := h
   simp only at h1 h2
   simp only [List.mapM_cons, Sem.run_bind, h2, Result.andThen_ok, Sem.run_pure, Places.run fs ps h3 w, h1]
theorem BD.mk' {P : Program} {T : TypeId} {fs : Array Field} {pl : List (Nat × Nat)} {z : List Value} (ht : P.underlying T = some (.struct fs)) (hz : ∀ w, (zeroValue T).run P w = .ok (.agg z.toArray) w) (hp : Places P fs.toList pl) : BD P T pl z :=
 ⟨fun parts cells h w => by
   have hm := Places.run fs.toList pl hp w
   have hm' : (fs.mapM fun f => (do pure (f.offset, ← sizeOf f.type) : Sem (Nat × Nat))).run P w = .ok pl.toArray w := by
     rw [Array.mapM_eq_mapM_toList]
     show (Bind.bind (List.mapM (fun f => (do pure (f.offset, ← sizeOf f.type) : Sem (Nat × Nat))) fs.toList) (Sem.pure ∘ List.toArray)).run P w = _
     rw [Sem.run_bind, hm]; rfl
   unfold Instr.build
   simp only [Sem.run_bind, hz, run_underlying ht, Result.andThen_ok, hm']
   have : (Value.agg z.toArray).cells = z.toArray := rfl
   rw [this, h]; rfl⟩
section
variable {P : Program} {n : Nat} {w0 : World} {env : Env} {H : List HProp} {d : Option Tmp} {ty : TypeId} {pos : String} {af : Array Edge} {g : Option (Nat × Bool)}
inductive Pvs (env : Env) : List (Nat × Operand) → List (Nat × List Value) → Prop
 | nil : Pvs env [] []
 | cons {i : Nat} {x : Operand} {v : Value} {r : List (Nat × Operand)} {q : List (Nat × List Value)} : ev env x = some v → Pvs env r q → Pvs env ((i, x) :: r) ((i, v.cells.toList) :: q)
theorem Pvs.map {ρ : Operand → Value} (h : Rho env ρ) {r : List (Nat × Operand)} {q : List (Nat × List Value)} (e : Pvs env r q) : (r.map fun (i, x) => (i, ρ x)).map (fun p => (p.1, p.2.cells.toList)) = q := by
 induction e with
 | nil => rfl
 | cons e _ ih => simp only [List.map_cons, h.eval e, ih]
theorem pu_build {T : TypeId} {pl : List (Nat × Nat)} {z cs : List Value} {parts : List (Nat × Operand)} {q : List (Nat × List Value)} (bd : BD P T pl z) (hv : Pvs env parts q) (hf : fillL pl z q = some cs) :
   Pu P ⟨d, .build T parts.toArray, ty, pos, af, g⟩ env (.agg cs.toArray) := fun ρ w e => by
 refine run_v (s := Instr.build T (parts.toArray.map fun (i, x) => (i, ρ x))) (bd.run _ _ ?_ w)
 exact fill_of q _ z cs (by rw [Array.toList_map]; exact hv.map e) hf
theorem ET.mk' {T E sz by_ : Nat} {i : TypeInfo} {z : Value} (ht : P.underlying T = some (.slice E)) (hi : ∀ w, (typeInfo E).run P w = .ok i w) (hz : i.zero = some z) (h1 : i.size = sz) (h2 : i.bytes = by_) (h3 : z.cells.size = sz) : ET P T E sz by_ := by
 refine ⟨i, z, ht, ?_, hz, h1, h2, h3⟩
 have := hi default
 cases hp : P.info? E with
 | none => simp [typeInfo, hp, go_sem] at this
 | some j => simp [typeInfo, hp, go_sem] at this; rw [this]
theorem CmpT.of {α β : Type} [DecidableEq α] [DecidableEq β] {t m : Nat} {val : α → Value} {val' : β → Value} (f : β → α) (hf : ∀ a b, f a = f b ↔ a = b) (hv : ∀ a, val (f a) = val' a) (c : CmpT P t val m) : CmpT P t val' m := fun d hd a b w => by
 have := c d hd (f a) (f b) w
 rw [hv, hv] at this
 rw [this]; congr 1; exact decide_eq_decide.2 (hf a b)
theorem lay_ex : ∀ (cs : List Value) (o : Nat) (vs : List Value), o + vs.length ≤ cs.length → ∃ ds, lay cs o vs = some ds ∧ ds.length = cs.length ∧ (∀ j v, vs[j]? = some v → ds[o + j]? = some v) ∧ (∀ k, (k < o ∨ o + vs.length ≤ k) → ds[k]? = cs[k]?)
 | cs, 0, [], h => ⟨cs, by simp [lay], rfl, by simp, fun _ _ => rfl⟩
 | [], 0, v :: vs, h => by simp at h
 | c :: cs, 0, v :: vs, h => by
   obtain ⟨ds, h1, h2, h3, h4⟩ := lay_ex cs 0 vs (by simp at h ⊢; omega)
   refine ⟨v :: ds, by simp [lay, h1], by simp [h2], fun j u hu => ?_, fun k hk => ?_⟩
   · cases j with
     | zero => simpa using hu
     | succ j => have := h3 j u (by simpa using hu); simp only [Nat.zero_add] at this ⊢; simpa using this
   · cases k with
     | zero => simp at hk
     | succ k => simpa using h4 k (by simp at hk ⊢; omega)
 | [], o + 1, vs, h => by simp at h
 | c :: cs, o + 1, vs, h => by
   obtain ⟨ds, h1, h2, h3, h4⟩ := lay_ex cs o vs (by simp at h; omega)
   refine ⟨c :: ds, by simp [lay, h1], by simp [h2], fun j u hu => ?_, fun k hk => ?_⟩
   · rw [show o + 1 + j = (o + j) + 1 by omega]; simpa using h3 j u hu
   · cases k with
     | zero => rfl
     | succ k => simpa using h4 k (by omega)
theorem lay_at : ∀ (cs : List Value) (o : Nat) (vs ds : List Value), lay cs o vs = some ds → (∀ j v, vs[j]? = some v → ds[o + j]? = some v) ∧ (∀ k, (k < o ∨ o + vs.length ≤ k) → ds[k]? = cs[k]?) := fun cs o vs ds h => by
 obtain ⟨ds', h1, -, h3, h4⟩ := lay_ex cs o vs (lay_le _ _ _ _ h)
 rw [h] at h1; cases h1; exact ⟨h3, h4⟩
theorem ac_stE {α : Type} {enc : α → List Value} {x y : Operand} {T k sz : TypeId} {H' : List HProp} {b o off c i fo : Nat} {E : TypeId} {v : Value} {xs : List α} {vs : List Value} {x0 y0 : α} (hsz : SZ P T k) (e : EncOk sz enc)
   (hx : ev env x = some (.pointer (some ⟨b, o, none⟩))) (hy : ev env y = some v) (t : Take (sl E sz enc (some ⟨b, off, none⟩) c xs) H H') (hv : v.cells = vs.toArray) (hk : vs.length = k) (hp : vs.all plain = true)
   (hi : xs[i]? = some x0) (ho : o = off + i * sz + fo) (hl : lay (enc x0) fo vs = some (enc y0)) :
   Ac P ⟨d, .store T x y, ty, pos, af, g⟩ w0 env H (fun _ H'' => H'' = sl E sz enc (some ⟨b, off, none⟩) c (xs.set i y0) :: H') := Ac.of_skip fun ρ w r s => by
 have st := s.take t
 obtain ⟨h, le, h1, h2, dd, rfl, hs, hl'⟩ := st.heap
 rcases hs with ⟨h0, -, -⟩ | ⟨b', off', cells, hb, hpt, hlen, hroom, hxs⟩
 · cases h0
 · cases hb
   have hil : i < xs.length := (List.getElem?_eq_some_iff.1 hi).1
   have hfo : fo + vs.length ≤ sz := by have := lay_le _ _ _ _ hl; rwa [e.len] at this
   have hmul : i * sz + sz ≤ c * sz := by rw [← Nat.succ_mul]; exact Nat.mul_le_mul_right _ (by omega)
   have s1 : Sat w0 w (cl b E cells.toList :: H') := ⟨st.os, st.tape, st.output, st.size, _, le, h1, h2, dd, rfl, by simpa [cl] using hpt, hl'⟩
   obtain ⟨ds, g1, g2, g3, g4⟩ := lay_ex cells.toList o vs (by simp; omega)
   obtain ⟨w', hw, s'⟩ := run_stores (P := P) vs 0 o cells.toList ds w s1 (by simpa using hp) (by simpa using g1)
   obtain ⟨l1, l2⟩ := lay_at _ _ _ _ hl
   refine ⟨_, w', ?_, rfl, s'.ent fun hh hc => .inr ⟨b, off, ds.toArray, rfl, hc, by simpa using hlen, by simp [g2]; exact hroom, fun j u hj m q hq => ?_⟩⟩
   · show ((do Instr.storeAt T (ρ x) (ρ y); pure Next.skip : Sem Next)).run P w = _
     rw [r.eval hx, r.eval hy]
     simp only [Instr.storeAt, Instr.sureAddr, storeVar, Sem.run_bind, Sem.run_pure, hsz.run, Result.andThen_ok, hv]
     simp only [List.size_toArray, hk, ne_eq, not_true, if_false, Sem.run_bind, Sem.run_pure, Result.andThen_ok, hw]
   · have hm : m < sz := by rw [← e.len u]; exact (List.getElem?_eq_some_iff.1 hq).1
     simp only [List.getElem?_toArray]
     by_cases hij : j = i
     · subst hij
       rw [List.getElem?_set_self hil] at hj
       cases hj
       by_cases hin : fo ≤ m ∧ m < fo + vs.length
       · have hvm : vs[m - fo]? = some q := by
           have hlt : m - fo < vs.length := by omega
           have := l1 (m - fo) vs[m - fo] (by simp [hlt])
           rw [show fo + (m - fo) = m by omega, hq] at this
           rw [List.getElem?_eq_getElem hlt, ← Option.some.inj this]
         have := g3 (m - fo) q hvm
         rwa [show o + (m - fo) = off + (j * sz + m) by omega] at this
       · rw [g4 _ (by omega)]
         have := l2 m (by omega)
         rw [hq] at this
         have := hxs j x0 hi m q this.symm
         simpa using this
     · rw [List.getElem?_set_ne (fun h => hij h.symm)] at hj
       have := hxs j u hj m q hq
       rw [g4 _ ?_]
       · simpa using this
       · rcases Nat.lt_or_gt_of_ne hij with hlt | hlt
         · left
           have : (j + 1) * sz ≤ i * sz := Nat.mul_le_mul_right _ hlt
           rw [Nat.succ_mul] at this; omega
         · right
           have : (i + 1) * sz ≤ j * sz := Nat.mul_le_mul_right _ hlt
           rw [Nat.succ_mul] at this; omega
theorem pu_conv {x : Operand} {S T : TypeId} {ds : TypeDesc} {k k' : IntKind} {i : Int} (hs : P.underlying S = some ds) (ht : P.underlying T = some (.int k)) (hx : ev env x = some (.int k' i)) :
   Pu P ⟨d, .convert S T x, ty, pos, af, g⟩ env (.int k (k.wrap i)) := fun ρ w e => by
 refine run_v (s := convert S T (ρ x)) ?_
 rw [e.eval hx]
 unfold convert
 simp only [Sem.run_bind, run_underlying hs, run_underlying ht, Result.andThen_ok]; rfl
variable {x y : Operand} {T T' : TypeId} {k : IntKind} {i j : Int}
theorem pu_addS {s t : ByteArray} (hl : s.size + t.size ≤ 9223372036854775807) (h : ev env x = some (.string s)) (h' : ev env y = some (.string t)) : Pu P ⟨d, .binOp .add T x y T', ty, pos, af, g⟩ env (.string (s ++ t)) := fun ρ w e => by
 refine run_v (s := do eqGuard .add T x y (ρ x) (ρ y); binOp .add T (ρ x) (ρ y)) ?_
 rw [e.eval h, e.eval h']
 have hg : (eqGuard .add T x y (.string s) (.string t)).run P w = .ok () w := rfl
 simp only [Sem.run_bind, hg, Result.andThen_ok]
 show (Op.stringOp .add s t).run P w = _
 unfold Op.stringOp
 have hm : IntKind.i64.max = 9223372036854775807 := by decide
 simp only [hm]
 rw [if_neg (by omega)]; rfl
end
end Go.Sl
namespace Go.Proofs.YtklgiidfompdpaaGreatDoor
open Go Go.Sl
set_option maxRecDepth 100000
theorem na_3 : NA Tryz.prog 3 := ⟨Tryz.isAgg3⟩
theorem na_9 : NA Tryz.prog 9 := ⟨Tryz.isAgg9⟩
theorem na_23 : NA Tryz.prog 23 := ⟨Tryz.isAgg23⟩
theorem sz_23 : SZ Tryz.prog 23 1 := ⟨Tryz.sizeOf23⟩
theorem zv_23 : ZV Tryz.prog 23 (.slice none 0 0) := ⟨fun w => Tryz.zeroValue23 w⟩
theorem et_23 : ET Tryz.prog 23 9 1 16 := ET.mk' Tryz.underlying23 Tryz.typeInfo9 rfl rfl rfl rfl
theorem se_23 : SE Tryz.prog 23 1 := ⟨⟨9, Tryz.underlying23, Tryz.sizeOf9⟩⟩
theorem na_24 : NA Tryz.prog 24 := ⟨Tryz.isAgg24⟩
theorem et_24 : ET Tryz.prog 24 26 4 64 := ET.mk' Tryz.underlying24 Tryz.typeInfo26 rfl rfl rfl rfl
theorem se_24 : SE Tryz.prog 24 4 := ⟨⟨26, Tryz.underlying24, Tryz.sizeOf26⟩⟩
theorem ag_26 : AG Tryz.prog 26 4 := ⟨Tryz.isAgg26, Tryz.sizeOf26⟩
theorem sz_26 : SZ Tryz.prog 26 4 := ⟨Tryz.sizeOf26⟩
theorem zv_26 : ZV Tryz.prog 26 (.agg #[.int .i64 0, .int .i64 0, .slice none 0 0, .slice none 0 0]) := ⟨fun w => Tryz.zeroValue26 w⟩
theorem fa_26_0 : FA Tryz.prog 26 0 0 := FA.mk' Tryz.underlying26 rfl rfl Tryz.sizeOf3
theorem fa_26_1 : FA Tryz.prog 26 1 1 := FA.mk' Tryz.underlying26 rfl rfl Tryz.sizeOf3
theorem fa_26_2 : FA Tryz.prog 26 2 2 := FA.mk' Tryz.underlying26 rfl rfl Tryz.sizeOf23
theorem fa_26_3 : FA Tryz.prog 26 3 3 := FA.mk' Tryz.underlying26 rfl rfl Tryz.sizeOf24
theorem bd_26 : BD Tryz.prog 26 [(0, 1), (1, 1), (2, 1), (3, 1)] [.int .i64 0, .int .i64 0, .slice none 0 0, .slice none 0 0] := BD.mk' Tryz.underlying26 Tryz.zeroValue26 ⟨rfl, Tryz.sizeOf3, rfl, Tryz.sizeOf3, rfl, Tryz.sizeOf23, rfl, Tryz.sizeOf24, trivial⟩
theorem ag_28 : AG Tryz.prog 28 2 := ⟨Tryz.isAgg28, Tryz.sizeOf28⟩
theorem sz_28 : SZ Tryz.prog 28 2 := ⟨Tryz.sizeOf28⟩
theorem zv_28 : ZV Tryz.prog 28 (.agg #[.int .i64 0, .int .i64 0]) := ⟨fun w => Tryz.zeroValue28 w⟩
theorem fa_28_0 : FA Tryz.prog 28 0 0 := FA.mk' Tryz.underlying28 rfl rfl Tryz.sizeOf3
theorem fa_28_1 : FA Tryz.prog 28 1 1 := FA.mk' Tryz.underlying28 rfl rfl Tryz.sizeOf3
theorem bd_28 : BD Tryz.prog 28 [(0, 1), (1, 1)] [.int .i64 0, .int .i64 0] := BD.mk' Tryz.underlying28 Tryz.zeroValue28 ⟨rfl, Tryz.sizeOf3, rfl, Tryz.sizeOf3, trivial⟩
theorem ag_30 : AG Tryz.prog 30 2 := ⟨Tryz.isAgg30, Tryz.sizeOf30⟩
theorem fa_30_0 : FA Tryz.prog 30 0 0 := FA.mk' Tryz.underlying30 rfl rfl Tryz.sizeOf3
theorem fa_30_1 : FA Tryz.prog 30 1 1 := FA.mk' Tryz.underlying30 rfl rfl Tryz.sizeOf3
theorem ag_32 : AG Tryz.prog 32 5 := ⟨Tryz.isAgg32, Tryz.sizeOf32⟩
theorem sz_32 : SZ Tryz.prog 32 5 := ⟨Tryz.sizeOf32⟩
theorem zv_32 : ZV Tryz.prog 32 (.agg #[.int .i64 0, .int .i64 0, .int .i64 0, .int .i64 0, .string ⟨#[]⟩]) := ⟨fun w => Tryz.zeroValue32 w⟩
theorem fa_32_0 : FA Tryz.prog 32 0 0 := FA.mk' Tryz.underlying32 rfl rfl Tryz.sizeOf28
theorem fg_32_0 : FG Tryz.prog 32 0 0 2 := FG.mk' Tryz.underlying32 rfl rfl Tryz.isAgg28 Tryz.sizeOf28
theorem fa_32_1 : FA Tryz.prog 32 1 2 := FA.mk' Tryz.underlying32 rfl rfl Tryz.sizeOf30
theorem fa_32_2 : FA Tryz.prog 32 2 4 := FA.mk' Tryz.underlying32 rfl rfl Tryz.sizeOf9
theorem bd_32 : BD Tryz.prog 32 [(0, 2), (2, 2), (4, 1)] [.int .i64 0, .int .i64 0, .int .i64 0, .int .i64 0, .string ⟨#[]⟩] := BD.mk' Tryz.underlying32 Tryz.zeroValue32 ⟨rfl, Tryz.sizeOf28, rfl, Tryz.sizeOf30, rfl, Tryz.sizeOf9, trivial⟩
theorem ag_34 : AG Tryz.prog 34 10 := ⟨Tryz.isAgg34, Tryz.sizeOf34⟩
theorem fa_34_0 : FA Tryz.prog 34 0 0 := FA.mk' Tryz.underlying34 rfl rfl Tryz.sizeOf26
theorem fa_34_1 : FA Tryz.prog 34 1 4 := FA.mk' Tryz.underlying34 rfl rfl Tryz.sizeOf3
theorem fa_34_2 : FA Tryz.prog 34 2 5 := FA.mk' Tryz.underlying34 rfl rfl Tryz.sizeOf32
theorem bd_34 : BD Tryz.prog 34 [(0, 4), (4, 1), (5, 5)] [.int .i64 0, .int .i64 0, .slice none 0 0, .slice none 0 0, .int .i64 0, .int .i64 0, .int .i64 0, .int .i64 0, .int .i64 0, .string ⟨#[]⟩] := BD.mk' Tryz.underlying34 Tryz.zeroValue34 ⟨rfl, Tryz.sizeOf26, rfl, Tryz.sizeOf3, rfl, Tryz.sizeOf32, trivial⟩
theorem na_38 : NA Tryz.prog 38 := ⟨Tryz.isAgg38⟩
theorem et_41 : ET Tryz.prog 41 32 5 48 := ET.mk' Tryz.underlying41 Tryz.typeInfo32 rfl rfl rfl rfl
theorem se_41 : SE Tryz.prog 41 5 := ⟨⟨32, Tryz.underlying41, Tryz.sizeOf32⟩⟩
theorem na_48 : NA Tryz.prog 48 := ⟨Tryz.isAgg48⟩
theorem sz_48 : SZ Tryz.prog 48 1 := ⟨Tryz.sizeOf48⟩
theorem et_48 : ET Tryz.prog 48 28 2 16 := ET.mk' Tryz.underlying48 Tryz.typeInfo28 rfl rfl rfl rfl
theorem se_48 : SE Tryz.prog 48 2 := ⟨⟨28, Tryz.underlying48, Tryz.sizeOf28⟩⟩
theorem na_72 : NA Tryz.prog 72 := ⟨Tryz.isAgg72⟩
theorem na_74 : NA Tryz.prog 74 := ⟨Tryz.isAgg74⟩
theorem fa_76_0 : FA Tryz.prog 76 0 0 := FA.mk' Tryz.underlying76 rfl rfl Tryz.sizeOf72
theorem fa_76_1 : FA Tryz.prog 76 1 1 := FA.mk' Tryz.underlying76 rfl rfl Tryz.sizeOf74
theorem bd_76 : BD Tryz.prog 76 [(0, 1), (1, 1)] [.pointer none, .map none] := BD.mk' Tryz.underlying76 Tryz.zeroValue76 ⟨rfl, Tryz.sizeOf72, rfl, Tryz.sizeOf74, trivial⟩
theorem na_80 : NA Tryz.prog 80 := ⟨Tryz.isAgg80⟩
theorem na_83 : NA Tryz.prog 83 := ⟨Tryz.isAgg83⟩
theorem et_83 : ET Tryz.prog 83 98 2 24 := ET.mk' Tryz.underlying83 Tryz.typeInfo98 rfl rfl rfl rfl
theorem se_83 : SE Tryz.prog 83 2 := ⟨⟨98, Tryz.underlying83, Tryz.sizeOf98⟩⟩
theorem na_89 : NA Tryz.prog 89 := ⟨Tryz.isAgg89⟩
theorem na_90 : NA Tryz.prog 90 := ⟨Tryz.isAgg90⟩
theorem fa_92_0 : FA Tryz.prog 92 0 0 := FA.mk' Tryz.underlying92 rfl rfl Tryz.sizeOf89
theorem fa_92_1 : FA Tryz.prog 92 1 1 := FA.mk' Tryz.underlying92 rfl rfl Tryz.sizeOf90
theorem bd_92 : BD Tryz.prog 92 [(0, 1), (1, 1)] [.map none, .map none] := BD.mk' Tryz.underlying92 Tryz.zeroValue92 ⟨rfl, Tryz.sizeOf89, rfl, Tryz.sizeOf90, trivial⟩
theorem na_94 : NA Tryz.prog 94 := ⟨Tryz.isAgg94⟩
theorem zv_94 : ZV Tryz.prog 94 (.slice none 0 0) := ⟨fun w => Tryz.zeroValue94 w⟩
theorem et_94 : ET Tryz.prog 94 106 3 40 := ET.mk' Tryz.underlying94 Tryz.typeInfo106 rfl rfl rfl rfl
theorem se_94 : SE Tryz.prog 94 3 := ⟨⟨106, Tryz.underlying94, Tryz.sizeOf106⟩⟩
theorem na_96 : NA Tryz.prog 96 := ⟨Tryz.isAgg96⟩
theorem ag_98 : AG Tryz.prog 98 2 := ⟨Tryz.isAgg98, Tryz.sizeOf98⟩
theorem sz_98 : SZ Tryz.prog 98 2 := ⟨Tryz.sizeOf98⟩
theorem zv_98 : ZV Tryz.prog 98 (.agg #[.string ⟨#[]⟩, .int .i64 0]) := ⟨fun w => Tryz.zeroValue98 w⟩
theorem fa_98_0 : FA Tryz.prog 98 0 0 := FA.mk' Tryz.underlying98 rfl rfl Tryz.sizeOf9
theorem fa_98_1 : FA Tryz.prog 98 1 1 := FA.mk' Tryz.underlying98 rfl rfl Tryz.sizeOf3
theorem bd_98 : BD Tryz.prog 98 [(0, 1), (1, 1)] [.string ⟨#[]⟩, .int .i64 0] := BD.mk' Tryz.underlying98 Tryz.zeroValue98 ⟨rfl, Tryz.sizeOf9, rfl, Tryz.sizeOf3, trivial⟩
theorem na_99 : NA Tryz.prog 99 := ⟨Tryz.isAgg99⟩
theorem sz_99 : SZ Tryz.prog 99 1 := ⟨Tryz.sizeOf99⟩
theorem zv_99 : ZV Tryz.prog 99 (.slice none 0 0) := ⟨fun w => Tryz.zeroValue99 w⟩
theorem et_99 : ET Tryz.prog 99 3 1 8 := ET.mk' Tryz.underlying99 Tryz.typeInfo3 rfl rfl rfl rfl
theorem se_99 : SE Tryz.prog 99 1 := ⟨⟨3, Tryz.underlying99, Tryz.sizeOf3⟩⟩
theorem ag_106 : AG Tryz.prog 106 3 := ⟨Tryz.isAgg106, Tryz.sizeOf106⟩
theorem sz_106 : SZ Tryz.prog 106 3 := ⟨Tryz.sizeOf106⟩
theorem zv_106 : ZV Tryz.prog 106 (.agg #[.int .i64 0, .int .i64 0, .slice none 0 0]) := ⟨fun w => Tryz.zeroValue106 w⟩
theorem fa_106_0 : FA Tryz.prog 106 0 0 := FA.mk' Tryz.underlying106 rfl rfl Tryz.sizeOf28
theorem fa_106_1 : FA Tryz.prog 106 1 2 := FA.mk' Tryz.underlying106 rfl rfl Tryz.sizeOf99
theorem bd_106 : BD Tryz.prog 106 [(0, 2), (2, 1)] [.int .i64 0, .int .i64 0, .slice none 0 0] := BD.mk' Tryz.underlying106 Tryz.zeroValue106 ⟨rfl, Tryz.sizeOf28, rfl, Tryz.sizeOf99, trivial⟩
theorem et_120 : ET Tryz.prog 120 94 1 24 := ET.mk' Tryz.underlying120 Tryz.typeInfo94 rfl rfl rfl rfl
theorem se_120 : SE Tryz.prog 120 1 := ⟨⟨94, Tryz.underlying120, Tryz.sizeOf94⟩⟩
theorem ag_148 : AG Tryz.prog 148 6 := ⟨Tryz.isAgg148, Tryz.sizeOf148⟩
theorem fa_148_0 : FA Tryz.prog 148 0 0 := FA.mk' Tryz.underlying148 rfl rfl Tryz.sizeOf32
theorem fa_148_1 : FA Tryz.prog 148 1 5 := FA.mk' Tryz.underlying148 rfl rfl Tryz.sizeOf83
theorem bd_148 : BD Tryz.prog 148 [(0, 5), (5, 1)] [.int .i64 0, .int .i64 0, .int .i64 0, .int .i64 0, .string ⟨#[]⟩, .slice none 0 0] := BD.mk' Tryz.underlying148 Tryz.zeroValue148 ⟨rfl, Tryz.sizeOf32, rfl, Tryz.sizeOf83, trivial⟩
theorem ag_152 : AG Tryz.prog 152 5 := ⟨Tryz.isAgg152, Tryz.sizeOf152⟩
theorem sz_152 : SZ Tryz.prog 152 5 := ⟨Tryz.sizeOf152⟩
theorem zv_152 : ZV Tryz.prog 152 (.agg #[.int .i64 0, .int .i64 0, .int .i64 0, .int .i64 0, .int .i64 0]) := ⟨fun w => Tryz.zeroValue152 w⟩
theorem fa_152_0 : FA Tryz.prog 152 0 0 := FA.mk' Tryz.underlying152 rfl rfl Tryz.sizeOf3
theorem fa_152_1 : FA Tryz.prog 152 1 1 := FA.mk' Tryz.underlying152 rfl rfl Tryz.sizeOf3
theorem fa_152_2 : FA Tryz.prog 152 2 2 := FA.mk' Tryz.underlying152 rfl rfl Tryz.sizeOf3
theorem fa_152_3 : FA Tryz.prog 152 3 3 := FA.mk' Tryz.underlying152 rfl rfl Tryz.sizeOf3
theorem fa_152_4 : FA Tryz.prog 152 4 4 := FA.mk' Tryz.underlying152 rfl rfl Tryz.sizeOf3
theorem bd_152 : BD Tryz.prog 152 [(0, 1), (1, 1), (2, 1), (3, 1), (4, 1)] [.int .i64 0, .int .i64 0, .int .i64 0, .int .i64 0, .int .i64 0] := BD.mk' Tryz.underlying152 Tryz.zeroValue152 ⟨rfl, Tryz.sizeOf3, rfl, Tryz.sizeOf3, rfl, Tryz.sizeOf3, rfl, Tryz.sizeOf3, rfl, Tryz.sizeOf3, trivial⟩
theorem mixed : Tryz.prog.follows .mixedOrders = true := by kernel_rfl
end Go.Proofs.YtklgiidfompdpaaGreatDoor
namespace Go.Sl
open Go
section
variable {P : Program} {n : Nat} {w0 : World} {env : Env} {H : List HProp} {d : Option Tmp} {x y z : Operand} {T T' ty : TypeId} {pos : String} {af : Array Edge} {g : Option (Nat × Bool)}
theorem pu_max {k k' : IntKind} {i j : Int} {ts : Array TypeId} (h : ev env x = some (.int k i)) (h' : ev env y = some (.int k' j)) : Pu P ⟨d, .call ⟨.builtin .max, #[x, y], ts⟩, ty, pos, af, g⟩ env (.int k (max i j)) := fun ρ w e => by
 have hm : (if j > i then j else i) = max i j := by split <;> omega
 have := run_max_int2 (P := P) (w := w) ts ty k k' i j
 simp [execOp, resolve, invoke, builtin, e.eval h, e.eval h', this, go_sem, hm]
theorem pu_min {k k' : IntKind} {i j : Int} {ts : Array TypeId} (h : ev env x = some (.int k i)) (h' : ev env y = some (.int k' j)) : Pu P ⟨d, .call ⟨.builtin .min, #[x, y], ts⟩, ty, pos, af, g⟩ env (.int k (min i j)) := fun ρ w e => by
 have hm : (if j < i then j else i) = min i j := by split <;> omega
 have := run_min_int2 (P := P) (w := w) ts ty k k' i j
 simp [execOp, resolve, invoke, builtin, e.eval h, e.eval h', this, go_sem, hm]
theorem equal_slice_nil {t e : TypeId} (w : World) (a : Option Addr) (n c n' c' : Nat) (h : P.underlying t = some (.slice e)) : (Op.equal t (.slice a n c) (.slice none n' c')).run P w = .ok a.isNone w := by
 have : ∀ d : Nat, (Op.equalIn (d + 1) t (.slice a n c) (.slice none n' c')).run P w = .ok a.isNone w := fun d => by
   cases a <;> simp [Op.equalIn, run_underlying h]
 exact this 9999
theorem pu_eqL {E l c l' c' : Nat} {a : Option Addr} (ht : P.underlying T = some (.slice E)) (h : ev env x = some (.slice a l c)) (h' : ev env y = some (.slice none l' c')) : Pu P ⟨d, .binOp .eql T x y T', ty, pos, af, g⟩ env (.bool a.isNone) := fun ρ w e => by
 refine run_v (s := do eqGuard .eql T x y (ρ x) (ρ y); binOp .eql T (ρ x) (ρ y)) ?_
 rw [e.eval h, e.eval h']
 have : (do eqGuard .eql T x y (.slice a l c) (.slice none l' c'); binOp .eql T (.slice a l c) (.slice none l' c') : Sem Value) = (do pure (.bool (← Op.equal T (.slice a l c) (.slice none l' c')))) := by cases a <;> rfl
 rw [this]; simp only [Sem.run_bind, equal_slice_nil w a l c l' c' ht, Result.andThen_ok]; rfl
end
section
variable {α : Type} {w0 : World} {n : Nat} {env : Env} {H : List HProp} {X : Act → World → Prop}
end
end Go.Sl
namespace Go.Sl
open Go Go.Sort Go.Shelf Go.Proofs
variable {α : Type} {w0 w : World} {L : List HProp} {E sz : Nat} {enc : α → List Value} {b off c : Nat} {xs : List α}
theorem sl_block (s : Sat w0 w (sl E sz enc (some ⟨b, off, none⟩) c xs :: L)) : ∃ cells, Sat w0 w (pt b (.cells cells E (0, 0)) :: L) ∧ w.heap[b]? = some (.cells cells E (0, 0)) ∧ xs.length ≤ c ∧ off + c * sz ≤ cells.size ∧
   ∀ i x, xs[i]? = some x → ∀ j v, (enc x)[j]? = some v → cells[off + (i * sz + j)]? = some v := by
 obtain ⟨h, le, h1, h2, d, rfl, hs, hl⟩ := s.heap
 rcases hs with ⟨h0, -, -⟩ | ⟨b', off', cells, hb, hp, h3, h4, h5⟩
 · cases h0
 · cases hb
   have s1 : Sat w0 w (pt b (.cells cells E (0, 0)) :: L) := ⟨s.os, s.tape, s.output, s.size, _, le, h1, h2, d, rfl, hp, hl⟩
   exact ⟨cells, s1, s1.pt, h3, h4, h5⟩
variable [Inhabited α]
theorem sl_holds (e : EncOk sz enc) (s : Sat w0 w (sl E sz enc (some ⟨b, off, none⟩) c xs :: L)) : HoldsK enc sz w b off xs.toArray ∧ b < w.heap.size := by
 obtain ⟨cells, -, hb, h3, h4, h5⟩ := sl_block s
 refine ⟨fun j hj => ?_, (Array.getElem?_eq_some_iff.1 hb).1⟩
 rw [size_flatK] at hj
 rw [id, get_flatK _ _ _ _ hj]
 simp only [List.size_toArray] at hj
 have hz : 0 < sz := by rcases Nat.eq_zero_or_pos sz with h | h
                        · rw [h] at hj; simp at hj
                        · exact h
 have hi : j / sz < xs.length := Nat.div_lt_of_lt_mul (by rw [Nat.mul_comm]; exact hj)
 have hm : j % sz < sz := Nat.mod_lt _ hz
 have hx : xs[j / sz]? = some xs[j / sz] := by simp [hi]
 have hv : (enc xs[j / sz])[j % sz]? = some ((enc xs[j / sz])[j % sz]'(by rw [e.len]; exact hm)) := by simp [e.len, hm]
 have hc := h5 _ _ hx _ _ hv
 have hdm : j / sz * sz + j % sz = j := by rw [Nat.mul_comm]; exact Nat.div_add_mod j sz
 rw [hdm] at hc
 have e1 : xs.toArray[j / sz]! = xs[j / sz] := by rw [getElem!_pos _ _ (by simpa using hi)]; simp
 have e2 : (enc xs[j / sz])[j % sz]! = (enc xs[j / sz])[j % sz]'(by rw [e.len]; exact hm) := getElem!_pos ..
 refine ⟨?_, by simp [World.frozen?, hb]⟩
 rw [e1, e2]
 simpa [World.cell?, hb] using hc
theorem sl_sorted {ys : List α} {n : Nat} {os : Array Obj} (e : EncOk sz enc) (hl : ys.length = xs.length) (s : Sat w0 w (sl E sz enc (some ⟨b, off, none⟩) c xs :: L)) :
   Sat w0 (grow (putRowK enc sz (Sort.ahead w n) b off ys.toArray) os) (sl E sz enc (some ⟨b, off, none⟩) c ys :: L) := by
 obtain ⟨cells, s1, hb, h3, h4, h5⟩ := sl_block s
 have hblt := (Array.getElem?_eq_some_iff.1 hb).1
 have hsz : (putRowK enc sz (Sort.ahead w n) b off ys.toArray).heap.size = w.heap.size := by simp [putRowK, putRow, mapBlock, Sort.ahead]
 have hnew : (grow (putRowK enc sz (Sort.ahead w n) b off ys.toArray) os).heap[b]? = some (.cells (putCells id off (flatK enc sz ys.toArray) cells) E (0, 0)) := by
   rw [heap_grow_old _ _ (by rw [hsz]; exact hblt)]
   simp [putRowK, putRow, mapBlock, Sort.ahead, Array.getElem?_modify, hb, onCells]
 have hold : ∀ k, k ≠ b → k < w.heap.size → (grow (putRowK enc sz (Sort.ahead w n) b off ys.toArray) os).heap[k]? = w.heap[k]? := fun k hk hlt => by
   rw [heap_grow_old _ _ (by rw [hsz]; exact hlt)]
   have : b ≠ k := fun e => hk e.symm
   simp [putRowK, putRow, mapBlock, Sort.ahead, Array.getElem?_modify, this]
 refine (s1.write (w' := grow (putRowK enc sz (Sort.ahead w n) b off ys.toArray) os) rfl rfl rfl (by show w.heap.size ≤ ((putRowK enc sz (Sort.ahead w n) b off ys.toArray).heap ++ os).size; rw [Array.size_append, hsz]; omega) hnew hold).ent fun hh hp => .inr ⟨b, off, _, rfl, hp, by omega, by simpa [putCells] using h4, fun i y hi j v hj => ?_⟩
 have hil : i < ys.length := (List.getElem?_eq_some_iff.1 hi).1
 have hjl : j < sz := by rw [← e.len y]; exact (List.getElem?_eq_some_iff.1 hj).1
 have hmul : i * sz + sz ≤ ys.length * sz := by rw [← Nat.succ_mul]; exact Nat.mul_le_mul_right _ hil
 have hmul2 : ys.length * sz ≤ c * sz := Nat.mul_le_mul_right _ (by omega)
 have hpos : off + (i * sz + j) < cells.size := by omega
 simp only [putCells, Array.getElem?_mapIdx]
 rw [Array.getElem?_eq_getElem hpos]
 simp only [Option.map_some, size_flatK, List.size_toArray]
 rw [if_pos ⟨by omega, by omega⟩, Nat.add_sub_cancel_left, id, get_flatK _ _ _ _ (by simp; omega)]
 have hd1 : (i * sz + j) / sz = i := by rw [Nat.mul_comm, Nat.mul_add_div (by omega), Nat.div_eq_of_lt hjl, Nat.add_zero]
 have hd2 : (i * sz + j) % sz = j := by rw [Nat.mul_comm, Nat.mul_add_mod, Nat.mod_eq_of_lt hjl]
 rw [hd1, hd2]
 have e1 : ys.toArray[i]! = y := by
   rw [getElem!_pos _ _ (by simpa using hil)]
   simpa [hil] using hi
 rw [e1]
 obtain ⟨hjl', hje⟩ := List.getElem?_eq_some_iff.1 hj
 rw [getElem!_pos (enc y) j hjl', hje]
end Go.Sl
namespace Go.Sl
open Go
variable {P : Program} {w0 : World} {n : Nat} {env : Env} {H : List HProp}
theorem zeroCells_spec {z : Value} {zc : List Value} (hz : z.cells = zc.toArray) (hne : zc ≠ []) (m : Nat) : (Builtin.zeroCells z.cells m).toList.length = m * zc.length ∧ ∀ v ∈ (Builtin.zeroCells z.cells m).toList, v ∈ zc := by
 have hpos : 0 < zc.length := List.length_pos_iff.2 hne
 constructor
 · simp [Builtin.zeroCells, hz]
 · intro v hv
   simp only [Builtin.zeroCells, hz, Array.toList_map, List.mem_map] at hv
   obtain ⟨i, -, rfl⟩ := hv
   have hlt : i % zc.length < zc.length := Nat.mod_lt _ hpos
   simp only [List.size_toArray]
   rw [getElem!_pos zc.toArray (i % zc.length) (by simpa using hlt)]
   simp
theorem ac_clear {α : Type} {d : Option Tmp} {x : Operand} {T E sz ty c m cc : Nat} {pos : String} {af : Array Edge} {g : Option (Nat × Bool)} {enc : α → List Value} {a : Option Addr} {xs zs : List α} {z : Value} {zc : List Value} {H' : List HProp}
   (ht : P.underlying T = some (.slice E)) (zv : ZV P E z) (hz : z.cells = zc.toArray) (hp : zc.all plain = true) (hk : zc.length = sz) (h0 : 0 < sz)
   (hx : ev env x = some (.slice (suba a xs.length c sz) m cc)) (hm : m = zs.length) (e : EncOk sz enc) (t : Take (sl E sz enc a c (xs ++ zs)) H H') :
   Ac P ⟨d, .call ⟨.builtin .clear, #[x], #[T]⟩, ty, pos, af, g⟩ w0 env H (fun _ H'' => H'' = sl E sz enc a c xs :: H') := Ac.of_run fun ρ w r s => by
 have st := s.take t
 have hu : (underlying T).run P w = .ok (.slice E) w := by simp [underlying, ht, go_sem]
 have fin : ∀ w', (Builtin.clear_ #[T] ty #[.slice (suba a xs.length c sz) m cc]).run P w = .ok (.tuple #[]) w' → Sat w0 w' (sl E sz enc a c xs :: H') →
     ∃ v H'' w', (do Pure.pure (Next.value (← Builtin.clear_ #[T] ty (#[x].map ρ))) : Sem Next).run P w = .ok (.value v) w' ∧ H'' = sl E sz enc a c xs :: H' ∧ Sat w0 w' H'' := fun w' h1 h2 => by
   refine ⟨.tuple #[], _, w', ?_, rfl, h2⟩
   rw [show #[x].map ρ = #[ρ x] by simp, r.eval hx]
   exact run_v h1
 cases m with
 | zero =>
   refine fin w ?_ (st.ent sl_pre)
   simp only [Builtin.clear_, List.getElem?_toArray, List.getElem?_cons_zero, Sem.run_bind, hu, Result.andThen_ok]
   cases hsu : suba a xs.length c sz <;> simp [go_sem]
 | succ m =>
   obtain ⟨h, le, h1, h2, dd, rfl, hs, hl'⟩ := st.heap
   rcases hs with ⟨-, h0, -⟩ | ⟨b, off, cells, rfl, hpt, hlen, hroom, hxs⟩
   · have := (List.append_eq_nil_iff.1 h0).2; subst this; simp at hm
   · rw [List.length_append] at hlen
     have hsub : suba (some ⟨b, off, none⟩) xs.length c sz = some ⟨b, off + xs.length * sz, none⟩ := suba_some (by omega)
     have hne : zc ≠ [] := by rintro rfl; simp at hk; omega
     obtain ⟨z1, z2⟩ := zeroCells_spec hz hne (m + 1)
     have hfit : off + xs.length * sz + (Builtin.zeroCells z.cells (m + 1)).toList.length ≤ cells.toList.length := by
       rw [z1, hk, Nat.add_assoc, ← Nat.add_mul, Array.length_toList (xs := cells)]
       exact Nat.le_trans (Nat.add_le_add_left (Nat.mul_le_mul_right _ (by omega)) _) hroom
     have s1 : Sat w0 w (cl b E cells.toList :: H') := ⟨st.os, st.tape, st.output, st.size, _, le, h1, h2, dd, rfl, by simpa [cl] using hpt, hl'⟩
     obtain ⟨ds, g1, g2, g3, g4⟩ := lay_ex cells.toList (off + xs.length * sz) _ hfit
     obtain ⟨w', hw, s'⟩ := run_stores (P := P) _ 0 (off + xs.length * sz) cells.toList ds w s1 (fun v hv => List.all_eq_true.1 hp v (z2 v hv)) (by simpa using g1)
     refine fin w' ?_ (s'.ent fun hh hc => .inr ⟨b, off, ds.toArray, rfl, hc, by omega, by simp [g2]; exact hroom, fun j u hj q v hv => ?_⟩)
     · rw [hsub]
       simp only [Builtin.clear_, List.getElem?_toArray, List.getElem?_cons_zero, Sem.run_bind, hu, Result.andThen_ok, zv.run, hw, Sem.run_pure]
     · have hjl : j < xs.length := (List.getElem?_eq_some_iff.1 hj).1
       have hq : q < sz := by rw [← e.len u]; exact (List.getElem?_eq_some_iff.1 hv).1
       have := hxs j u (by rw [List.getElem?_append_left hjl]; exact hj) q v hv
       simp only [List.getElem?_toArray]
       have hmul : j * sz + sz ≤ xs.length * sz := by rw [← Nat.succ_mul]; exact Nat.mul_le_mul_right _ (by omega)
       rw [g4 _ (.inl (by omega))]; simpa using this
end Go.Sl
namespace Go.Sl
open Go
theorem plain_of_one {v : Value} (h : v.oneCell' = true) : plain v = true := by
 cases v <;> first | rfl | (simp [Value.oneCell'] at h)
section
variable {P : Program} {w0 : World} {n : Nat} {env : Env} {H : List HProp} {α : Type}
theorem pu_cap {d : Option Tmp} {x : Operand} {T E ty : TypeId} {pos : String} {af : Array Edge} {g : Option (Nat × Bool)} {a : Option Addr} {l c : Nat} (ht : P.underlying T = some (.slice E)) (hx : ev env x = some (.slice a l c)) :
   Pu P ⟨d, .call ⟨.builtin .cap, #[x], #[T]⟩, ty, pos, af, g⟩ env (.int .i64 c) := fun ρ w e => by
 have hu : (underlying T).run P w = .ok (.slice E) w := by simp [underlying, ht, go_sem]
 simp [execOp, resolve, invoke, builtin, Builtin.cap_, e.eval hx, hu, go_sem, goInt]
theorem SlH.cutS {sz b o : Nat} {enc : α → List Value} {xs : List α} (S : SlH w0 H sz enc (some ⟨b, o, none⟩) xs) (i c : Nat) (hi : i < c) (hc : xs.length ≤ c) : SlH w0 H sz enc (some ⟨b, o + i * sz, none⟩) (xs.drop i) := by
 have h := S.cutL i c hc
 rwa [suba_some (by omega)] at h
theorem getElem?_put {xs ys : List α} {p i : Nat} {y : α} (hp : p ≤ xs.length) (h : (xs.take p ++ ys ++ xs.drop (p + ys.length))[i]? = some y) :
   (∃ k, i = p + k ∧ ys[k]? = some y) ∨ ((i < p ∨ p + ys.length ≤ i) ∧ xs[i]? = some y) := by
 have hl : (xs.take p).length = p := by rw [List.length_take]; omega
 rcases append_getElem? h with h | ⟨k, rfl, h2⟩
 · rcases append_getElem? h with h | ⟨k, rfl, h2⟩
   · have hi := (List.getElem?_eq_some_iff.1 h).1
     rw [List.getElem?_take] at h
     split at h
     · exact .inr ⟨.inl (by omega), h⟩
     · cases h
   · exact .inl ⟨k, by rw [hl], h2⟩
 · rw [List.getElem?_drop] at h2
   rw [List.length_append, hl]
   exact .inr ⟨.inr (by omega), h2⟩
theorem ac_cp {d : Option Tmp} {x y : Operand} {T tx E sz ty : Nat} {pos : String} {af : Array Edge} {g : Option (Nat × Bool)} {enc : α → List Value} {b off o c p dl dc sl_ sc : Nat} {xs ys : List α} {asr : Option Addr} {H' : List HProp}
   (ht : P.underlying T = some (.slice E)) (hz : SZ P E sz) (e : EncOk sz enc) (hx : ev env x = some (.slice (some ⟨b, o, none⟩) dl dc)) (ho : o = off + p * sz) (hy : ev env y = some (.slice asr sl_ sc)) (hn : ys.length = Nat.min sl_ dl)
   (t : Take (sl E sz enc (some ⟨b, off, none⟩) c xs) H H') (S : SlH w0 H sz enc asr ys) (hp : p ≤ xs.length) (hc : p + ys.length ≤ c) :
   Ac P ⟨d, .call ⟨.builtin .copy, #[x, y], #[T, tx]⟩, ty, pos, af, g⟩ w0 env H (fun v H'' => v = .int .i64 ys.length ∧ H'' = sl E sz enc (some ⟨b, off, none⟩) c (xs.take p ++ ys ++ xs.drop (p + ys.length)) :: H') := Ac.of_run fun ρ w r s => by
 have st := s.take t
 have hu : (underlying T).run P w = .ok (.slice E) w := by simp [underlying, ht, go_sem]
 have hf : (Builtin.firstCells sz ys.length (.slice asr sl_ sc)).run P w = .ok (ys.flatMap enc).toArray w := by
   by_cases h0 : ys = []
   · subst h0
     cases asr <;> simp [Builtin.firstCells, loadCells, loadCellsFrom, go_sem]
   · obtain ⟨b', off', rfl, hcell⟩ := S w s h0
     refine run_firstCells_some w sz ys.length ⟨b', off', none⟩ sl_ sc _ (e.flat ys) fun j u hj => ?_
     obtain ⟨i, j', z, rfl, hj', hz', hv⟩ := e.inv ys j u hj
     have := hcell i z hz' j' u hv
     show w.cell? _ = _
     unfold Addr.add; split
     · rename_i h; rw [h] at this; simpa using this
     · exact this
 obtain ⟨h, le, h1, h2, dd, rfl, hs, hl'⟩ := st.heap
 rcases hs with ⟨h0, -, -⟩ | ⟨b', off', cells, hb, hpt, hlen, hroom, hxs⟩
 · cases h0
 · cases hb
   have s1 : Sat w0 w (cl b E cells.toList :: H') := ⟨st.os, st.tape, st.output, st.size, _, le, h1, h2, dd, rfl, by simpa [cl] using hpt, hl'⟩
   have hfit : o + (ys.flatMap enc).length ≤ cells.toList.length := by
     rw [e.flat, ho, Nat.add_assoc, ← Nat.add_mul, Array.length_toList (xs := cells)]
     exact Nat.le_trans (Nat.add_le_add_left (Nat.mul_le_mul_right _ hc) _) hroom
   obtain ⟨ds, g1, g2, g3, g4⟩ := lay_ex cells.toList o _ hfit
   obtain ⟨w', hw, s'⟩ := run_stores (P := P) _ 0 o cells.toList ds w s1 (fun v hv => plain_of_one (e.ones ys v hv)) (by simpa using g1)
   refine ⟨_, _, w', ?_, ⟨rfl, rfl⟩, s'.ent fun hh hcc => .inr ⟨b, off, ds.toArray, rfl, hcc, ?_, by simp [g2]; exact hroom, fun i u hi j v hv => ?_⟩⟩
   · show (do Pure.pure (Next.value (← Builtin.copy_ #[T, tx] ty (#[x, y].map ρ))) : Sem Next).run P w = _
     rw [show #[x, y].map ρ = #[ρ x, ρ y] by simp, r.eval hx, r.eval hy]
     refine run_v ?_
     simp only [Builtin.copy_, Builtin.lenOf, List.getElem?_toArray, List.getElem?_cons_zero, List.getElem?_cons_succ, Sem.run_bind, Sem.run_pure, hu, hz.run, Result.andThen_ok, ← hn, hf, hw]
     rfl
   · simp only [List.length_append, List.length_take, List.length_drop]; omega
   · have hjl : j < sz := by rw [← e.len u]; exact (List.getElem?_eq_some_iff.1 hv).1
     simp only [List.getElem?_toArray]
     rcases getElem?_put hp hi with ⟨k, rfl, hk⟩ | ⟨hio, hk⟩
     · have hat := e.at ys k j u v hk hv
       have := g3 _ v hat
       rwa [show o + (k * sz + j) = off + ((p + k) * sz + j) by rw [ho, Nat.add_mul]; omega] at this
     · rw [g4 _ (by
         rw [e.flat, ho]
         rcases hio with h | h
         · left
           have : (i + 1) * sz ≤ p * sz := Nat.mul_le_mul_right _ h
           rw [Nat.succ_mul] at this; omega
         · right
           have : (p + ys.length) * sz ≤ i * sz := Nat.mul_le_mul_right _ h
           rw [Nat.add_mul] at this; omega)]
       have := hxs i u hk j v hv
       simpa using this
theorem zeros_at {z : Value} {zc : List Value} (hz : z.cells = zc.toArray) (m i j : Nat) (v : Value) (hi : i < m) (hv : zc[j]? = some v) : (Builtin.zeroCells z.cells m)[i * zc.length + j]? = some v := by
 have hj := (List.getElem?_eq_some_iff.1 hv).1
 have hlt : i * zc.length + j < m * zc.length := by
   have : (i + 1) * zc.length ≤ m * zc.length := Nat.mul_le_mul_right _ hi
   rw [Nat.succ_mul] at this; omega
 simp only [Builtin.zeroCells, hz, Array.getElem?_map, List.size_toArray, Array.getElem?_range]
 rw [if_pos hlt]
 simp only [Option.map_some]
 have hm : (i * zc.length + j) % zc.length = j := by rw [Nat.mul_comm, Nat.mul_add_mod, Nat.mod_eq_of_lt hj]
 rw [hm]
 obtain ⟨h1, h2⟩ := List.getElem?_eq_some_iff.1 hv
 rw [getElem!_pos zc.toArray j (by simpa using hj)]
 simp [h2]
theorem ac_appendZ {d : Option Tmp} {x y : Operand} {T tn E sz by_ ty k c l : Nat} {kq kn : IntKind} {pos : String} {af : Array Edge} {g : Option (Nat × Bool)} {enc : α → List Value} {a : Option Addr} {xs : List α} {z0 : α}
   (et : ET P T E sz by_) (hzv : ZV P E (.agg (enc z0).toArray) ∨ ∃ u, enc z0 = [u] ∧ ZV P E u ∧ u.cells = #[u]) (htn : P.underlying tn = some (.int kn)) (e : EncOk sz enc) (hx : ev env x = some (.slice a l c)) (hl : l = xs.length) (hy : ev env y = some (.int kq (k : Int))) (S : SlH w0 H sz enc a xs)
   (h0 : 0 < k) (hs : 0 < sz) (hg : c < xs.length + k) (hb : (xs.length + k) * by_ ≤ 140737488355328) (hm : xs.length + k ≤ 9223372036854775807) :
   Ac P ⟨d, .call ⟨.builtin .append, #[x, y], #[T, tn]⟩, ty, pos, af, g⟩ w0 env H (fun v H'' => ∃ b' c', v = .slice (some ⟨b', 0, none⟩) (xs.length + k) c' ∧ xs.length + k ≤ c' ∧ H'' = sl E sz enc (some ⟨b', 0, none⟩) c' (xs ++ List.replicate k z0) :: H) := Ac.of_run fun ρ w r s => by
 obtain ⟨i, z, ht, hi, hz, rfl, rfl, hzs⟩ := et.ex
 subst hl
 have hzc : z.cells = (enc z0).toArray := by
   have hrun : (zeroValue E).run P w = .ok z w := by simp [zeroValue, typeInfo, hi, hz, go_sem]
   rcases hzv with h | ⟨u, hu, h, huc⟩
   · have h2 := h.run w
     have h3 : Result.ok z w = .ok (.agg (enc z0).toArray) w := hrun.symm.trans h2
     cases h3; rfl
   · have h2 := h.run w
     have h3 : Result.ok z w = .ok u w := hrun.symm.trans h2
     cases h3; rw [huc, hu]
 have hold : (Builtin.firstCells i.size xs.length (.slice a xs.length c)).run P w.drew = .ok (xs.flatMap enc).toArray w.drew := by
   by_cases h0 : xs = []
   · subst h0
     cases a <;> simp [Builtin.firstCells, loadCells, loadCellsFrom, go_sem]
   · obtain ⟨b', off', rfl, hcell⟩ := S w s h0
     refine run_firstCells_some w.drew i.size xs.length ⟨b', off', none⟩ xs.length c _ (e.flat xs) fun j u hj => ?_
     obtain ⟨q, j', y', rfl, hj', hz', hv⟩ := e.inv xs j u hj
     have := hcell q y' hz' j' u hv
     show w.cell? _ = _
     unfold Addr.add; split
     · rename_i h; rw [h] at this; simpa using this
     · exact this
 have hk48 : k * i.bytes ≤ 281474976710656 := by rw [Nat.add_mul] at hb; omega
 have hrun := Lib.run_append_grow_zeros w T tn ty E i z kq kn ht htn hi hz a xs.length c _ hold k h0 hs hg (by omega) hk48 (growslice_fits hg hb)
 refine ⟨.slice (some ⟨w.heap.size, 0, none⟩) (xs.length + k) (grownCap w (xs.length + k) c E), _, w.drew.alloc (.cells ((xs.flatMap enc).toArray ++ Builtin.zeroCells z.cells k ++ Builtin.zeroCells z.cells (grownCap w (xs.length + k) c E - (xs.length + k))) E), ?_, ⟨w.heap.size, grownCap w (xs.length + k) c E, rfl, grownCap_ge .., rfl⟩, ?_⟩
 · show (do pure (Next.value (← Builtin.append_ #[T, tn] ty (#[x, y].map ρ))) : Sem Next).run P w = _
   rw [show #[x, y].map ρ = #[ρ x, ρ y] by simp, r.eval hx, r.eval hy]
   exact run_v hrun
 · have hlen : (enc z0).length = i.size := e.len z0
   have hge := grownCap_ge w (xs.length + k) c E
   have sat1 : Sat w0 w.drew H := s.drew
   refine (sat1.alloc _).ent (sl_new (by simpa using hge) ?_ ?_)
   · simp only [Array.size_append, List.size_toArray, e.flat, Builtin.zeroCells, Array.size_map, Array.size_range, hzc, hlen]
     rw [← Nat.add_mul, ← Nat.add_mul]; exact Nat.mul_le_mul_right _ (by omega)
   · intro q y' hq j v hv
     have hj : j < i.size := by rw [← e.len y']; exact (List.getElem?_eq_some_iff.1 hv).1
     rcases append_getElem? hq with hq1 | ⟨m, rfl, hq2⟩
     · have hat := e.at xs q j y' v hq1 hv
       have hlt := (List.getElem?_eq_some_iff.1 hat).1
       rw [Array.getElem?_append_left (by simp only [Array.size_append, List.size_toArray]; omega), Array.getElem?_append_left (by simpa using hlt)]
       simpa using hat
     · have hm' : m < k := by have := (List.getElem?_eq_some_iff.1 hq2).1; simpa using this
       rw [List.getElem?_replicate, if_pos hm'] at hq2
       cases hq2
       have hza := zeros_at hzc k m j v hm' hv
       rw [hlen] at hza
       have hlt := (Array.getElem?_eq_some_iff.1 hza).1
       rw [Array.getElem?_append_left (by simp only [Array.size_append, List.size_toArray, e.flat]; rw [Nat.add_mul]; omega), Array.getElem?_append_right (by simp only [List.size_toArray, e.flat]; rw [Nat.add_mul]; omega)]
       simp only [List.size_toArray, e.flat]
       rw [show (xs.length + m) * i.size + j - xs.length * i.size = m * i.size + j by rw [Nat.add_mul]; omega]
       exact hza
theorem rd_overlaps {β : Type} {d : Option Tmp} {x y : Operand} {f : FuncId} {fn : Func} {T R E sz sz' ty : Nat} {ts : Array TypeId} {pos : String} {af : Array Edge} {g : Option (Nat × Bool)} {enc : α → List Value} {enc' : β → List Value} {b o off c l lc b2 o2 off2 c2 l2 lc2 : Nat} {xs : List α} {ys : List β} {H' H'' : List HProp}
   (hf : P.funcs[f]? = some fn) (hname : (fn.name == "runtime.NumGoroutine") = false) (hb : fn.body.isNone = true) (hn : Extern.findNext fn = none) (he : Extern.find fn = some (Extern.SlicesOverlaps.overlaps #[T, T] #[R]))
   (ht : P.underlying T = some (.slice E)) (hz : SZ P E sz') (hx : ev env x = some (.slice (some ⟨b, o, none⟩) l lc)) (hy : ev env y = some (.slice (some ⟨b2, o2, none⟩) l2 lc2))
   (t : Take (sl E sz enc (some ⟨b, off, none⟩) c xs) H H') (t2 : Take (sl E sz enc' (some ⟨b2, off2, none⟩) c2 ys) H' H'') (h0 : 0 < c2 * sz) :
   Rd P ⟨d, .call ⟨.value (.func f), #[x, y], ts⟩, ty, pos, af, g⟩ w0 env H (.bool false) := fun ρ w r s => by
 have st := (s.take t).takes (As := [sl E sz enc (some ⟨b, off, none⟩) c xs, sl E sz enc' (some ⟨b2, off2, none⟩) c2 ys]) (.cons .hd (.cons t2 .nil))
 obtain ⟨h, le, h1, h2, dd, rfl, hs, h3, h4, dd2, rfl, hs2, -⟩ := st.heap
 rcases hs with ⟨e0, -, -⟩ | ⟨b', off', cells, hbe, hpt, hlen, hroom, hxs⟩
 · cases e0
 rcases hs2 with ⟨e0, -, -⟩ | ⟨b2', off2', cells2, hbe2, hpt2, hlen2, hroom2, hxs2⟩
 · cases e0
 cases hbe; cases hbe2
 have k1 : w.heap[b]? = some (.cells cells E (0, 0)) := le b _ (Hp.un_left hpt.1)
 have k2 : w.heap[b2]? = some (.cells cells2 E (0, 0)) := le b2 _ (Hp.un_right dd (Hp.un_left hpt2.1))
 have hne : b ≠ b2 := by
   rintro rfl
   have q1 := hpt.1
   have q2 : (h3.un h4) b = some (.cells cells2 E (0, 0)) := Hp.un_left hpt2.1
   rcases dd b with e | e
   · rw [q1] at e; cases e
   · rw [q2] at e; cases e
 have hsh1 : w.shape? b = some (E, cells.size) := by simp [World.shape?, k1]
 have hsh2 : w.shape? b2 = some (E, cells2.size) := by simp [World.shape?, k2]
 have hrun := Lib.run_overlaps_apart (P := P) w T R E ht sz' hz.run ⟨b, o, none⟩ ⟨b2, o2, none⟩ l lc l2 lc2 hne E E cells.size cells2.size hsh1 hsh2 (by omega) (by simp [World.frozen?, k1]) (by simp [World.frozen?, k1])
 show (do let d ← resolve ρ ⟨.value (.func f), #[x, y], ts⟩ ty; invoke d.target d.args : Sem Next).run P w = _
 have h1 : resolve ρ ⟨.value (.func f), #[x, y], ts⟩ ty = (pure ⟨.fn (.func f) #[], #[.slice (some ⟨b, o, none⟩) l lc, .slice (some ⟨b2, o2, none⟩) l2 lc2]⟩ : Sem Deferred) := by
   simp only [resolve, r.eval (x := .func f) rfl, Deferred.ofValue]
   show (pure ⟨Target.fn (.func f) #[], #[] ++ #[x, y].map ρ⟩ : Sem Deferred) = _
   rw [show #[x, y].map ρ = #[ρ x, ρ y] by simp, r.eval hx, r.eval hy]; simp
 rw [h1]
 simp only [Sem.run_bind, Sem.run_pure, Result.andThen_ok, invoke]
 have := run_callFunc_extern hf hname hb hn he #[.slice (some ⟨b, o, none⟩) l lc, .slice (some ⟨b2, o2, none⟩) l2 lc2] w
 rw [hrun] at this
 simpa using this
end
end Go.Sl
namespace Go.Sl
open Go
section
variable {w0 w : World} {n : Nat} {env : Env} {L L' M : List HProp} {A B : HProp} {X : Act → World → Prop}
theorem Sat.big : Sat w0 w (Sl.big L :: M) ↔ Sat w0 w (L ++ M) := by
 constructor
 · intro s
   refine s.imp fun h => ?_
   rintro ⟨h1, h2, d, rfl, l, m⟩
   exact big_append.2 ⟨h1, h2, d, rfl, l, m⟩
 · intro s
   refine s.imp fun h x => ?_
   obtain ⟨h1, h2, d, rfl, l, m⟩ := big_append.1 x
   exact ⟨h1, h2, d, rfl, l, m⟩
theorem take_snoc : ∀ {L : List HProp}, Take A (L ++ [A]) L
 | [] => .hd
 | _ :: _ => .tl take_snoc
theorem take_mid {L2 : List HProp} : ∀ {L1 : List HProp}, Take A (L1 ++ A :: L2) (L1 ++ L2)
 | [] => .hd
 | _ :: _ => .tl take_mid
theorem take_at : ∀ {L : List HProp} {i : Nat}, L[i]? = some A → Take A L (L.eraseIdx i)
 | [], i, h => by cases h
 | B :: L, 0, h => by simp only [List.getElem?_cons_zero, Option.some.injEq] at h; subst h; exact .hd
 | B :: L, i + 1, h => .tl (take_at (by simpa using h))
theorem take_set : ∀ {L : List HProp} {i : Nat}, i < L.length → Take A (L.set i A) (L.eraseIdx i)
 | [], i, h => by simp at h
 | B :: L, 0, h => .hd
 | B :: L, i + 1, h => .tl (take_set (by simpa using h))
theorem Sat.bigTake (t : Take A L L') (s : Sat w0 w (Sl.big L :: M)) : Sat w0 w (A :: Sl.big L' :: M) := by
 have h2 : Sat w0 w (Sl.big (A :: L') :: M) := s.ent fun _ l => t.go l
 exact (Sat.two (A := A) (B := Sl.big L')).1 h2
theorem Sat.bigBack (t : Take A L L') (s : Sat w0 w (A :: Sl.big L' :: M)) : Sat w0 w (Sl.big L :: M) := by
 have h2 : Sat w0 w (Sl.big (A :: L') :: M) := Sat.two.2 s
 exact h2.ent fun _ l => t.back l
theorem Sat.bigNil (s : Sat w0 w M) : Sat w0 w (Sl.big [] :: M) := Sat.big.2 s
theorem Gs.bigTake (t : Take A L L') (g : Gs w0 n env (A :: Sl.big L' :: M) X) : Gs w0 n env (Sl.big L :: M) X := fun a w e s => g a w e (s.bigTake t)
theorem Gs.bigBack (t : Take A L L') (g : Gs w0 n env (Sl.big L :: M) X) : Gs w0 n env (A :: Sl.big L' :: M) X := fun a w e s => g a w e (s.bigBack t)
theorem Gs.bigNil (g : Gs w0 n env (Sl.big [] :: M) X) : Gs w0 n env M X := fun a w e s => g a w e s.bigNil
theorem Ct.two {P : Program} {f : FuncId} {args : List Value} {post : Value → List HProp → Prop} (c : Ct P f args [Sl.two A B] post) (h : ∀ v hs, post v hs → ∃ r, hs = Sl.two A B :: r) : Ct P f args [A, B] (fun v hs => ∃ r, post v (Sl.two A B :: r) ∧ hs = A :: B :: r) :=
 ⟨c.enters, fun w0 w R s => (c.calls w0 w R (Sat.two.2 s)).mono fun _ _ ⟨v, hs, he, hp, hsat⟩ => by
   obtain ⟨r, rfl⟩ := h v hs hp
   exact ⟨v, _, he, ⟨r, hp, rfl⟩, Sat.two.1 hsat⟩⟩
theorem Srd.two1 {α : Type} {sz : Nat} {enc : α → List Value} {a : Option Addr} {xs : List α} (S : Srd A sz enc a xs) : Srd (Sl.two A B) sz enc a xs :=
 fun w0 H H' t w s => S w0 _ _ .hd w (Sat.two.1 (s.take t))
theorem Srd.two2 {α : Type} {sz : Nat} {enc : α → List Value} {a : Option Addr} {xs : List α} (S : Srd B sz enc a xs) : Srd (Sl.two A B) sz enc a xs :=
 fun w0 H H' t w s => S w0 _ _ (.tl .hd) w (Sat.two.1 (s.take t))
theorem Srd.bigs {α : Type} {sz : Nat} {enc : α → List Value} {a : Option Addr} {xs : List α} (S : Srd A sz enc a xs) (h : A ∈ L) : Srd (Sl.big L) sz enc a xs := fun w0 H H' t w s => by
 obtain ⟨i, hi⟩ := List.mem_iff_getElem?.1 h
 exact S w0 _ _ .hd w ((s.take t).bigTake (take_at hi))
end
end Go.Sl
namespace Go.Sl
open Go
section
variable {P : Program} {n : Nat} {w0 : World} {ops : List Oper} {Q : Exit → Act → World → Prop} {D pp rp : List Nat} {env : Env} {H : List HProp}
end
theorem Ct.bigs {P : Program} {f : FuncId} {args : List Value} {L : List HProp} {post : Value → List HProp → Prop} (c : Ct P f args [Sl.big L] post) (h : ∀ v hs, post v hs → ∃ r, hs = Sl.big L :: r) : Ct P f args L (fun v hs => ∃ r, post v (Sl.big L :: r) ∧ hs = L ++ r) :=
 ⟨c.enters, fun w0 w R s => (c.calls w0 w R (Sat.big.2 s)).mono fun _ _ ⟨v, hs, he, hp, hsat⟩ => by
   obtain ⟨r, rfl⟩ := h v hs hp
   exact ⟨v, _, he, ⟨r, hp, rfl⟩, by rw [List.append_assoc]; exact Sat.big.1 hsat⟩⟩
end Go.Sl
namespace Go.Sl
open Go Go.Kv Go.ChangeMaps
section
variable {P : Program} {n : Nat} {w0 : World} {env : Env} {H : List HProp} {κ ν : Type}
theorem mput_get [DecidableEq κ] {m : List (κ × ν)} {k : κ} {v : ν} (h : mget m k = some v) : mput m k v = m := by
 induction m with
 | nil => cases h
 | cons p m ih =>
   obtain ⟨k', v'⟩ := p
   simp only [mget] at h
   simp only [mput]
   by_cases hk : k = k'
   · simp [hk] at h; subst h; simp [hk]
   · simp only [hk, if_false] at h ⊢; rw [ih h]
theorem mput_none [DecidableEq κ] {k : κ} {v : ν} : ∀ (m : List (κ × ν)), mget m k = none → mput m k v = m ++ [(k, v)]
 | [], _ => rfl
 | (k', v') :: r, h => by
   simp only [mget] at h
   by_cases hk : k = k'
   · simp [hk] at h
   · simp only [hk, if_false] at h
     simp only [mput, hk, if_false, List.cons_append, mput_none r h]
def mpS [DecidableEq κ] (enck : κ → Value) (encv : ν → Value) (b : Nat) (m : List (κ × ν)) (z : ν) (k : κ) (st : Nat) : HProp := fun h => ∃ (ents : Array MapEntry) (clock i : Nat) (e : MapEntry), pt b (.map ents clock) h ∧ ents.toList.map (fun e => (e.key, e.val)) = (mput m k ((mget m k).getD z)).map (fun p => (enck p.1, encv p.2)) ∧ (mkeys (mput m k ((mget m k).getD z))).Nodup ∧
 (ents.toList.map (·.born)).Nodup ∧ (∀ e ∈ ents.toList, e.born < clock) ∧ ents[i]? = some e ∧ e.born = st ∧ (mput m k ((mget m k).getD z))[i]? = some (k, (mget m k).getD z) ∧ ∀ v', (mput m k ((mget m k).getD z)).set i (k, v') = mput m k v'
theorem ac_mapEntry [DecidableEq κ] {d : Option Tmp} {x y : Operand} {T K E ty : TypeId} {pos : String} {af : Array Edge} {g : Option (Nat × Bool)} {enck : κ → Value} {encv : ν → Value} {b : Nat} {m : List (κ × ν)} {k : κ} {z : ν} {H' : List HProp} (ht : P.underlying T = some (.map K E)) (kt : KeyT P K enck) (zv : ZV P E (encv z))
   (hx : ev env x = some (.map (some b))) (hy : ev env y = some (enck k)) (t : Take (mp enck encv b m) H H') :
   Ac P ⟨d, .mapEntry T x y, ty, pos, af, g⟩ w0 env H (fun v H'' => ∃ st : Nat, v = .tuple #[encv ((mget m k).getD z), .int .i64 st] ∧ H'' = mpS enck encv b m z k st :: H') := Ac.of_run fun ρ w r s => by
 have st := s.take t
 obtain ⟨h, le, h1, h2, dd, rfl, ⟨ents, clock, hp, he, hn, hb1, hb2⟩, hl⟩ := st.heap
 have hb := le b _ (Hp.un_left hp.1)
 have sat : Sat w0 w (pt b (.map ents clock) :: H') := ⟨st.os, st.tape, st.output, st.size, _, le, h1, h2, dd, rfl, hp, hl⟩
 have hu : (underlying T).run P w = .ok (.map K E) w := by simp [underlying, ht, go_sem]
 rcases seek_spec (encv := encv) (k := k) m 0 with ⟨g1, g2⟩ | ⟨j, u, g1, g2, g3, g4, -⟩
 · have hput : mput m k ((mget m k).getD z) = m ++ [(k, z)] := by rw [g2]; exact mput_none m g2
   have hrun : (Instr.mapEntry T (.map (some b)) (enck k)).run P w = .ok (.tuple #[encv z, .int .i64 clock]) { w with heap := w.heap.setIfInBounds b (.map (ents.push { key := enck k, val := encv z, born := clock }) (clock + 1)) } := by
     unfold Instr.mapEntry
     simp only [Sem.run_bind, hu, run_getMap hb, Result.andThen_ok, kt.check, find_in kt he, g1, zv.run, run_setMap hb, Sem.run_pure, goInt]
   have hl' := congrArg List.length he
   simp at hl'
   refine ⟨_, _, _, run_v (s := Instr.mapEntry T (ρ x) (ρ y)) (by rw [r.eval hx, r.eval hy]; exact hrun), ⟨clock, by rw [g2]; rfl, rfl⟩, (sat.setMap (o' := .map (ents.push { key := enck k, val := encv z, born := clock }) (clock + 1))).ent fun hh hpp => ⟨_, _, m.length, { key := enck k, val := encv z, born := clock }, hpp, ?_, nodup_put hn _ _, ?_, ?_, ?_, rfl, ?_, fun v' => ?_⟩⟩
   · rw [hput]; simp [he]
   · simp only [Array.toList_push, List.map_append, List.map_cons, List.map_nil]
     rw [List.nodup_append]
     refine ⟨hb1, by simp, fun a ha c hc e => ?_⟩
     simp at hc; subst hc; subst e
     obtain ⟨e, he', hee⟩ := List.mem_map.1 ha
     have := hb2 e he'; omega
   · intro e hee
     simp only [Array.toList_push, List.mem_append, List.mem_singleton] at hee
     rcases hee with hee | rfl
     · have := hb2 e hee; omega
     · simp
   · rw [Array.getElem?_push, if_pos hl'.symm]
   · rw [hput, g2]; simp
   · rw [hput, mput_none m g2]; simp
 · rw [Nat.zero_add] at g1
   have hj : j < m.length := (List.getElem?_eq_some_iff.1 g3).1
   have hjs : j < ents.size := by have := congrArg List.length he; simp at this; omega
   have hej : (ents[j].key, ents[j].val) = (enck k, encv u) := by
     have h1 : (ents.toList.map (fun e => (e.key, e.val)))[j]? = some (ents[j].key, ents[j].val) := by simp [hjs]
     rw [he] at h1
     simp [g3] at h1
     rw [← h1.1, ← h1.2]
   simp only [Prod.mk.injEq] at hej
   have hput : mput m k ((mget m k).getD z) = m := by rw [g2]; exact mput_get g2
   have hk : (Instr.keyThatStays (((ents[j]?).map (·.key)).getD (enck k)) (enck k)).run P w = .ok (enck k) w := by
     have : (((ents[j]?).map (·.key)).getD (enck k)) = enck k := by simp [hjs, hej.1]
     rw [this]; unfold Instr.keyThatStays; rw [if_pos (kt.same k)]; rfl
   have hsame : (ents.modify j fun e => { e with key := enck k }) = ents := by
     apply Array.ext_getElem?
     intro i
     rw [Array.getElem?_modify]
     by_cases hij : j = i
     · subst hij; simp only [if_true, hjs, Array.getElem?_eq_getElem, Option.map_some]; rw [← hej.1]
     · simp [hij]
   have hrun : (Instr.mapEntry T (.map (some b)) (enck k)).run P w = .ok (.tuple #[encv u, .int .i64 ents[j].born]) { w with heap := w.heap.setIfInBounds b (.map ents clock) } := by
     unfold Instr.mapEntry
     simp only [Sem.run_bind, hu, run_getMap hb, Result.andThen_ok, kt.check, find_in kt he, g1, hk, hsame, run_setMap hb, Sem.run_pure]
     simp [hjs, goInt]
   refine ⟨_, _, _, run_v (s := Instr.mapEntry T (ρ x) (ρ y)) (by rw [r.eval hx, r.eval hy]; exact hrun), ⟨ents[j].born, by rw [g2]; rfl, rfl⟩, (sat.setMap (o' := .map ents clock)).ent fun hh hpp => ⟨_, _, j, ents[j], hpp, by rw [hput]; exact he, by rw [hput]; exact hn, hb1, hb2, by simp [hjs], rfl, by rw [hput, g2]; exact g3, fun v' => by rw [hput]; exact g4 v'⟩⟩
theorem ac_entryStore [DecidableEq κ] {d : Option Tmp} {x y u : Operand} {T ty : TypeId} {pos : String} {af : Array Edge} {g : Option (Nat × Bool)} {enck : κ → Value} {encv : ν → Value} {b st : Nat} {m : List (κ × ν)} {k : κ} {z v : ν} {H' : List HProp}
   (hx : ev env x = some (.map (some b))) (hy : ev env y = some (.int .i64 st)) (hu : ev env u = some (encv v)) (t : Take (mpS enck encv b m z k st) H H') :
   Ac P ⟨d, .entryStore T x y u, ty, pos, af, g⟩ w0 env H (fun _ H'' => H'' = mp enck encv b (mput m k v) :: H') := Ac.of_skip fun ρ w r s => by
 have s1 := s.take t
 obtain ⟨h, le, h1, h2, dd, rfl, ⟨ents, clock, i, e, hp, he, hn, hb1, hb2, hi, hst, hmi, hset⟩, hl⟩ := s1.heap
 have hb := le b _ (Hp.un_left hp.1)
 have sat : Sat w0 w (pt b (.map ents clock) :: H') := ⟨s1.os, s1.tape, s1.output, s1.size, _, le, h1, h2, dd, rfl, hp, hl⟩
 have his : i < ents.size := (Array.getElem?_eq_some_iff.1 hi).1
 have hie : ents[i] = e := (Array.getElem?_eq_some_iff.1 hi).2
 have hfind : ents.findIdx? (fun e => (e.born : Int) == st) = some i := by
   rw [Array.findIdx?_eq_some_iff_getElem]
   refine ⟨his, by rw [hie, hst]; simp, fun j hji => ?_⟩
   have hjs : j < ents.size := by omega
   intro hc
   have hc' : ents[j].born = st := by have := eq_of_beq hc; omega
   have hnd := List.pairwise_iff_getElem.1 hb1 j i (by simpa using hjs) (by simpa using his) hji
   apply hnd
   simp [hc', hie, hst]
 have hrun : (Instr.entryStore T (.map (some b)) (.int .i64 st) (encv v)).run P w = .ok () { w with heap := w.heap.setIfInBounds b (.map (ents.modify i fun e => { e with val := encv v }) clock) } := by
   unfold Instr.entryStore
   simp only [Sem.run_bind, run_getMap hb, Result.andThen_ok, asInt, asIntOf, Sem.run_pure, hfind]
   exact run_setMap hb
 refine ⟨_, _, by rw [show (execOp ρ ⟨d, .entryStore T x y u, ty, pos, af, g⟩) = (do Instr.entryStore T (ρ x) (ρ y) (ρ u); Pure.pure Next.skip : Sem Next) from rfl, r.eval hx, r.eval hy, r.eval hu]; simp only [Sem.run_bind, hrun, Result.andThen_ok]; rfl, rfl, (sat.setMap (o' := .map (ents.modify i fun e => { e with val := encv v }) clock)).ent fun hh hpp => ⟨_, _, hpp, ?_, ?_, ?_, ?_⟩⟩
 · rw [← hset v]
   apply List.ext_getElem?
   intro q
   have hei : (ents.toList[q]?).map (fun e => (e.key, e.val)) = ((mput m k ((mget m k).getD z))[q]?).map (fun p => (enck p.1, encv p.2)) := by
     have := congrArg (·[q]?) he; simpa only [List.getElem?_map] using this
   have hlen : (mput m k ((mget m k).getD z)).length = ents.size := by have := congrArg List.length he; simp at this; omega
   simp only [Array.toList_modify, List.getElem?_map, List.getElem?_modify, List.getElem?_set]
   by_cases hiq : i = q
   · subst hiq
     have hti : ents.toList[i]? = some e := by simpa using hi
     rw [hti, hmi] at hei
     simp only [Option.map_some, Option.some.injEq, Prod.mk.injEq] at hei
     rw [hti]
     simp [hlen, his, hei.1]
   · simp only [hiq, if_false]
     rw [← hei]; cases ents.toList[q]? <;> simp
 · rw [mkeys_put] at hn ⊢; exact hn
 · have : ((ents.toList.modify i fun e => { e with val := encv v }).map (·.born)) = ents.toList.map (·.born) := by
     apply List.ext_getElem?
     intro q
     simp only [List.getElem?_map, List.getElem?_modify]
     cases ents.toList[q]? with
     | none => simp
     | some e => by_cases hiq : i = q <;> simp [hiq]
   rw [Array.toList_modify, this]; exact hb1
 · intro e' hee
   rw [Array.toList_modify] at hee
   obtain ⟨q, hq⟩ := List.mem_iff_getElem?.1 hee
   rw [List.getElem?_modify] at hq
   cases hx' : ents.toList[q]? with
   | none => rw [hx'] at hq; simp at hq
   | some e0 =>
     have := hb2 e0 (List.mem_of_getElem? hx')
     rw [hx'] at hq
     by_cases hiq : i = q <;> simp [hiq] at hq <;> subst hq <;> exact this
end
end Go.Sl
namespace Go.Gv
open Go
structure Key where
 o : Int
 q : Int
 deriving DecidableEq
structure Rec where
 o : Int
 q : Int
 w : Int
 c : Int
 t : ByteArray
 deriving DecidableEq
def Rec.key (r : Rec) : Key := ⟨r.o, r.q⟩
def Rec.zero : Rec := ⟨0, 0, 0, 0, ⟨#[]⟩⟩
abbrev int (i : Int) : Value := .int .i64 i
abbrev intC (i : Int) : List Value := [.int .i64 i]
abbrev keyC (k : Key) : List Value := [.int .i64 k.o, .int .i64 k.q]
abbrev keyV (k : Key) : Value := .agg (keyC k).toArray
abbrev recC (r : Rec) : List Value := [.int .i64 r.o, .int .i64 r.q, .int .i64 r.w, .int .i64 r.c, .string r.t]
abbrev recV (r : Rec) : Value := .agg (recC r).toArray
def before (a b : Key) : Bool := if a.o = b.o then decide (a.q < b.q) else decide (a.o < b.o)
end Go.Gv
namespace Go.Gv
open Go
theorem before_iff {a b : Key} : before a b = true ↔ a.o < b.o ∨ (a.o = b.o ∧ a.q < b.q) := by
 unfold before; split <;> simp <;> omega
theorem before_not {a b : Key} : before a b = false ↔ b.o < a.o ∨ (a.o = b.o ∧ b.q ≤ a.q) := by
 unfold before; split <;> simp <;> omega
theorem before_trans {a b c : Key} (h : before a b = true) (k : before b c = true) : before a c = true := by
 rw [before_iff] at *; omega
theorem before_irr {a : Key} : before a a = false := by rw [before_not]; omega
theorem before_total {a b : Key} (h : a ≠ b) : before a b = true ∨ before b a = true := by
 rw [before_iff, before_iff]
 by_cases h1 : a.o = b.o
 · by_cases h2 : a.q = b.q
   · exact (h (by cases a; cases b; simp_all)).elim
   · omega
 · omega
def insK (k : Key) : List Key → List Key
 | [] => [k]
 | x :: l => if before x k then x :: insK k l else k :: x :: l
def sortK (l : List Key) : List Key := l.foldl (fun acc k => insK k acc) []
theorem insK_perm (k : Key) : ∀ l : List Key, List.Perm (insK k l) (k :: l)
 | [] => List.Perm.refl _
 | x :: l => by
   unfold insK; split
   · exact ((insK_perm k l).cons x).trans (List.Perm.swap ..)
   · exact List.Perm.refl _
theorem foldK_perm : ∀ (l acc : List Key), List.Perm (l.foldl (fun acc k => insK k acc) acc) (l ++ acc)
 | [], acc => List.Perm.refl _
 | k :: l, acc => by
   refine (foldK_perm l (insK k acc)).trans (((insK_perm k acc).append_left l).trans ?_)
   exact List.perm_middle
theorem sortK_perm (l : List Key) : List.Perm (sortK l) l := by have := foldK_perm l []; rwa [List.append_nil] at this
theorem sortK_mem {x : Key} {l : List Key} : x ∈ sortK l ↔ x ∈ l := (sortK_perm l).mem_iff
theorem sortK_length {l : List Key} : (sortK l).length = l.length := (sortK_perm l).length_eq
def Asc (l : List Key) : Prop := l.Pairwise fun a b => before a b = true
theorem insK_asc {k : Key} : ∀ {l : List Key}, Asc l → k ∉ l → Asc (insK k l)
 | [], _, _ => by simp [insK, Asc]
 | x :: l, h, hn => by
   have h' := List.pairwise_cons.1 h
   simp only [List.mem_cons, not_or] at hn
   unfold insK; split
   · rename_i hb
     refine List.pairwise_cons.2 ⟨fun y hy => ?_, insK_asc h'.2 hn.2⟩
     rcases List.mem_cons.1 ((insK_perm k l).mem_iff.1 hy) with rfl | hy
     · exact hb
     · exact h'.1 y hy
   · rename_i hb
     have hkx : before k x = true := (before_total hn.1).resolve_right hb
     refine List.pairwise_cons.2 ⟨fun y hy => ?_, h⟩
     rcases List.mem_cons.1 hy with rfl | hy
     · exact hkx
     · exact before_trans hkx (h'.1 y hy)
theorem foldK_asc : ∀ (l acc : List Key), Asc acc → (l ++ acc).Nodup → Asc (l.foldl (fun acc k => insK k acc) acc)
 | [], acc, h, _ => h
 | k :: l, acc, h, hn => by
   have hn1 : k ∉ l ++ acc := (List.nodup_cons.1 hn).1
   have hn2 : (l ++ acc).Nodup := (List.nodup_cons.1 hn).2
   refine foldK_asc l _ (insK_asc h fun hk => hn1 (List.mem_append_right _ hk)) ?_
   exact (((insK_perm k acc).append_left l).trans List.perm_middle).nodup_iff.2 hn
theorem sortK_asc {l : List Key} (h : l.Nodup) : Asc (sortK l) := foldK_asc l [] List.Pairwise.nil (by simpa using h)
theorem asc_uniq : ∀ {l m : List Key}, Asc l → Asc m → List.Perm l m → l = m
 | [], m, _, _, p => (List.nil_perm.1 p).symm ▸ rfl
 | a :: l, [], _, _, p => by have := p.length_eq; simp at this
 | a :: l, b :: m, h, k, p => by
   have h' := List.pairwise_cons.1 h
   have k' := List.pairwise_cons.1 k
   have hab : a = b := by
     apply Classical.byContradiction
     intro hne
     have h1 : a ∈ m := by
       have := p.mem_iff.1 (List.mem_cons_self (a := a) (l := l))
       rcases List.mem_cons.1 this with e | e
       · exact (hne e).elim
       · exact e
     have h2 : b ∈ l := by
       have := p.mem_iff.2 (List.mem_cons_self (a := b) (l := m))
       rcases List.mem_cons.1 this with e | e
       · exact (hne e.symm).elim
       · exact e
     have e1 := h'.1 b h2
     have e2 := k'.1 a h1
     have := before_trans e1 e2
     rw [before_irr] at this; cases this
   subst hab
   rw [asc_uniq h'.2 k'.2 p.cons_inv]
theorem sortK_of {l m : List Key} (hn : l.Nodup) (ha : Asc m) (p : List.Perm m l) : sortK l = m := asc_uniq (sortK_asc hn) ha ((sortK_perm l).trans p.symm)
theorem sort_merge (xs : List Key) (hn : xs.Nodup) : xs.mergeSort (fun x y => !before y x) = sortK xs := by
 refine (sortK_of hn ?_ (List.mergeSort_perm ..)).symm
 have hp := List.pairwise_mergeSort (le := fun x y : Key => !before y x) (fun a b c h1 h2 => by
   simp only [Bool.not_eq_true'] at *; rw [before_not] at *; omega) (fun a b => by
   cases h1 : before b a <;> cases h2 : before a b <;> simp
   rw [before_iff] at h1 h2; omega) xs
 have hn2 := ((List.mergeSort_perm xs (fun x y => !before y x)).nodup_iff).2 hn
 unfold Asc
 refine (hp.and hn2).imp fun {a b} h => ?_
 obtain ⟨h1, h2⟩ := h
 simp only [Bool.not_eq_true'] at h1
 rcases before_total h2 with h | h
 · exact h
 · rw [h] at h1; cases h1
def at_ (ks : List Key) (k : Key) : Nat := ks.findIdx fun x => !before x k
def intoL (ks : List Key) (k : Key) : List Key := if ks[at_ ks k]? = some k then ks else ks.take (at_ ks k) ++ [k] ++ ks.drop (at_ ks k)
end Go.Gv
namespace Go.Sl
open Go
section
variable {P : Program} {n : Nat} {w0 : World} {env : Env} {H : List HProp} {d : Option Tmp} {x y z : Operand} {T T' ty : TypeId} {pos : String} {af : Array Edge} {g : Option (Nat × Bool)}
def shrK (k : IntKind) (i j : Int) : Int := i.fdiv (2 ^ (min j.toNat k.bits))
theorem pu_shr {k k' : IntKind} {i j : Int} (h : ev env x = some (.int k i)) (h' : ev env y = some (.int k' j)) (hj : 0 ≤ j) : Pu P ⟨d, .binOp .shr T x y T', ty, pos, af, g⟩ env (.int k (shrK k i j)) := fun ρ w e => by
 refine run_v (s := do eqGuard .shr T x y (ρ x) (ρ y); binOp .shr T (ρ x) (ρ y)) ?_
 rw [e.eval h, e.eval h']
 have hg : (eqGuard .shr T x y (.int k i) (.int k' j)).run P w = .ok () w := by rfl
 have hn : ¬ j < 0 := by omega
 simp only [Sem.run_bind, hg, Result.andThen_ok]
 simp [binOp, Op.shift, hn, shrK]
end
end Go.Sl
