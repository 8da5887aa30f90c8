/- What the closing leans on: part 3. -/
import Derived.Test.YtflfhpokmidnmaaGreatDoorXb
import Derived.Maps.RangeRun
import Derived.Test.YtflfhpokmidnmaaGreatDoorProg
import Derived.Shelf.GgSortFunc.RowK
import Derived.Laws.Small
import Derived.Test.YtflfhpokmidnmaaGreatDoorXa
import Derived.ChangeArms
import Derived.Carry
namespace Go.Sl
open Go
section
variable {P : Program} {n : Nat} {w0 : World} {env : Env} {H : List HProp}
theorem beq_bytes (a b : ByteArray) : (a == b) = decide (a = b) := by
 cases a with | mk a => cases b with | mk b =>
 have : ((⟨a⟩ : ByteArray) == ⟨b⟩) = (a == b) := rfl
 rw [this]
 by_cases h : a = b <;> simp [h]
def CmpT {α : Type} [DecidableEq α] (P : Program) (t : TypeId) (val : α → Value) (m : Nat) : Prop := ∀ d, m ≤ d → ∀ a b w, (Op.equalIn d t (val a) (val b)).run P w = .ok (decide (a = b)) w
theorem cmp_int {t : TypeId} {k : IntKind} (ht : P.underlying t = some (.int k)) : CmpT P t (fun i : Int => .int k i) 1 := fun d hd a b w => by
 obtain ⟨d, rfl⟩ : ∃ e, d = e + 1 := ⟨d - 1, by omega⟩
 have hu : (underlying t).run P w = .ok (.int k) w := by simp [underlying, ht, go_sem]
 unfold Op.equalIn
 simp only [Sem.run_bind, hu, Result.andThen_ok, if_true]
 rfl
theorem cmp_str {t : TypeId} (ht : P.underlying t = some .string) : CmpT P t (fun s : ByteArray => .string s) 1 := fun d hd a b w => by
 obtain ⟨d, rfl⟩ : ∃ e, d = e + 1 := ⟨d - 1, by omega⟩
 have hu : (underlying t).run P w = .ok .string w := by simp [underlying, ht, go_sem]
 unfold Op.equalIn
 simp only [Sem.run_bind, hu, Result.andThen_ok, Sem.run_pure]
 congr 1
 exact beq_bytes a b
theorem eq_fields {d : Nat} {w : World} {xs ys : Array Value} : ∀ (fs : List Field) (bs : List Bool), fs.length = bs.length →
   (∀ (i : Nat) (f : Field) (b : Bool), fs[i]? = some f → bs[i]? = some b → f.name ≠ "_" ∧ ∃ u v, (part f.type xs f.offset).run P w = .ok u w ∧ (part f.type ys f.offset).run P w = .ok v w ∧ (Op.equalIn d f.type u v).run P w = .ok b w) →
   (do
     for f in fs do
       if f.name ≠ "_" then
         if !(← Op.equalIn d f.type (← part f.type xs f.offset) (← part f.type ys f.offset)) then return false
     Pure.pure true : Sem Bool).run P w = .ok (bs.all id) w := by
 intro fs
 induction fs with
 | nil => intro bs h _; cases bs with
   | nil => rfl
   | cons => cases h
 | cons f fs ih =>
   intro bs h hf
   cases bs with
   | nil => cases h
   | cons b bs =>
     obtain ⟨hn, u, v, h1, h2, h3⟩ := hf 0 f b rfl rfl
     have ih' := ih bs (by simpa using h) fun i g c hg hc => hf (i + 1) g c (by simpa using hg) (by simpa using hc)
     simp only [List.forIn_cons, bind_assoc, Sem.run_bind, hn, ne_eq, not_false_eq_true, if_true, h1, h2, h3, Result.andThen_ok, List.all_cons, id]
     cases b with
     | true =>
       simp only [Bool.not_true, Bool.false_eq_true, if_false, Sem.run_bind, Sem.run_pure, Result.andThen_ok, Bool.true_and]
       simpa only [Sem.run_bind] using ih'
     | false => rfl
theorem equalIn_struct {d : Nat} {t : TypeId} {fs : Array Field} {xs ys : Array Value} {w : World} {bs : List Bool} (ht : P.underlying t = some (.struct fs)) (hs : P.stoodInHeld t = false) (hl : fs.toList.length = bs.length)
   (h : ∀ (i : Nat) (f : Field) (b : Bool), fs.toList[i]? = some f → bs[i]? = some b → f.name ≠ "_" ∧ ∃ u v, (part f.type xs f.offset).run P w = .ok u w ∧ (part f.type ys f.offset).run P w = .ok v w ∧ (Op.equalIn d f.type u v).run P w = .ok b w) :
   (Op.equalIn (d + 1) t (.agg xs) (.agg ys)).run P w = .ok (bs.all id) w := by
 have hu : (underlying t).run P w = .ok (.struct fs) w := by simp [underlying, ht, go_sem]
 have hp : (program).run P w = .ok P w := rfl
 unfold Op.equalIn
 simp only [Sem.run_bind, hu, Result.andThen_ok, hp, hs, Bool.false_eq_true, if_false]
 have := eq_fields (P := P) fs.toList bs hl h
 rw [← Array.forIn_toList]
 simpa only [Sem.run_bind] using this
theorem part_na {t : TypeId} {xs : Array Value} {o : Nat} {v : Value} {w : World} (na : NA P t) (h : xs[o]? = some v) : (part t xs o).run P w = .ok v w := by
 simp only [part, Sem.run_bind, na.run, Result.andThen_ok]; simp [h]
theorem part_ag {t k : Nat} {xs : Array Value} {o : Nat} {w : World} (ag : AG P t k) : (part t xs o).run P w = .ok (.agg (xs.extract o (o + k))) w := by
 simp only [part, Sem.run_bind, ag.run, ag.size, Result.andThen_ok, if_true]; rfl
theorem cmp_ii {t t0 : TypeId} {f0 f1 : Field} {k : IntKind} (ht : P.underlying t = some (.struct #[f0, f1])) (hs : P.stoodInHeld t = false) (hn : f0.name ≠ "_" ∧ f1.name ≠ "_") (hf : (f0.type = t0 ∧ f1.type = t0) ∧ f0.offset = 0 ∧ f1.offset = 1)
   (hi : P.underlying t0 = some (.int k)) (na : NA P t0) : CmpT P t (fun p : Int × Int => .agg #[.int k p.1, .int k p.2]) 2 := fun d hd a b w => by
 obtain ⟨d, rfl⟩ : ∃ e, d = e + 1 := ⟨d - 1, by omega⟩
 have e := equalIn_struct (P := P) (d := d) (w := w) (xs := #[.int k a.1, .int k a.2]) (ys := #[.int k b.1, .int k b.2]) (bs := [decide (a.1 = b.1), decide (a.2 = b.2)]) ht hs rfl (fun i f c hf' hc => by
   match i with
   | 0 => simp at hf' hc; subst hf'; subst hc; rw [hf.1.1, hf.2.1]; exact ⟨hn.1, _, _, part_na na rfl, part_na na rfl, cmp_int hi d (by omega) _ _ w⟩
   | 1 => simp at hf' hc; subst hf'; subst hc; rw [hf.1.2, hf.2.2]; exact ⟨hn.2, _, _, part_na na rfl, part_na na rfl, cmp_int hi d (by omega) _ _ w⟩
   | i + 2 => simp at hf')
 refine e.trans ?_; congr 1
 cases a; cases b; simp
theorem cmp_iii {t t0 : TypeId} {f0 f1 f2 : Field} {k : IntKind} (ht : P.underlying t = some (.struct #[f0, f1, f2])) (hs : P.stoodInHeld t = false) (hn : f0.name ≠ "_" ∧ f1.name ≠ "_" ∧ f2.name ≠ "_") (hf : (f0.type = t0 ∧ f1.type = t0 ∧ f2.type = t0) ∧ f0.offset = 0 ∧ f1.offset = 1 ∧ f2.offset = 2)
   (hi : P.underlying t0 = some (.int k)) (na : NA P t0) : CmpT P t (fun p : Int × Int × Int => .agg #[.int k p.1, .int k p.2.1, .int k p.2.2]) 2 := fun d hd a b w => by
 obtain ⟨d, rfl⟩ : ∃ e, d = e + 1 := ⟨d - 1, by omega⟩
 have e := equalIn_struct (P := P) (d := d) (w := w) (xs := #[.int k a.1, .int k a.2.1, .int k a.2.2]) (ys := #[.int k b.1, .int k b.2.1, .int k b.2.2]) (bs := [decide (a.1 = b.1), decide (a.2.1 = b.2.1), decide (a.2.2 = b.2.2)]) ht hs rfl (fun i f c hf' hc => by
   match i with
   | 0 => simp at hf' hc; subst hf'; subst hc; rw [hf.1.1, hf.2.1]; exact ⟨hn.1, _, _, part_na na rfl, part_na na rfl, cmp_int hi d (by omega) _ _ w⟩
   | 1 => simp at hf' hc; subst hf'; subst hc; rw [hf.1.2.1, hf.2.2.1]; exact ⟨hn.2.1, _, _, part_na na rfl, part_na na rfl, cmp_int hi d (by omega) _ _ w⟩
   | 2 => simp at hf' hc; subst hf'; subst hc; rw [hf.1.2.2, hf.2.2.2]; exact ⟨hn.2.2, _, _, part_na na rfl, part_na na rfl, cmp_int hi d (by omega) _ _ w⟩
   | i + 3 => simp at hf')
 refine e.trans ?_; congr 1
 obtain ⟨a1, a2, a3⟩ := a; obtain ⟨b1, b2, b3⟩ := b; simp
theorem cmp_iiiis {t t0 t1 t2 : TypeId} {f0 f1 f2 : Field} {k : IntKind} (ht : P.underlying t = some (.struct #[f0, f1, f2])) (hs : P.stoodInHeld t = false) (hn : f0.name ≠ "_" ∧ f1.name ≠ "_" ∧ f2.name ≠ "_") (hf : (f0.type = t0 ∧ f1.type = t1 ∧ f2.type = t2) ∧ f0.offset = 0 ∧ f1.offset = 2 ∧ f2.offset = 4)
   (c0 : CmpT P t0 (fun p : Int × Int => .agg #[.int k p.1, .int k p.2]) 2) (a0 : AG P t0 2) (c1 : CmpT P t1 (fun p : Int × Int => .agg #[.int k p.1, .int k p.2]) 2) (a1 : AG P t1 2) (h2 : P.underlying t2 = some .string) (n2 : NA P t2) :
   CmpT P t (fun p : Int × Int × Int × Int × ByteArray => .agg #[.int k p.1, .int k p.2.1, .int k p.2.2.1, .int k p.2.2.2.1, .string p.2.2.2.2]) 3 := fun d hd a b w => by
 obtain ⟨d, rfl⟩ : ∃ e, d = e + 1 := ⟨d - 1, by omega⟩
 obtain ⟨a1', a2, a3, a4, a5⟩ := a
 obtain ⟨b1, b2, b3, b4, b5⟩ := b
 have e := equalIn_struct (P := P) (d := d) (w := w) (xs := #[.int k a1', .int k a2, .int k a3, .int k a4, .string a5]) (ys := #[.int k b1, .int k b2, .int k b3, .int k b4, .string b5]) (bs := [decide ((a1', a2) = (b1, b2)), decide ((a3, a4) = (b3, b4)), decide (a5 = b5)]) ht hs rfl (fun i f c hf' hc => by
   match i with
   | 0 => simp only [List.getElem?_cons_zero, Option.some.injEq] at hf' hc; subst hf'; subst hc; rw [hf.1.1, hf.2.1]; exact ⟨hn.1, _, _, part_ag a0, part_ag a0, c0 d (by omega) (a1', a2) (b1, b2) w⟩
   | 1 => simp only [List.getElem?_cons_succ, List.getElem?_cons_zero, Option.some.injEq] at hf' hc; subst hf'; subst hc; rw [hf.1.2.1, hf.2.2.1]; exact ⟨hn.2.1, _, _, part_ag a1, part_ag a1, c1 d (by omega) (a3, a4) (b3, b4) w⟩
   | 2 => simp only [List.getElem?_cons_succ, List.getElem?_cons_zero, Option.some.injEq] at hf' hc; subst hf'; subst hc; rw [hf.1.2.2, hf.2.2.2]; exact ⟨hn.2.2, _, _, part_na n2 rfl, part_na n2 rfl, cmp_str h2 d (by omega) _ _ w⟩
   | i + 3 => simp at hf')
 refine e.trans ?_; congr 1
 simp only [List.all_cons, List.all_nil, id, Bool.and_true, Prod.mk.injEq, Bool.decide_and, Bool.and_assoc]
theorem eqGuard_no {op : BinOp} {t : TypeId} {x y : Operand} {a b : Array Value} {w : World} (h : P.eqGuardType P.depth t = false) : (eqGuard op t x y (.agg a) (.agg b)).run P w = .ok () w := by
 unfold eqGuard
 cases op <;> simp [h, go_sem]
theorem pu_eqT {α : Type} [DecidableEq α] {d : Option Tmp} {x y : Operand} {T T' ty m : Nat} {pos : String} {af : Array Edge} {g : Option (Nat × Bool)} {cs : α → List Value} {a b : α} (c : CmpT P T (fun a => .agg (cs a).toArray) m) (hm : m ≤ 10000) (hg : P.eqGuardType P.depth T = false)
   (hx : ev env x = some (.agg (cs a).toArray)) (hy : ev env y = some (.agg (cs b).toArray)) : Pu P ⟨d, .binOp .eql T x y T', ty, pos, af, g⟩ env (.bool (decide (a = b))) := fun ρ w e => by
 refine run_v (s := do eqGuard .eql T x y (ρ x) (ρ y); binOp .eql T (ρ x) (ρ y)) ?_
 rw [e.eval hx, e.eval hy]
 have h1 : binOp .eql T (.agg (cs a).toArray) (.agg (cs b).toArray) = (do Pure.pure (.bool (← Op.equal T (.agg (cs a).toArray) (.agg (cs b).toArray)))) := rfl
 simp only [Sem.run_bind, eqGuard_no hg, Result.andThen_ok, h1, Op.equal, Op.maxDepth, c 10000 hm a b w]
 rfl
open Go.Kv
open Go.ChangeMaps (setBlock)
variable {κ ν : Type}
def seek [DecidableEq κ] (k : κ) : List (κ × Value) → Nat → Option (Nat × Value)
 | [], _ => none
 | (k', v) :: r, i => if k = k' then some (i, v) else seek k r (i + 1)
structure KeyT [DecidableEq κ] (P : Program) (K : TypeId) (enck : κ → Value) : Prop where
 check : ∀ e k w, (Instr.checkKey e 10000 K (enck k)).run P w = .ok () w
 find : ∀ (l : List (κ × Value)) (es : List MapEntry) (k : κ) (w : World), es.map (fun e => (e.key, e.val)) = l.map (fun p => (enck p.1, p.2)) → (Instr.findKey K (enck k) es).run P w = .ok (seek k l 0) w
 same : ∀ k, Instr.sameBits 10000 (enck k) (enck k) = true
theorem find_asking [DecidableEq κ] {K m : TypeId} {enck : κ → Value} (c : CmpT P K enck m) (hm : m ≤ 10000) {k : κ} {w : World} : ∀ (l : List (κ × Value)) (es : List MapEntry) (i : Nat), es.map (fun e => (e.key, e.val)) = l.map (fun p => (enck p.1, p.2)) →
   (Instr.findAsking K (enck k) es i).run P w = .ok (seek k l i) w
 | [], [], i, _ => rfl
 | [], _ :: _, i, h => by simp at h
 | _ :: _, [], i, h => by simp at h
 | (k', v) :: l, e :: es, i, h => by
   simp only [List.map_cons, List.cons.injEq, Prod.mk.injEq] at h
   obtain ⟨⟨h1, h2⟩, h3⟩ := h
   have hc : (Op.equal K (enck k) (enck k')).run P w = .ok (decide (k = k')) w := c 10000 hm k k' w
   simp only [Instr.findAsking, h1, Sem.run_bind, hc, Result.andThen_ok, seek]
   by_cases hk : k = k'
   · simp [hk, h2, go_sem]
   · simp only [hk, decide_false, Bool.false_eq_true, if_false]; exact find_asking c hm l es (i + 1) h3
theorem KeyT.struct [DecidableEq κ] {K m : TypeId} {enck : κ → Value} {fs : Array Field} (ht : P.underlying K = some (.struct fs)) (c : CmpT P K enck m) (hm : m ≤ 10000) (hc : ∀ e k w, (Instr.checkKey e 10000 K (enck k)).run P w = .ok () w)
   (hs : ∀ k, Instr.sameBits 10000 (enck k) (enck k) = true) : KeyT P K enck :=
 ⟨hc, fun l es k w h => by
   have hu : (underlying K).run P w = .ok (.struct fs) w := by simp [underlying, ht, go_sem]
   unfold Instr.findKey
   simp only [Sem.run_bind, hu, Result.andThen_ok]
   cases es with
   | nil =>
     cases l with
     | nil => rfl
     | cons => simp at h
   | cons e es =>
     have : Instr.findNow (.struct fs) (enck k) (e :: es) 0 = none := by simp [Instr.findNow, Instr.sameNow]
     rw [this]; exact find_asking c hm l _ 0 h, hs⟩
theorem find_now {P : Program} {k : ByteArray} : ∀ (l : List (ByteArray × Value)) (es : List MapEntry) (i : Nat), es.map (fun e => (e.key, e.val)) = l.map (fun p => (Value.string p.1, p.2)) → Instr.findNow .string (.string k) es i = some (seek k l i)
 | [], [], i, _ => rfl
 | [], _ :: _, i, h => by simp at h
 | _ :: _, [], i, h => by simp at h
 | (k', v) :: l, e :: es, i, h => by
   simp only [List.map_cons, List.cons.injEq, Prod.mk.injEq] at h
   obtain ⟨⟨h1, h2⟩, h3⟩ := h
   simp only [Instr.findNow, Instr.sameNow, h1, seek, beq_bytes]
   by_cases hk : k = k'
   · simp [hk, h2]
   · simp only [hk, decide_false, if_false]; exact find_now (P := P) l es (i + 1) h3
theorem KeyT.str {K : TypeId} (ht : P.underlying K = some .string) : KeyT P K (fun s : ByteArray => .string s) :=
 ⟨fun e k w => by
   have hu : (underlying K).run P w = .ok .string w := by simp [underlying, ht, go_sem]
   unfold Instr.checkKey
   simp only [Sem.run_bind, hu, Result.andThen_ok]; rfl, fun l es k w h => by
   have hu : (underlying K).run P w = .ok .string w := by simp [underlying, ht, go_sem]
   unfold Instr.findKey
   simp only [Sem.run_bind, hu, Result.andThen_ok, find_now (P := P) l es 0 h]; rfl, fun k => by
   unfold Instr.sameBits; rw [beq_bytes]; simp⟩
theorem check_fields {e : Bool} {d : Nat} {w : World} {xs : Array Value} : ∀ (fs : List Field), (∀ f ∈ fs, ∃ u, (part f.type xs f.offset).run P w = .ok u w ∧ (Instr.checkKey e d f.type u).run P w = .ok () w) →
   (do
     for f in fs do
       if f.name ≠ "_" then Instr.checkKey e d f.type (← part f.type xs f.offset) : Sem Unit).run P w = .ok () w := by
 intro fs
 induction fs with
 | nil => intro _; rfl
 | cons f fs ih =>
   intro h
   obtain ⟨u, h1, h2⟩ := h f (by simp)
   have ih' := ih fun g hg => h g (by simp [hg])
   simp only [List.forIn_cons, bind_assoc]
   by_cases hn : f.name = "_"
   · simp only [hn, ne_eq, not_true, if_false, Sem.run_bind, Sem.run_pure, Result.andThen_ok] at ih' ⊢; exact ih'
   · simp only [hn, ne_eq, not_false_eq_true, if_true, Sem.run_bind, h1, h2, Sem.run_pure, Result.andThen_ok] at ih' ⊢; exact ih'
theorem check_struct {e : Bool} {d : Nat} {w : World} {xs : Array Value} {K : TypeId} {fs : Array Field} (ht : P.underlying K = some (.struct fs)) (h : ∀ f ∈ fs.toList, ∃ u, (part f.type xs f.offset).run P w = .ok u w ∧ (Instr.checkKey e d f.type u).run P w = .ok () w) :
   (Instr.checkKey e (d + 1) K (.agg xs)).run P w = .ok () w := by
 have hu : (underlying K).run P w = .ok (.struct fs) w := by simp [underlying, ht, go_sem]
 unfold Instr.checkKey
 simp only [Sem.run_bind, hu, Result.andThen_ok]
 rw [← Array.forIn_toList]
 have := check_fields (P := P) fs.toList h
 simpa only [Sem.run_bind] using this
theorem check_int {e : Bool} {d : Nat} {w : World} {K : TypeId} {k k' : IntKind} {i : Int} (ht : P.underlying K = some (.int k)) : (Instr.checkKey e (d + 1) K (.int k' i)).run P w = .ok () w := by
 have hu : (underlying K).run P w = .ok (.int k) w := by simp [underlying, ht, go_sem]
 unfold Instr.checkKey
 simp only [Sem.run_bind, hu, Result.andThen_ok]; rfl
def mp (enck : κ → Value) (encv : ν → Value) (b : Nat) (m : List (κ × ν)) : HProp := fun h => ∃ ents clock, pt b (.map ents clock) h ∧ ents.toList.map (fun e => (e.key, e.val)) = m.map (fun p => (enck p.1, encv p.2)) ∧ (mkeys m).Nodup ∧
 (ents.toList.map (·.born)).Nodup ∧ ∀ e ∈ ents.toList, e.born < clock
theorem seek_spec [DecidableEq κ] {k : κ} {encv : ν → Value} : ∀ (m : List (κ × ν)) (i : Nat), (seek k (m.map fun p => (p.1, encv p.2)) i = none ∧ mget m k = none) ∨
   ∃ j v, seek k (m.map fun p => (p.1, encv p.2)) i = some (i + j, encv v) ∧ mget m k = some v ∧ m[j]? = some (k, v) ∧ (∀ v', (m.set j (k, v')) = mput m k v') ∧ m.eraseIdx j = mdel m k
 | [], i => .inl ⟨rfl, rfl⟩
 | (k', v) :: m, i => by
   simp only [List.map_cons, seek, mget]
   by_cases h : k = k'
   · subst h
     refine .inr ⟨0, v, by simp, by simp, by simp, fun v' => by simp [mput], by simp [mdel]⟩
   · simp only [h, if_false]
     rcases seek_spec m (i + 1) with ⟨h1, h2⟩ | ⟨j, u, h1, h2, h3, h4, h5⟩
     · exact .inl ⟨h1, h2⟩
     · refine .inr ⟨j + 1, u, by rw [h1]; congr 2; omega, h2, by simpa using h3, fun v' => by simp [mput, h, h4], by simp [mdel, h, h5]⟩
theorem find_in [DecidableEq κ] {K : TypeId} {enck : κ → Value} {encv : ν → Value} (kt : KeyT P K enck) {m : List (κ × ν)} {es : Array MapEntry} (he : es.toList.map (fun e => (e.key, e.val)) = m.map (fun p => (enck p.1, encv p.2))) (k : κ) (w : World) :
   (Instr.findKey K (enck k) es.toList).run P w = .ok (seek k (m.map fun p => (p.1, encv p.2)) 0) w :=
 kt.find _ _ k w (by rw [he, List.map_map]; rfl)
theorem run_getMap {w : World} {b : Nat} {es : Array MapEntry} {clock : Nat} (h : w.heap[b]? = some (.map es clock)) : (getObj b).run P w = .ok (.map es clock) w := by
 simp [getObj, Sem.run, h]
theorem Gs.mpNodup {X : Act → World → Prop} {enck : κ → Value} {encv : ν → Value} {b : Nat} {m : List (κ × ν)} {H' : List HProp} (t : Take (mp enck encv b m) H H') (g : (mkeys m).Nodup → Gs w0 n env H X) : Gs w0 n env H X := fun a w e s => by
 obtain ⟨h0, ⟨ents, clock, _, _, hn, _⟩, _⟩ := (s.take t).toRo
 exact g hn a w e s
theorem rd_lenM {d : Option Tmp} {x : Operand} {T K E ty : TypeId} {pos : String} {af : Array Edge} {g : Option (Nat × Bool)} {enck : κ → Value} {encv : ν → Value} {b : Nat} {m : List (κ × ν)} {H' : List HProp} (ht : P.underlying T = some (.map K E)) (hx : ev env x = some (.map (some b))) (t : Take (mp enck encv b m) H H') :
   Rd P ⟨d, .call ⟨.builtin .len, #[x], #[T]⟩, ty, pos, af, g⟩ w0 env H (.int .i64 m.length) := fun ρ w e s => by
 obtain ⟨h0, ⟨ents, clock, hp, he, -⟩, s'⟩ := (s.take t).toRo
 have hb := s'.ro b _ hp.1
 have hu : (underlying T).run P w = .ok (.map K E) w := by simp [underlying, ht, go_sem]
 have hl : ents.size = m.length := by have := congrArg List.length he; simpa using this
 show (do Pure.pure (Next.value (← Builtin.len_ #[T] ty (#[x].map ρ))) : Sem Next).run P w = _
 rw [show #[x].map ρ = #[ρ x] by simp, e.eval hx]
 refine run_v ?_
 unfold Builtin.len_
 simp only [List.getElem?_toArray, List.getElem?_cons_zero, Sem.run_bind, hu, run_getMap hb, Result.andThen_ok, hl]
 rfl
theorem rd_look [DecidableEq κ] {d : Option Tmp} {x y : Operand} {T K E ty : TypeId} {pos : String} {af : Array Edge} {g : Option (Nat × Bool)} {enck : κ → Value} {encv : ν → Value} {b : Nat} {m : List (κ × ν)} {k : κ} {z : ν} {H' : List HProp} (ht : P.underlying T = some (.map K E)) (kt : KeyT P K enck) (zv : ZV P E (encv z))
   (hx : ev env x = some (.map (some b))) (hy : ev env y = some (enck k)) (t : Take (mp enck encv b m) H H') (ok : Bool) :
   Rd P ⟨d, .lookup T x y ok, ty, pos, af, g⟩ w0 env H (if ok then .tuple #[encv ((mget m k).getD z), .bool (mget m k).isSome] else encv ((mget m k).getD z)) := fun ρ w e s => by
 obtain ⟨h0, ⟨ents, clock, hp, he, -⟩, s'⟩ := (s.take t).toRo
 have hb := s'.ro b _ hp.1
 have hu : (underlying T).run P w = .ok (.map K E) w := by simp [underlying, ht, go_sem]
 refine run_v (s := Instr.lookup T (ρ x) (ρ y) ok) ?_
 rw [e.eval hx, e.eval hy]
 unfold Instr.lookup
 simp only [Sem.run_bind, hu, run_getMap hb, Result.andThen_ok, Sem.run_pure, kt.check, find_in kt he]
 rcases seek_spec (encv := encv) (k := k) m 0 with ⟨h1, h2⟩ | ⟨j, u, h1, h2, -⟩
 · rw [h1, h2]; simp only [Sem.run_bind, zv.run, Result.andThen_ok, Sem.run_pure]; cases ok <;> rfl
 · rw [h1, h2]; simp only [Sem.run_pure, Result.andThen_ok]; cases ok <;> rfl
theorem rd_look1 [DecidableEq κ] {d : Option Tmp} {x y : Operand} {T K E ty : TypeId} {pos : String} {af : Array Edge} {g : Option (Nat × Bool)} {enck : κ → Value} {encv : ν → Value} {b : Nat} {m : List (κ × ν)} {k : κ} {z : ν} {H' : List HProp} (ht : P.underlying T = some (.map K E)) (kt : KeyT P K enck) (zv : ZV P E (encv z))
   (hx : ev env x = some (.map (some b))) (hy : ev env y = some (enck k)) (t : Take (mp enck encv b m) H H') :
   Rd P ⟨d, .lookup T x y false, ty, pos, af, g⟩ w0 env H (encv ((mget m k).getD z)) := rd_look ht kt zv hx hy t false
theorem rd_look2 [DecidableEq κ] {d : Option Tmp} {x y : Operand} {T K E ty : TypeId} {pos : String} {af : Array Edge} {g : Option (Nat × Bool)} {enck : κ → Value} {encv : ν → Value} {b : Nat} {m : List (κ × ν)} {k : κ} {z : ν} {H' : List HProp} (ht : P.underlying T = some (.map K E)) (kt : KeyT P K enck) (zv : ZV P E (encv z))
   (hx : ev env x = some (.map (some b))) (hy : ev env y = some (enck k)) (t : Take (mp enck encv b m) H H') :
   Rd P ⟨d, .lookup T x y true, ty, pos, af, g⟩ w0 env H (.tuple #[encv ((mget m k).getD z), .bool (mget m k).isSome]) := rd_look ht kt zv hx hy t true
theorem run_setMap {w : World} {b : Nat} {es : Array MapEntry} {clock : Nat} {o : Obj} (h : w.heap[b]? = some (.map es clock)) : (setObj b o).run P w = .ok () { w with heap := w.heap.setIfInBounds b o } := by
 simp [setObj, Sem.run, h]
theorem Sat.setMap {w : World} {b : Nat} {o o' : Obj} {L : List HProp} (s : Sat w0 w (Sl.pt b o :: L)) : Sat w0 { w with heap := w.heap.setIfInBounds b o' } (Sl.pt b o' :: L) := by
 have hb := s.pt
 have hlt := (Array.getElem?_eq_some_iff.1 hb).1
 refine s.write rfl rfl rfl (by simp) (by simp [hlt]) fun c hc _ => ?_
 simp only [Array.getElem?_setIfInBounds]; rw [if_neg (fun e => hc e.symm)]
theorem Sat.setMap' {w : World} {b : Nat} {o o' : Obj} {L : List HProp} (s : Sat w0 w (Sl.pt b o :: L)) : Sat w0 (ChangeMaps.setBlock w b o') (Sl.pt b o' :: L) := s.setMap
theorem ac_put [DecidableEq κ] {d : Option Tmp} {x y z : Operand} {T K E ty : TypeId} {pos : String} {af : Array Edge} {g : Option (Nat × Bool)} {enck : κ → Value} {encv : ν → Value} {b : Nat} {m : List (κ × ν)} {k : κ} {v : ν} {H' : List HProp} (ht : P.underlying T = some (.map K E)) (kt : KeyT P K enck)
   (hx : ev env x = some (.map (some b))) (hy : ev env y = some (enck k)) (hz : ev env z = some (encv v)) (t : Take (mp enck encv b m) H H') :
   Ac P ⟨d, .mapUpdate T x y z, ty, pos, af, g⟩ w0 env H (fun _ H'' => H'' = mp enck encv b (mput m k v) :: H') := Ac.of_skip fun ρ w r s => by
 have st := s.take t
 obtain ⟨h, le, h1, h2, dd, rfl, ⟨ents, clock, hp, he, hn, hb1, hb2⟩, hl⟩ := st.heap
 have hb := le b _ (Hp.un_left hp.1)
 have sat : Sat w0 w (pt b (.map ents clock) :: H') := ⟨st.os, st.tape, st.output, st.size, _, le, h1, h2, dd, rfl, hp, hl⟩
 have hu : (underlying T).run P w = .ok (.map K E) w := by simp [underlying, ht, go_sem]
 have key : ∀ es' clock', es'.toList.map (fun e => (e.key, e.val)) = (mput m k v).map (fun p => (enck p.1, encv p.2)) → (es'.toList.map (·.born)).Nodup → (∀ e ∈ es'.toList, e.born < clock') →
     (Instr.mapUpdate T (.map (some b)) (enck k) (encv v)).run P w = .ok () { w with heap := w.heap.setIfInBounds b (.map es' clock') } →
     ∃ H'' w', (do Instr.mapUpdate T (ρ x) (ρ y) (ρ z); Pure.pure Next.skip : Sem Next).run P w = .ok .skip w' ∧ H'' = mp enck encv b (mput m k v) :: H' ∧ Sat w0 w' H'' := by
   intro es' clock' g1 g2 g3 g4
   refine ⟨_, _, ?_, rfl, (sat.setMap (o' := .map es' clock')).ent fun hh hpp => ⟨es', clock', hpp, g1, nodup_put hn k v, g2, g3⟩⟩
   rw [r.eval hx, r.eval hy, r.eval hz]
   simp only [Sem.run_bind, g4, Result.andThen_ok]; rfl
 show ∃ H'' w', (do Instr.mapUpdate T (ρ x) (ρ y) (ρ z); Pure.pure Next.skip : Sem Next).run P w = .ok .skip w' ∧ H'' = mp enck encv b (mput m k v) :: H' ∧ Sat w0 w' H''
 rcases seek_spec (encv := encv) (k := k) m 0 with ⟨g1, g2⟩ | ⟨j, u, g1, g2, g3, g4, -⟩
 · have hput : mput m k v = m ++ [(k, v)] := by
     have : ∀ (m : List (κ × ν)), mget m k = none → mput m k v = m ++ [(k, v)] := by
       intro m
       induction m with
       | nil => intro _; rfl
       | cons p m ih =>
         obtain ⟨k', v'⟩ := p
         intro h
         simp only [mget] at h
         by_cases hk : k = k'
         · simp [hk] at h
         · simp only [hk, if_false] at h; simp [mput, hk, ih h]
     exact this m g2
   refine key (ents.push { key := enck k, val := encv v, born := clock }) (clock + 1) ?_ ?_ ?_ ?_
   · rw [hput]; simp [he]
   · simp only [Array.toList_push, List.map_append, List.map_cons, List.map_nil]
     rw [List.nodup_append]
     refine ⟨hb1, by simp, fun a ha c hc e => ?_⟩
     simp at hc; subst hc; subst e
     obtain ⟨e, he', hee⟩ := List.mem_map.1 ha
     have := hb2 e he'; omega
   · intro e hee
     simp only [Array.toList_push, List.mem_append, List.mem_singleton] at hee
     rcases hee with hee | rfl
     · have := hb2 e hee; omega
     · simp
   · unfold Instr.mapUpdate
     simp only [Sem.run_bind, hu, run_getMap hb, Result.andThen_ok, kt.check, find_in kt he, g1]
     exact run_setMap hb
 · rw [Nat.zero_add] at g1
   have hj : j < m.length := (List.getElem?_eq_some_iff.1 g3).1
   have hjs : j < ents.size := by have := congrArg List.length he; simp at this; omega
   have hej : (ents[j].key, ents[j].val) = (enck k, encv u) := by
     have h1 : (ents.toList.map (fun e => (e.key, e.val)))[j]? = some (ents[j].key, ents[j].val) := by simp [hjs]
     rw [he] at h1
     simp [g3] at h1
     rw [← h1.1, ← h1.2]
   simp only [Prod.mk.injEq] at hej
   refine key (ents.modify j fun e => { e with key := enck k, val := encv v }) clock ?_ ?_ ?_ ?_
   · rw [← g4 v, Array.toList_modify]
     apply List.ext_getElem?
     intro i
     simp only [List.getElem?_map, List.getElem?_modify, List.getElem?_set]
     have hei : (ents.toList[i]?).map (fun e => (e.key, e.val)) = (m[i]?).map (fun p => (enck p.1, encv p.2)) := by
       have := congrArg (·[i]?) he; simpa only [List.getElem?_map] using this
     by_cases hij : j = i
     · subst hij
       simp [hj, hjs]
     · simp only [hij, if_false]
       rw [← hei]; cases ents.toList[i]? <;> simp
   · rw [Array.toList_modify]
     have : ((ents.toList.modify j fun e => { e with key := enck k, val := encv v }).map (·.born)) = ents.toList.map (·.born) := by
       apply List.ext_getElem?
       intro i
       simp only [List.getElem?_map, List.getElem?_modify]
       cases ents.toList[i]? with
       | none => simp
       | some e => by_cases hij : j = i <;> simp [hij]
     rw [this]; exact hb1
   · intro e hee
     rw [Array.toList_modify] at hee
     obtain ⟨i, hi⟩ := List.mem_iff_getElem?.1 hee
     rw [List.getElem?_modify] at hi
     cases hx' : ents.toList[i]? with
     | none => rw [hx'] at hi; simp at hi
     | some e0 =>
       have := hb2 e0 (List.mem_of_getElem? hx')
       rw [hx'] at hi
       by_cases hij : j = i <;> simp [hij] at hi <;> subst hi <;> exact this
   · unfold Instr.mapUpdate
     have hk : (Instr.keyThatStays (((ents[j]?).map (·.key)).getD (enck k)) (enck k)).run P w = .ok (enck k) w := by
       have : (((ents[j]?).map (·.key)).getD (enck k)) = enck k := by simp [hjs, hej.1]
       rw [this]; unfold Instr.keyThatStays; rw [if_pos (kt.same k)]; rfl
     simp only [Sem.run_bind, hu, run_getMap hb, Result.andThen_ok, kt.check, find_in kt he, g1, hk]
     exact run_setMap hb
theorem ac_del [DecidableEq κ] {d : Option Tmp} {x y : Operand} {T K E ty : TypeId} {ts : Array TypeId} {pos : String} {af : Array Edge} {g : Option (Nat × Bool)} {enck : κ → Value} {encv : ν → Value} {b : Nat} {m : List (κ × ν)} {k : κ} {H' : List HProp} (ht : P.underlying T = some (.map K E)) (kt : KeyT P K enck) (hts : ts[0]? = some T)
   (hx : ev env x = some (.map (some b))) (hy : ev env y = some (enck k)) (t : Take (mp enck encv b m) H H') :
   Ac P ⟨d, .call ⟨.builtin .delete, #[x, y], ts⟩, ty, pos, af, g⟩ w0 env H (fun _ H'' => H'' = mp enck encv b (mdel m k) :: H') := Ac.of_run fun ρ w r s => by
 have st := s.take t
 obtain ⟨h, le, h1, h2, dd, rfl, ⟨ents, clock, hp, he, hn, hb1, hb2⟩, hl⟩ := st.heap
 have hb := le b _ (Hp.un_left hp.1)
 have sat : Sat w0 w (pt b (.map ents clock) :: H') := ⟨st.os, st.tape, st.output, st.size, _, le, h1, h2, dd, rfl, hp, hl⟩
 have hu : (underlying T).run P w = .ok (.map K E) w := by simp [underlying, ht, go_sem]
 have key : ∀ es', es'.toList.map (fun e => (e.key, e.val)) = (mdel m k).map (fun p => (enck p.1, encv p.2)) → (es'.toList.map (·.born)).Nodup → (∀ e ∈ es'.toList, e.born < clock) →
     (Builtin.delete_ ts ty #[.map (some b), enck k]).run P w = .ok (.tuple #[]) { w with heap := w.heap.setIfInBounds b (.map es' clock) } →
     ∃ v H'' w', (do Pure.pure (Next.value (← Builtin.delete_ ts ty (#[x, y].map ρ))) : Sem Next).run P w = .ok (.value v) w' ∧ H'' = mp enck encv b (mdel m k) :: H' ∧ Sat w0 w' H'' := by
   intro es' g1 g2 g3 g4
   refine ⟨.tuple #[], _, _, ?_, rfl, (sat.setMap (o' := .map es' clock)).ent fun hh hpp => ⟨es', clock, hpp, g1, nodup_del hn k, g2, g3⟩⟩
   rw [show #[x, y].map ρ = #[ρ x, ρ y] by simp, r.eval hx, r.eval hy]
   exact run_v g4
 show ∃ v H'' w', (do Pure.pure (Next.value (← Builtin.delete_ ts ty (#[x, y].map ρ))) : Sem Next).run P w = .ok (.value v) w' ∧ H'' = mp enck encv b (mdel m k) :: H' ∧ Sat w0 w' H''
 rcases seek_spec (encv := encv) (k := k) m 0 with ⟨g1, g2⟩ | ⟨j, u, g1, g2, g3, -, g5⟩
 · have hdel : mdel m k = m := by
     have : ∀ (m : List (κ × ν)), mget m k = none → mdel m k = m := by
       intro m
       induction m with
       | nil => intro _; rfl
       | cons p m ih =>
         obtain ⟨k', v'⟩ := p
         intro h
         simp only [mget] at h
         by_cases hk : k = k'
         · simp [hk] at h
         · simp only [hk, if_false] at h; simp [mdel, hk, ih h]
     exact this m g2
   refine key ents (by rw [hdel]; exact he) hb1 hb2 ?_
   unfold Builtin.delete_
   simp only [hts, List.getElem?_toArray, List.getElem?_cons_zero, List.getElem?_cons_succ, Sem.run_bind, hu, run_getMap hb, Result.andThen_ok, kt.check, find_in kt he, g1, run_setMap hb]; rfl
 · rw [Nat.zero_add] at g1
   have hj : j < m.length := (List.getElem?_eq_some_iff.1 g3).1
   have hjs : j < ents.size := by have := congrArg List.length he; simp at this; omega
   have htl : (ents.eraseIdxIfInBounds j).toList = ents.toList.eraseIdx j := by simp [Array.eraseIdxIfInBounds, hjs]
   refine key (ents.eraseIdxIfInBounds j) ?_ ?_ ?_ ?_
   · rw [htl, ← g5, ChangeMaps.map_eraseIdx, he, ChangeMaps.map_eraseIdx]
   · rw [htl, ChangeMaps.map_eraseIdx]; exact List.Nodup.sublist (List.eraseIdx_sublist ..) hb1
   · intro e hee; rw [htl] at hee; exact hb2 e ((List.eraseIdx_sublist ..).subset hee)
   · unfold Builtin.delete_
     simp only [hts, List.getElem?_toArray, List.getElem?_cons_zero, List.getElem?_cons_succ, Sem.run_bind, hu, run_getMap hb, Result.andThen_ok, kt.check, find_in kt he, g1, run_setMap hb]; rfl
theorem ac_mkmap {d : Option Tmp} {T ty : TypeId} {pos : String} {af : Array Edge} {g : Option (Nat × Bool)} (enck : κ → Value) (encv : ν → Value) :
   Ac P ⟨d, .makeMap T none, ty, pos, af, g⟩ w0 env H (fun v H' => ∃ b, v = .map (some b) ∧ H' = mp enck encv b [] :: H) := Ac.of_run fun ρ w r s => by
 refine ⟨_, _, _, run_v (s := Instr.makeMap T none) (v := .map (some w.heap.size)) (w' := { w with heap := w.heap.push (.map #[] 0) }) rfl, ⟨w.heap.size, rfl, rfl⟩, (s.alloc _).ent fun h hp => ⟨#[], 0, hp, rfl, by simp, by simp, by simp⟩⟩
def itr (enck : κ → Value) (encv : ν → Value) (r b : Nat) (m left : List (κ × ν)) (last : Option (κ × ν)) : HProp := fun h => ∃ ents clock seen, two (pt b (.map ents clock)) (pt r (.mapIter (some b) clock seen clock)) h ∧
 ents.toList.map (fun e => (e.key, e.val)) = m.map (fun p => (enck p.1, encv p.2)) ∧ (mkeys m).Nodup ∧ (ents.toList.map (·.born)).Nodup ∧ (∀ e ∈ ents.toList, e.born < clock) ∧
 left = ((ents.toList.zip m).filter (fun x => !seen.contains x.1.born)).map (·.2) ∧ (∀ p, last = some p → ∃ e, (e, p) ∈ ents.toList.zip m ∧ seen.back? = some e.born)
theorem itr_mp {enck : κ → Value} {encv : ν → Value} {r b : Nat} {m left : List (κ × ν)} {last : Option (κ × ν)} {w : World} {L : List HProp} (s : Sat w0 w (itr enck encv r b m left last :: L)) : Sat w0 w (mp enck encv b m :: L) := by
 obtain ⟨h, le, h1, h2, d, rfl, ⟨ents, clock, seen, ht, he, hn, hb1, hb2, -⟩, l⟩ := s.heap
 have s2 : Sat w0 w (two (pt b (.map ents clock)) (pt r (.mapIter (some b) clock seen clock)) :: L) := ⟨s.os, s.tape, s.output, s.size, _, le, h1, h2, d, rfl, ht, l⟩
 have s3 := (Sat.two.1 s2).take (.tl .hd) |>.drop
 exact s3.ent fun h hp => ⟨ents, clock, hp, he, hn, hb1, hb2⟩
theorem Gs.itrEnd {X : Act → World → Prop} {enck : κ → Value} {encv : ν → Value} {r b : Nat} {m left : List (κ × ν)} {last : Option (κ × ν)} {H' : List HProp} (t : Take (itr enck encv r b m left last) H H') (g : Gs w0 n env (mp enck encv b m :: H') X) : Gs w0 n env H X :=
 fun a w e s => g a w e (itr_mp (s.take t))
theorem ac_range {d : Option Tmp} {x : Operand} {T K E ty : TypeId} {pos : String} {af : Array Edge} {g : Option (Nat × Bool)} {enck : κ → Value} {encv : ν → Value} {b : Nat} {m : List (κ × ν)} {H' : List HProp} (ht : P.underlying T = some (.map K E))
   (hx : ev env x = some (.map (some b))) (t : Take (mp enck encv b m) H H') :
   Ac P ⟨d, .range T x, ty, pos, af, g⟩ w0 env H (fun v H'' => ∃ r, v = .pointer (some ⟨r, 0, none⟩) ∧ H'' = itr enck encv r b m m none :: H') := Ac.of_run fun ρ w r s => by
 have st := s.take t
 obtain ⟨h, le, h1, h2, dd, rfl, ⟨ents, clock, hp, he, hn, hb1, hb2⟩, hl⟩ := st.heap
 have hb := le b _ (Hp.un_left hp.1)
 have sat : Sat w0 w (pt b (.map ents clock) :: H') := ⟨st.os, st.tape, st.output, st.size, _, le, h1, h2, dd, rfl, hp, hl⟩
 have hu : (underlying T).run P w = .ok (.map K E) w := by simp [underlying, ht, go_sem]
 refine ⟨_, _, _, run_v (s := Instr.range T (ρ x)) (v := .pointer (some ⟨w.heap.size, 0, none⟩)) (w' := { w with heap := w.heap.push (.mapIter (some b) clock #[] clock) }) ?_, ⟨w.heap.size, rfl, rfl⟩, ?_⟩
 · rw [r.eval hx]
   unfold Instr.range
   simp only [Sem.run_bind, hu, run_getMap hb, Result.andThen_ok, Sem.run_pure, run_new]
 · have s2 := Sat.two.2 ((sat.alloc (.mapIter (some b) clock #[] clock)).take (.tl .hd))
   refine s2.ent fun hh h2 => ⟨ents, clock, #[], h2, he, hn, hb1, hb2, ?_, fun p hp => by cases hp⟩
   have hl' := congrArg List.length he
   simp at hl'
   have hf : (ents.toList.zip m).filter (fun x => !(#[] : Array Nat).contains x.1.born) = ents.toList.zip m := List.filter_eq_self.2 fun y _ => by simp
   rw [hf]
   exact (List.map_snd_zip (by simp [hl'])).symm
theorem filter_erase {α : Type} {f : α → Nat} : ∀ (l : List α) (i : Nat) (x : α), (l.map f).Nodup → l[i]? = some x → l.filter (fun y => !(f y == f x)) = l.eraseIdx i
 | [], _, _, _, h => by simp at h
 | a :: l, 0, x, hn, h => by
   simp at h; subst h
   have hn' := List.nodup_cons.1 hn
   have : l.filter (fun y => !(f y == f a)) = l := List.filter_eq_self.2 fun y hy => by
     have : f y ≠ f a := fun e => hn'.1 (e ▸ List.mem_map_of_mem hy)
     simp [this]
   simp [this]
 | a :: l, i + 1, x, hn, h => by
   have hn' := List.nodup_cons.1 hn
   have hx : l[i]? = some x := by simpa using h
   have hm : f a ≠ f x := fun e => hn'.1 (e ▸ List.mem_map_of_mem (List.mem_of_getElem? hx))
   simp only [List.filter_cons, List.eraseIdx_cons_succ]
   rw [filter_erase l i x hn'.2 hx]
   simp [hm]
theorem zip_filter : ∀ (es : List MapEntry) (m : List (κ × ν)) (q : MapEntry → Bool), es.length = m.length → es.filter q = ((es.zip m).filter (fun x => q x.1)).map (·.1)
 | [], _, _, _ => rfl
 | _ :: _, [], _, h => by cases h
 | e :: es, p :: m, q, h => by
   simp only [List.zip_cons_cons, List.filter_cons]
   have := zip_filter es m q (by simpa using h)
   split <;> simp [this]
theorem zip_at {enck : κ → Value} {encv : ν → Value} : ∀ (es : List MapEntry) (m : List (κ × ν)), es.map (fun e => (e.key, e.val)) = m.map (fun p => (enck p.1, encv p.2)) → ∀ x ∈ es.zip m, x.1.key = enck x.2.1 ∧ x.1.val = encv x.2.2
 | [], _, _, x, hx => by simp at hx
 | _ :: _, [], h, _, _ => by simp at h
 | e :: es, p :: m, h, x, hx => by
   simp only [List.map_cons, List.cons.injEq, Prod.mk.injEq] at h
   simp only [List.zip_cons_cons, List.mem_cons] at hx
   rcases hx with rfl | hx
   · exact h.1
   · exact zip_at es m h.2 x hx
theorem ac_next {d : Option Tmp} {x : Operand} {ty : TypeId} {pos : String} {af : Array Edge} {g : Option (Nat × Bool)} {enck : κ → Value} {encv : ν → Value} {r b : Nat} {m left : List (κ × ν)} {last : Option (κ × ν)} {H' : List HProp}
   (hx : ev env x = some (.pointer (some ⟨r, 0, none⟩))) (t : Take (itr enck encv r b m left last) H H') :
   Ac P ⟨d, .next x false, ty, pos, af, g⟩ w0 env H (fun v H'' => (left = [] ∧ v = .tuple #[.bool false] ∧ H'' = itr enck encv r b m left last :: H') ∨
     ∃ i p, left[i]? = some p ∧ v = .tuple #[.bool true, enck p.1, encv p.2] ∧ H'' = itr enck encv r b m (left.eraseIdx i) (some p) :: H') := Ac.of_run fun ρ w rr s => by
 have st := s.take t
 obtain ⟨h, le, h1, h2, dd, rfl, ⟨ents, clock, seen, htw, he, hn, hb1, hb2, hleft, hlast⟩, hl⟩ := st.heap
 have sat2 : Sat w0 w (two (pt b (.map ents clock)) (pt r (.mapIter (some b) clock seen clock)) :: H') := ⟨st.os, st.tape, st.output, st.size, _, le, h1, h2, dd, rfl, htw, hl⟩
 have satA := Sat.two.1 sat2
 have satB := satA.take (.tl .hd)
 have hb := satA.pt
 have hr := satB.pt
 have hlen : ents.toList.length = m.length := by have := congrArg List.length he; simpa using this
 have hcand : (leftOf ents seen).toList = ((ents.toList.zip m).filter (fun x => !seen.contains x.1.born)).map (·.1) := by
   unfold leftOf; rw [Array.toList_filter]; exact zip_filter _ _ _ hlen
 rcases run_next_at (P := P) w ty r b clock clock seen ents clock hr hb hb2 (Nat.le_refl _) with ⟨h0, hrun⟩ | ⟨e, hmem, w1, hw1, hrun⟩
 · refine ⟨_, _, w, run_v (s := Instr.next (ρ x) false ty) (by rw [rr.eval hx]; exact hrun), .inl ⟨?_, rfl, rfl⟩, st⟩
   have h0' : (leftOf ents seen).toList.length = 0 := by simpa using h0
   rw [hcand] at h0'
   rw [hleft]
   simpa using h0'
 · rw [hcand] at hmem
   obtain ⟨⟨e', p⟩, hmem', rfl⟩ := List.mem_map.1 hmem
   obtain ⟨i, hi⟩ := List.mem_iff_getElem?.1 hmem'
   have hz := (List.mem_filter.1 hmem').1
   have hkv := zip_at _ _ he _ hz
   refine ⟨_, _, setBlock w1 r (.mapIter (some b) clock (seen.push e'.born) clock), run_v (s := Instr.next (ρ x) false ty) (by rw [rr.eval hx]; exact hrun), .inr ⟨i, p, ?_, ?_, rfl⟩, ?_⟩
   · rw [hleft, List.getElem?_map, hi]; rfl
   · simp only at hkv; rw [hkv.1, hkv.2]
   · have satB1 : Sat w0 w1 (pt r (.mapIter (some b) clock seen clock) :: pt b (.map ents clock) :: H') := by
       rcases hw1 with rfl | rfl
       · exact satB
       · exact satB.drew
     have sat3 := Sat.two.2 ((satB1.setMap' (o' := .mapIter (some b) clock (seen.push e'.born) clock)).take (.tl .hd))
     refine sat3.ent fun hh h2 => ⟨ents, clock, _, h2, he, hn, hb1, hb2, ?_, fun q hq => ?_⟩
     · rw [hleft, ← ChangeMaps.map_eraseIdx]
       have hnd : (((ents.toList.zip m).filter (fun x => !seen.contains x.1.born)).map (fun x => x.1.born)).Nodup := by
         refine List.Nodup.sublist (List.Sublist.map _ (List.filter_sublist ..)) ?_
         have : (ents.toList.zip m).map (fun x => x.1.born) = ents.toList.map (·.born) := by
           rw [← List.map_fst_zip (l₁ := ents.toList) (l₂ := m) (by omega)]
           rw [List.map_map]
           rw [List.map_fst_zip (by omega)]; rfl
         rw [this]; exact hb1
       rw [← filter_erase _ i (e', p) hnd hi, List.filter_filter]
       congr 1
       apply List.filter_congr
       intro y _
       simp only [Array.contains_push]
       cases hc : seen.contains y.1.born <;> simp
     · cases hq
       exact ⟨e', hz, by simp⟩
theorem ac_entry {d : Option Tmp} {x : Operand} {ty : TypeId} {pos : String} {af : Array Edge} {g : Option (Nat × Bool)} {enck : κ → Value} {encv : ν → Value} {r b : Nat} {m left : List (κ × ν)} {p : κ × ν} {H' : List HProp}
   (hx : ev env x = some (.pointer (some ⟨r, 0, none⟩))) (t : Take (itr enck encv r b m left (some p)) H H') :
   Rd P ⟨d, .entry x, ty, pos, af, g⟩ w0 env H (.tuple #[enck p.1, encv p.2]) := fun ρ w rr s => by
 have st := s.take t
 obtain ⟨h, le, h1, h2, dd, rfl, ⟨ents, clock, seen, htw, he, hn, hb1, hb2, hleft, hlast⟩, hl⟩ := st.heap
 have sat2 : Sat w0 w (two (pt b (.map ents clock)) (pt r (.mapIter (some b) clock seen clock)) :: H') := ⟨st.os, st.tape, st.output, st.size, _, le, h1, h2, dd, rfl, htw, hl⟩
 have satA := Sat.two.1 sat2
 have satB := satA.take (.tl .hd)
 have hb := satA.pt
 have hr := satB.pt
 obtain ⟨e, hz, hback⟩ := hlast p rfl
 have hkv := zip_at _ _ he _ hz
 have hm : e ∈ ents.toList := (List.of_mem_zip hz).1
 have hf : ents.find? (·.born == e.born) = some e := by rw [← Array.find?_toList]; exact find_born e ents.toList hb1 hm
 refine run_v (s := Instr.entry (ρ x)) ?_
 rw [rr.eval hx]
 simp only at hkv
 simp only [Instr.entry, getObj, Sem.run_bind, Sem.run, hr, hb, Result.andThen, hback, bne_self_eq_false, Bool.false_eq_true, if_false, hf, hkv.1, hkv.2]
 rfl
end
end Go.Sl
namespace Go.Sl
open Go
def fillL (pl : List (Nat × Nat)) : List Value → List (Nat × List Value) → Option (List Value)
 | cs, [] => some cs
 | cs, (i, vs) :: r =>
   match pl[i]? with
   | none => none
   | some (o, k) => match Nat.beq vs.length k with
     | true => match lay cs o vs with
       | some ds => fillL pl ds r
       | none => none
     | false => none
theorem lay_le : ∀ (cs : List Value) (o : Nat) (vs ds : List Value), lay cs o vs = some ds → o + vs.length ≤ cs.length
 | cs, o, [], ds, h => by
   induction cs generalizing o ds with
   | nil => cases o <;> simp [lay] at h ⊢
   | cons c cs ih =>
     cases o with
     | zero => simp
     | succ o =>
       simp only [lay] at h; split at h
       · rename_i r hr; have := ih o r hr; simp at this ⊢; omega
       · cases h
 | cs, o, v :: vs, ds, h => by
   obtain ⟨h1, h2⟩ := lay_step _ _ _ _ _ h
   have := lay_le _ _ _ _ h2
   simp at this ⊢; omega
theorem lay_fold : ∀ (vs : List Value) (k : Nat) (cs : List Value) (o : Nat) (ds : List Value), lay cs (o + k) vs = some ds → (vs.zipIdx k).foldl (fun (cs : Array Value) (c, j) => cs.setIfInBounds (o + j) c) cs.toArray = ds.toArray
 | [], k, cs, o, ds, h => by rw [lay_nil _ _ _ h]; rfl
 | v :: vs, k, cs, o, ds, h => by
   obtain ⟨h1, h2⟩ := lay_step _ _ _ _ _ h
   rw [List.zipIdx_cons, List.foldl_cons]
   have := lay_fold vs (k + 1) _ o ds h2
   rw [← this]
   congr 1
   simp
theorem fill_of {pl : List (Nat × Nat)} : ∀ (r : List (Nat × List Value)) (vs : List (Nat × Value)) (cs ds : List Value), vs.map (fun p => (p.1, p.2.cells.toList)) = r → fillL pl cs r = some ds → Instr.fill (pl.toArray[·]?) cs.toArray vs = some ds.toArray
 | [], [], cs, ds, _, h => by simp only [fillL, Option.some.injEq] at h; subst h; rfl
 | [], _ :: _, _, _, h, _ => by cases h
 | _ :: _, [], _, _, h, _ => by cases h
 | (i, us) :: r, (j, v) :: vs, cs, ds, h, hf => by
   simp only [List.map_cons, List.cons.injEq, Prod.mk.injEq] at h
   obtain ⟨⟨rfl, rfl⟩, h⟩ := h
   simp only [fillL] at hf
   simp only [Instr.fill, List.getElem?_toArray]
   cases hp : pl[j]? with
   | none => rw [hp] at hf; cases hf
   | some q =>
     obtain ⟨o, k⟩ := q
     rw [hp] at hf
     simp only at hf ⊢
     split at hf
     · rename_i hb
       have hk := Nat.eq_of_beq_eq_true hb
       split at hf
       · rename_i es he
         have hle := lay_le _ _ _ _ he
         have hfold := lay_fold v.cells.toList 0 cs o es (by simpa using he)
         have : v.cells.zipIdx.foldl (fun (cs : Array Value) (c, j) => cs.setIfInBounds (o + j) c) cs.toArray = es.toArray := by
           rw [← hfold, ← Array.foldl_toList, Array.toList_zipIdx]
         simp only [Array.length_toList] at hk hle
         rw [if_neg (by simp [hk]; omega), this]
         simpa only [List.getElem?_toArray] using fill_of r vs es ds h hf
       · cases hf
     · cases hf
structure BD (P : Program) (T : TypeId) (pl : List (Nat × Nat)) (z : List Value) : Prop where
 run : ∀ (parts : Array (Nat × Value)) (cells : Array Value), Instr.fill (pl.toArray[·]?) z.toArray parts.toList = some cells → ∀ w, (Instr.build T parts).run P w = .ok (.agg cells) w
def Places (P : Program) : List Field → List (Nat × Nat) → Prop
 | [], [] => True
 | f :: fs, p :: ps => f.offset = p.1 ∧ (∀ w, (sizeOf f.type).run P w = .ok p.2 w) ∧ Places P fs ps
 | _, _ => False
theorem Places.run {P : Program} : ∀ (fs : List Field) (pl : List (Nat × Nat)), Places P fs pl → ∀ w, (fs.mapM fun f => (do pure (f.offset, ← sizeOf f.type) : Sem (Nat × Nat))).run P w = .ok pl w
 | [], [], _, w => rfl
 | [], _ :: _, h, w => h.elim
 | _ :: _, [], h, w => h.elim
 | f :: fs, (o, k) :: ps, h, w => by
   obtain ⟨h1, h2, h3⟩ := h
   simp only at h1 h2
   simp only [List.mapM_cons, Sem.run_bind, h2, Result.andThen_ok, Sem.run_pure, Places.run fs ps h3 w, h1]
theorem BD.mk' {P : Program} {T : TypeId} {fs : Array Field} {pl : List (Nat × Nat)} {z : List Value} (ht : P.underlying T = some (.struct fs)) (hz : ∀ w, (zeroValue T).run P w = .ok (.agg z.toArray) w) (hp : Places P fs.toList pl) : BD P T pl z :=
 ⟨fun parts cells h w => by
   have hm := Places.run fs.toList pl hp w
   have hm' : (fs.mapM fun f => (do pure (f.offset, ← sizeOf f.type) : Sem (Nat × Nat))).run P w = .ok pl.toArray w := by
     rw [Array.mapM_eq_mapM_toList]
     show (Bind.bind (List.mapM (fun f => (do pure (f.offset, ← sizeOf f.type) : Sem (Nat × Nat))) fs.toList) (Sem.pure ∘ List.toArray)).run P w = _
     rw [Sem.run_bind, hm]; rfl
   unfold Instr.build
   simp only [Sem.run_bind, hz, run_underlying ht, Result.andThen_ok, hm']
   have : (Value.agg z.toArray).cells = z.toArray := rfl
   rw [this, h]; rfl⟩
section
variable {P : Program} {n : Nat} {w0 : World} {env : Env} {H : List HProp} {d : Option Tmp} {ty : TypeId} {pos : String} {af : Array Edge} {g : Option (Nat × Bool)}
inductive Pvs (env : Env) : List (Nat × Operand) → List (Nat × List Value) → Prop
 | nil : Pvs env [] []
 | cons {i : Nat} {x : Operand} {v : Value} {r : List (Nat × Operand)} {q : List (Nat × List Value)} : ev env x = some v → Pvs env r q → Pvs env ((i, x) :: r) ((i, v.cells.toList) :: q)
theorem Pvs.map {ρ : Operand → Value} (h : Rho env ρ) {r : List (Nat × Operand)} {q : List (Nat × List Value)} (e : Pvs env r q) : (r.map fun (i, x) => (i, ρ x)).map (fun p => (p.1, p.2.cells.toList)) = q := by
 induction e with
 | nil => rfl
 | cons e _ ih => simp only [List.map_cons, h.eval e, ih]
theorem pu_build {T : TypeId} {pl : List (Nat × Nat)} {z cs : List Value} {parts : List (Nat × Operand)} {q : List (Nat × List Value)} (bd : BD P T pl z) (hv : Pvs env parts q) (hf : fillL pl z q = some cs) :
   Pu P ⟨d, .build T parts.toArray, ty, pos, af, g⟩ env (.agg cs.toArray) := fun ρ w e => by
 refine run_v (s := Instr.build T (parts.toArray.map fun (i, x) => (i, ρ x))) (bd.run _ _ ?_ w)
 exact fill_of q _ z cs (by rw [Array.toList_map]; exact hv.map e) hf
theorem ET.mk' {T E sz by_ : Nat} {i : TypeInfo} {z : Value} (ht : P.underlying T = some (.slice E)) (hi : ∀ w, (typeInfo E).run P w = .ok i w) (hz : i.zero = some z) (h1 : i.size = sz) (h2 : i.bytes = by_) (h3 : z.cells.size = sz) : ET P T E sz by_ := by
 refine ⟨i, z, ht, ?_, hz, h1, h2, h3⟩
 have := hi default
 cases hp : P.info? E with
 | none => simp [typeInfo, hp, go_sem] at this
 | some j => simp [typeInfo, hp, go_sem] at this; rw [this]
theorem CmpT.of {α β : Type} [DecidableEq α] [DecidableEq β] {t m : Nat} {val : α → Value} {val' : β → Value} (f : β → α) (hf : ∀ a b, f a = f b ↔ a = b) (hv : ∀ a, val (f a) = val' a) (c : CmpT P t val m) : CmpT P t val' m := fun d hd a b w => by
 have := c d hd (f a) (f b) w
 rw [hv, hv] at this
 rw [this]; congr 1; exact decide_eq_decide.2 (hf a b)
theorem lay_ex : ∀ (cs : List Value) (o : Nat) (vs : List Value), o + vs.length ≤ cs.length → ∃ ds, lay cs o vs = some ds ∧ ds.length = cs.length ∧ (∀ j v, vs[j]? = some v → ds[o + j]? = some v) ∧ (∀ k, (k < o ∨ o + vs.length ≤ k) → ds[k]? = cs[k]?)
 | cs, 0, [], h => ⟨cs, by simp [lay], rfl, by simp, fun _ _ => rfl⟩
 | [], 0, v :: vs, h => by simp at h
 | c :: cs, 0, v :: vs, h => by
   obtain ⟨ds, h1, h2, h3, h4⟩ := lay_ex cs 0 vs (by simp at h ⊢; omega)
   refine ⟨v :: ds, by simp [lay, h1], by simp [h2], fun j u hu => ?_, fun k hk => ?_⟩
   · cases j with
     | zero => simpa using hu
     | succ j => have := h3 j u (by simpa using hu); simp only [Nat.zero_add] at this ⊢; simpa using this
   · cases k with
     | zero => simp at hk
     | succ k => simpa using h4 k (by simp at hk ⊢; omega)
 | [], o + 1, vs, h => by simp at h
 | c :: cs, o + 1, vs, h => by
   obtain ⟨ds, h1, h2, h3, h4⟩ := lay_ex cs o vs (by simp at h; omega)
   refine ⟨c :: ds, by simp [lay, h1], by simp [h2], fun j u hu => ?_, fun k hk => ?_⟩
   · rw [show o + 1 + j = (o + j) + 1 by omega]; simpa using h3 j u hu
   · cases k with
     | zero => rfl
     | succ k => simpa using h4 k (by omega)
theorem lay_at : ∀ (cs : List Value) (o : Nat) (vs ds : List Value), lay cs o vs = some ds → (∀ j v, vs[j]? = some v → ds[o + j]? = some v) ∧ (∀ k, (k < o ∨ o + vs.length ≤ k) → ds[k]? = cs[k]?) := fun cs o vs ds h => by
 obtain ⟨ds', h1, -, h3, h4⟩ := lay_ex cs o vs (lay_le _ _ _ _ h)
 rw [h] at h1; cases h1; exact ⟨h3, h4⟩
theorem ac_stE {α : Type} {enc : α → List Value} {x y : Operand} {T k sz : TypeId} {H' : List HProp} {b o off c i fo : Nat} {E : TypeId} {v : Value} {xs : List α} {vs : List Value} {x0 y0 : α} (hsz : SZ P T k) (e : EncOk sz enc)
   (hx : ev env x = some (.pointer (some ⟨b, o, none⟩))) (hy : ev env y = some v) (t : Take (sl E sz enc (some ⟨b, off, none⟩) c xs) H H') (hv : v.cells = vs.toArray) (hk : vs.length = k) (hp : vs.all plain = true)
   (hi : xs[i]? = some x0) (ho : o = off + i * sz + fo) (hl : lay (enc x0) fo vs = some (enc y0)) :
   Ac P ⟨d, .store T x y, ty, pos, af, g⟩ w0 env H (fun _ H'' => H'' = sl E sz enc (some ⟨b, off, none⟩) c (xs.set i y0) :: H') := Ac.of_skip fun ρ w r s => by
 have st := s.take t
 obtain ⟨h, le, h1, h2, dd, rfl, hs, hl'⟩ := st.heap
 rcases hs with ⟨h0, -, -⟩ | ⟨b', off', cells, hb, hpt, hlen, hroom, hxs⟩
 · cases h0
 · cases hb
   have hil : i < xs.length := (List.getElem?_eq_some_iff.1 hi).1
   have hfo : fo + vs.length ≤ sz := by have := lay_le _ _ _ _ hl; rwa [e.len] at this
   have hmul : i * sz + sz ≤ c * sz := by rw [← Nat.succ_mul]; exact Nat.mul_le_mul_right _ (by omega)
   have s1 : Sat w0 w (cl b E cells.toList :: H') := ⟨st.os, st.tape, st.output, st.size, _, le, h1, h2, dd, rfl, by simpa [cl] using hpt, hl'⟩
   obtain ⟨ds, g1, g2, g3, g4⟩ := lay_ex cells.toList o vs (by simp; omega)
   obtain ⟨w', hw, s'⟩ := run_stores (P := P) vs 0 o cells.toList ds w s1 (by simpa using hp) (by simpa using g1)
   obtain ⟨l1, l2⟩ := lay_at _ _ _ _ hl
   refine ⟨_, w', ?_, rfl, s'.ent fun hh hc => .inr ⟨b, off, ds.toArray, rfl, hc, by simpa using hlen, by simp [g2]; exact hroom, fun j u hj m q hq => ?_⟩⟩
   · show ((do Instr.storeAt T (ρ x) (ρ y); pure Next.skip : Sem Next)).run P w = _
     rw [r.eval hx, r.eval hy]
     simp only [Instr.storeAt, Instr.sureAddr, storeVar, Sem.run_bind, Sem.run_pure, hsz.run, Result.andThen_ok, hv]
     simp only [List.size_toArray, hk, ne_eq, not_true, if_false, Sem.run_bind, Sem.run_pure, Result.andThen_ok, hw]
   · have hm : m < sz := by rw [← e.len u]; exact (List.getElem?_eq_some_iff.1 hq).1
     simp only [List.getElem?_toArray]
     by_cases hij : j = i
     · subst hij
       rw [List.getElem?_set_self hil] at hj
       cases hj
       by_cases hin : fo ≤ m ∧ m < fo + vs.length
       · have hvm : vs[m - fo]? = some q := by
           have hlt : m - fo < vs.length := by omega
           have := l1 (m - fo) vs[m - fo] (by simp [hlt])
           rw [show fo + (m - fo) = m by omega, hq] at this
           rw [List.getElem?_eq_getElem hlt, ← Option.some.inj this]
         have := g3 (m - fo) q hvm
         rwa [show o + (m - fo) = off + (j * sz + m) by omega] at this
       · rw [g4 _ (by omega)]
         have := l2 m (by omega)
         rw [hq] at this
         have := hxs j x0 hi m q this.symm
         simpa using this
     · rw [List.getElem?_set_ne (fun h => hij h.symm)] at hj
       have := hxs j u hj m q hq
       rw [g4 _ ?_]
       · simpa using this
       · rcases Nat.lt_or_gt_of_ne hij with hlt | hlt
         · left
           have : (j + 1) * sz ≤ i * sz := Nat.mul_le_mul_right _ hlt
           rw [Nat.succ_mul] at this; omega
         · right
           have : (i + 1) * sz ≤ j * sz := Nat.mul_le_mul_right _ hlt
           rw [Nat.succ_mul] at this; omega
theorem pu_conv {x : Operand} {S T : TypeId} {ds : TypeDesc} {k k' : IntKind} {i : Int} (hs : P.underlying S = some ds) (ht : P.underlying T = some (.int k)) (hx : ev env x = some (.int k' i)) :
   Pu P ⟨d, .convert S T x, ty, pos, af, g⟩ env (.int k (k.wrap i)) := fun ρ w e => by
 refine run_v (s := convert S T (ρ x)) ?_
 rw [e.eval hx]
 unfold convert
 simp only [Sem.run_bind, run_underlying hs, run_underlying ht, Result.andThen_ok]; rfl
variable {x y : Operand} {T T' : TypeId} {k : IntKind} {i j : Int}
theorem pu_quo (h : ev env x = some (.int k i)) (h' : ev env y = some (.int k j)) (hj : j ≠ 0) : Pu P ⟨d, .binOp .quo T x y T', ty, pos, af, g⟩ env (.int k (k.wrap (i.tdiv j))) := fun ρ w e => by
 refine run_v (s := do eqGuard .quo T x y (ρ x) (ρ y); binOp .quo T (ρ x) (ρ y)) ?_
 rw [e.eval h, e.eval h']
 simp only [Sem.run_bind, eqGuard_int, Result.andThen_ok]
 simp [binOp, Op.intDiv, hj]
theorem pu_rem (h : ev env x = some (.int k i)) (h' : ev env y = some (.int k j)) (hj : j ≠ 0) : Pu P ⟨d, .binOp .rem T x y T', ty, pos, af, g⟩ env (.int k (i.tmod j)) := fun ρ w e => by
 refine run_v (s := do eqGuard .rem T x y (ρ x) (ρ y); binOp .rem T (ρ x) (ρ y)) ?_
 rw [e.eval h, e.eval h']
 simp only [Sem.run_bind, eqGuard_int, Result.andThen_ok]
 simp [binOp, Op.intDiv, hj]
theorem pu_eqB {a b : Bool} (ht : P.underlying T = some .bool) (h : ev env x = some (.bool a)) (h' : ev env y = some (.bool b)) : Pu P ⟨d, .binOp .eql T x y T', ty, pos, af, g⟩ env (.bool (a == b)) := fun ρ w e => by
 refine run_v (s := do eqGuard .eql T x y (ρ x) (ρ y); binOp .eql T (ρ x) (ρ y)) ?_
 rw [e.eval h, e.eval h']
 have hg : (eqGuard .eql T x y (.bool a) (.bool b)).run P w = .ok () w := rfl
 have h1 : binOp .eql T (.bool a) (.bool b) = (do Pure.pure (.bool (← Op.equal T (.bool a) (.bool b)))) := rfl
 have he : (Op.equal T (.bool a) (.bool b)).run P w = .ok (a == b) w := by
   show (Op.equalIn (9999 + 1) T (.bool a) (.bool b)).run P w = _
   unfold Op.equalIn
   simp only [Sem.run_bind, run_underlying ht, Result.andThen_ok]; rfl
 simp only [Sem.run_bind, hg, h1, he, Result.andThen_ok]; rfl
theorem pu_neB {a b : Bool} (ht : P.underlying T = some .bool) (h : ev env x = some (.bool a)) (h' : ev env y = some (.bool b)) : Pu P ⟨d, .binOp .neq T x y T', ty, pos, af, g⟩ env (.bool (!(a == b))) := fun ρ w e => by
 refine run_v (s := do eqGuard .neq T x y (ρ x) (ρ y); binOp .neq T (ρ x) (ρ y)) ?_
 rw [e.eval h, e.eval h']
 have hg : (eqGuard .neq T x y (.bool a) (.bool b)).run P w = .ok () w := rfl
 have h1 : binOp .neq T (.bool a) (.bool b) = (do Pure.pure (.bool (!(← Op.equal T (.bool a) (.bool b))))) := rfl
 have he : (Op.equal T (.bool a) (.bool b)).run P w = .ok (a == b) w := by
   show (Op.equalIn (9999 + 1) T (.bool a) (.bool b)).run P w = _
   unfold Op.equalIn
   simp only [Sem.run_bind, run_underlying ht, Result.andThen_ok]; rfl
 simp only [Sem.run_bind, hg, h1, he, Result.andThen_ok]; rfl
theorem pu_addS {s t : ByteArray} (hl : s.size + t.size ≤ 9223372036854775807) (h : ev env x = some (.string s)) (h' : ev env y = some (.string t)) : Pu P ⟨d, .binOp .add T x y T', ty, pos, af, g⟩ env (.string (s ++ t)) := fun ρ w e => by
 refine run_v (s := do eqGuard .add T x y (ρ x) (ρ y); binOp .add T (ρ x) (ρ y)) ?_
 rw [e.eval h, e.eval h']
 have hg : (eqGuard .add T x y (.string s) (.string t)).run P w = .ok () w := rfl
 simp only [Sem.run_bind, hg, Result.andThen_ok]
 show (Op.stringOp .add s t).run P w = _
 unfold Op.stringOp
 have hm : IntKind.i64.max = 9223372036854775807 := by decide
 simp only [hm]
 rw [if_neg (by omega)]; rfl
end
end Go.Sl
namespace Go.Proofs.YtflfhpokmidnmaaGreatDoor
open Go Go.Sl
set_option maxRecDepth 100000
theorem na_3 : NA Tryz.prog 3 := ⟨Tryz.isAgg3⟩
theorem sz_3 : SZ Tryz.prog 3 1 := ⟨Tryz.sizeOf3⟩
theorem zv_3 : ZV Tryz.prog 3 (.int .i64 0) := ⟨fun w => Tryz.zeroValue3 w⟩
theorem na_4 : NA Tryz.prog 4 := ⟨Tryz.isAgg4⟩
theorem sz_4 : SZ Tryz.prog 4 1 := ⟨Tryz.sizeOf4⟩
theorem na_5 : NA Tryz.prog 5 := ⟨Tryz.isAgg5⟩
theorem zv_5 : ZV Tryz.prog 5 (.int .u8 0) := ⟨fun w => Tryz.zeroValue5 w⟩
theorem na_9 : NA Tryz.prog 9 := ⟨Tryz.isAgg9⟩
theorem sz_9 : SZ Tryz.prog 9 1 := ⟨Tryz.sizeOf9⟩
theorem na_22 : NA Tryz.prog 22 := ⟨Tryz.isAgg22⟩
theorem sz_22 : SZ Tryz.prog 22 1 := ⟨Tryz.sizeOf22⟩
theorem zv_22 : ZV Tryz.prog 22 (.slice none 0 0) := ⟨fun w => Tryz.zeroValue22 w⟩
theorem et_22 : ET Tryz.prog 22 9 1 16 := ET.mk' Tryz.underlying22 Tryz.typeInfo9 rfl rfl rfl rfl
theorem se_22 : SE Tryz.prog 22 1 := ⟨⟨9, Tryz.underlying22, Tryz.sizeOf9⟩⟩
theorem na_30 : NA Tryz.prog 30 := ⟨Tryz.isAgg30⟩
theorem sz_30 : SZ Tryz.prog 30 1 := ⟨Tryz.sizeOf30⟩
theorem zv_30 : ZV Tryz.prog 30 (.slice none 0 0) := ⟨fun w => Tryz.zeroValue30 w⟩
theorem et_30 : ET Tryz.prog 30 3 1 8 := ET.mk' Tryz.underlying30 Tryz.typeInfo3 rfl rfl rfl rfl
theorem se_30 : SE Tryz.prog 30 1 := ⟨⟨3, Tryz.underlying30, Tryz.sizeOf3⟩⟩
theorem et_32 : ET Tryz.prog 32 50 5 48 := ET.mk' Tryz.underlying32 Tryz.typeInfo50 rfl rfl rfl rfl
theorem se_32 : SE Tryz.prog 32 5 := ⟨⟨50, Tryz.underlying32, Tryz.sizeOf50⟩⟩
theorem ag_35 : AG Tryz.prog 35 2 := ⟨Tryz.isAgg35, Tryz.sizeOf35⟩
theorem sz_35 : SZ Tryz.prog 35 2 := ⟨Tryz.sizeOf35⟩
theorem zv_35 : ZV Tryz.prog 35 (.agg #[.int .i64 0, .int .i64 0]) := ⟨fun w => Tryz.zeroValue35 w⟩
theorem fa_35_0 : FA Tryz.prog 35 0 0 := FA.mk' Tryz.underlying35 rfl rfl Tryz.sizeOf3
theorem fa_35_1 : FA Tryz.prog 35 1 1 := FA.mk' Tryz.underlying35 rfl rfl Tryz.sizeOf3
theorem bd_35 : BD Tryz.prog 35 [(0, 1), (1, 1)] [.int .i64 0, .int .i64 0] := BD.mk' Tryz.underlying35 Tryz.zeroValue35 ⟨rfl, Tryz.sizeOf3, rfl, Tryz.sizeOf3, trivial⟩
theorem na_40 : NA Tryz.prog 40 := ⟨Tryz.isAgg40⟩
theorem ag_48 : AG Tryz.prog 48 2 := ⟨Tryz.isAgg48, Tryz.sizeOf48⟩
theorem sz_48 : SZ Tryz.prog 48 2 := ⟨Tryz.sizeOf48⟩
theorem zv_48 : ZV Tryz.prog 48 (.agg #[.int .i64 0, .int .i64 0]) := ⟨fun w => Tryz.zeroValue48 w⟩
theorem fa_48_0 : FA Tryz.prog 48 0 0 := FA.mk' Tryz.underlying48 rfl rfl Tryz.sizeOf3
theorem fa_48_1 : FA Tryz.prog 48 1 1 := FA.mk' Tryz.underlying48 rfl rfl Tryz.sizeOf3
theorem bd_48 : BD Tryz.prog 48 [(0, 1), (1, 1)] [.int .i64 0, .int .i64 0] := BD.mk' Tryz.underlying48 Tryz.zeroValue48 ⟨rfl, Tryz.sizeOf3, rfl, Tryz.sizeOf3, trivial⟩
theorem ag_50 : AG Tryz.prog 50 5 := ⟨Tryz.isAgg50, Tryz.sizeOf50⟩
theorem sz_50 : SZ Tryz.prog 50 5 := ⟨Tryz.sizeOf50⟩
theorem zv_50 : ZV Tryz.prog 50 (.agg #[.int .i64 0, .int .i64 0, .int .i64 0, .int .i64 0, .string ⟨#[]⟩]) := ⟨fun w => Tryz.zeroValue50 w⟩
theorem fa_50_0 : FA Tryz.prog 50 0 0 := FA.mk' Tryz.underlying50 rfl rfl Tryz.sizeOf35
theorem fa_50_1 : FA Tryz.prog 50 1 2 := FA.mk' Tryz.underlying50 rfl rfl Tryz.sizeOf48
theorem fa_50_2 : FA Tryz.prog 50 2 4 := FA.mk' Tryz.underlying50 rfl rfl Tryz.sizeOf9
theorem bd_50 : BD Tryz.prog 50 [(0, 2), (2, 2), (4, 1)] [.int .i64 0, .int .i64 0, .int .i64 0, .int .i64 0, .string ⟨#[]⟩] := BD.mk' Tryz.underlying50 Tryz.zeroValue50 ⟨rfl, Tryz.sizeOf35, rfl, Tryz.sizeOf48, rfl, Tryz.sizeOf9, trivial⟩
theorem na_54 : NA Tryz.prog 54 := ⟨Tryz.isAgg54⟩
theorem sz_54 : SZ Tryz.prog 54 1 := ⟨Tryz.sizeOf54⟩
theorem et_54 : ET Tryz.prog 54 35 2 16 := ET.mk' Tryz.underlying54 Tryz.typeInfo35 rfl rfl rfl rfl
theorem se_54 : SE Tryz.prog 54 2 := ⟨⟨35, Tryz.underlying54, Tryz.sizeOf35⟩⟩
theorem na_67 : NA Tryz.prog 67 := ⟨Tryz.isAgg67⟩
theorem na_68 : NA Tryz.prog 68 := ⟨Tryz.isAgg68⟩
theorem sz_68 : SZ Tryz.prog 68 1 := ⟨Tryz.sizeOf68⟩
theorem na_69 : NA Tryz.prog 69 := ⟨Tryz.isAgg69⟩
theorem na_70 : NA Tryz.prog 70 := ⟨Tryz.isAgg70⟩
theorem na_71 : NA Tryz.prog 71 := ⟨Tryz.isAgg71⟩
theorem na_72 : NA Tryz.prog 72 := ⟨Tryz.isAgg72⟩
theorem ag_74 : AG Tryz.prog 74 6 := ⟨Tryz.isAgg74, Tryz.sizeOf74⟩
theorem sz_74 : SZ Tryz.prog 74 6 := ⟨Tryz.sizeOf74⟩
theorem zv_74 : ZV Tryz.prog 74 (.agg #[.pointer none, .pointer none, .pointer none, .pointer none, .pointer none, .pointer none]) := ⟨fun w => Tryz.zeroValue74 w⟩
theorem fa_74_0 : FA Tryz.prog 74 0 0 := FA.mk' Tryz.underlying74 rfl rfl Tryz.sizeOf67
theorem fa_74_1 : FA Tryz.prog 74 1 1 := FA.mk' Tryz.underlying74 rfl rfl Tryz.sizeOf68
theorem fa_74_2 : FA Tryz.prog 74 2 2 := FA.mk' Tryz.underlying74 rfl rfl Tryz.sizeOf69
theorem fa_74_3 : FA Tryz.prog 74 3 3 := FA.mk' Tryz.underlying74 rfl rfl Tryz.sizeOf70
theorem fa_74_4 : FA Tryz.prog 74 4 4 := FA.mk' Tryz.underlying74 rfl rfl Tryz.sizeOf71
theorem fa_74_5 : FA Tryz.prog 74 5 5 := FA.mk' Tryz.underlying74 rfl rfl Tryz.sizeOf72
theorem bd_74 : BD Tryz.prog 74 [(0, 1), (1, 1), (2, 1), (3, 1), (4, 1), (5, 1)] [.pointer none, .pointer none, .pointer none, .pointer none, .pointer none, .pointer none] := BD.mk' Tryz.underlying74 Tryz.zeroValue74 ⟨rfl, Tryz.sizeOf67, rfl, Tryz.sizeOf68, rfl, Tryz.sizeOf69, rfl, Tryz.sizeOf70, rfl, Tryz.sizeOf71, rfl, Tryz.sizeOf72, trivial⟩
theorem fa_76_0 : FA Tryz.prog 76 0 0 := FA.mk' Tryz.underlying76 rfl rfl Tryz.sizeOf74
theorem fa_76_1 : FA Tryz.prog 76 1 6 := FA.mk' Tryz.underlying76 rfl rfl Tryz.sizeOf3
theorem fa_76_2 : FA Tryz.prog 76 2 7 := FA.mk' Tryz.underlying76 rfl rfl Tryz.sizeOf3
theorem fa_76_3 : FA Tryz.prog 76 3 8 := FA.mk' Tryz.underlying76 rfl rfl Tryz.sizeOf3
theorem fa_76_4 : FA Tryz.prog 76 4 9 := FA.mk' Tryz.underlying76 rfl rfl Tryz.sizeOf4
theorem fa_76_5 : FA Tryz.prog 76 5 10 := FA.mk' Tryz.underlying76 rfl rfl Tryz.sizeOf40
theorem bd_76 : BD Tryz.prog 76 [(0, 6), (6, 1), (7, 1), (8, 1), (9, 1), (10, 1)] [.pointer none, .pointer none, .pointer none, .pointer none, .pointer none, .pointer none, .int .i64 0, .int .i64 0, .int .i64 0, .bool false, .pointer none] := BD.mk' Tryz.underlying76 Tryz.zeroValue76 ⟨rfl, Tryz.sizeOf74, rfl, Tryz.sizeOf3, rfl, Tryz.sizeOf3, rfl, Tryz.sizeOf3, rfl, Tryz.sizeOf4, rfl, Tryz.sizeOf40, trivial⟩
theorem na_83 : NA Tryz.prog 83 := ⟨Tryz.isAgg83⟩
theorem sz_83 : SZ Tryz.prog 83 1 := ⟨Tryz.sizeOf83⟩
theorem et_83 : ET Tryz.prog 83 5 1 1 := ET.mk' Tryz.underlying83 Tryz.typeInfo5 rfl rfl rfl rfl
theorem se_83 : SE Tryz.prog 83 1 := ⟨⟨5, Tryz.underlying83, Tryz.sizeOf5⟩⟩
theorem fa_85_0 : FA Tryz.prog 85 0 0 := FA.mk' Tryz.underlying85 rfl rfl Tryz.sizeOf83
theorem fa_85_1 : FA Tryz.prog 85 1 1 := FA.mk' Tryz.underlying85 rfl rfl Tryz.sizeOf3
theorem bd_85 : BD Tryz.prog 85 [(0, 1), (1, 1)] [.slice none 0 0, .int .i64 0] := BD.mk' Tryz.underlying85 Tryz.zeroValue85 ⟨rfl, Tryz.sizeOf83, rfl, Tryz.sizeOf3, trivial⟩
theorem zv_86 : ZV Tryz.prog 86 (.pointer none) := ⟨fun w => Tryz.zeroValue86 w⟩
theorem na_87 : NA Tryz.prog 87 := ⟨Tryz.isAgg87⟩
theorem fa_89_0 : FA Tryz.prog 89 0 0 := FA.mk' Tryz.underlying89 rfl rfl Tryz.sizeOf3
theorem fa_89_1 : FA Tryz.prog 89 1 1 := FA.mk' Tryz.underlying89 rfl rfl Tryz.sizeOf87
theorem bd_89 : BD Tryz.prog 89 [(0, 1), (1, 1)] [.int .i64 0, .map none] := BD.mk' Tryz.underlying89 Tryz.zeroValue89 ⟨rfl, Tryz.sizeOf3, rfl, Tryz.sizeOf87, trivial⟩
theorem et_98 : ET Tryz.prog 98 106 8 104 := ET.mk' Tryz.underlying98 Tryz.typeInfo106 rfl rfl rfl rfl
theorem se_98 : SE Tryz.prog 98 8 := ⟨⟨106, Tryz.underlying98, Tryz.sizeOf106⟩⟩
theorem ag_106 : AG Tryz.prog 106 8 := ⟨Tryz.isAgg106, Tryz.sizeOf106⟩
theorem sz_106 : SZ Tryz.prog 106 8 := ⟨Tryz.sizeOf106⟩
theorem zv_106 : ZV Tryz.prog 106 (.agg #[.int .i64 0, .slice none 0 0, .slice none 0 0, .int .i64 0, .int .i64 0, .int .i64 0, .int .i64 0, .string ⟨#[]⟩]) := ⟨fun w => Tryz.zeroValue106 w⟩
theorem fa_106_0 : FA Tryz.prog 106 0 0 := FA.mk' Tryz.underlying106 rfl rfl Tryz.sizeOf3
theorem fa_106_1 : FA Tryz.prog 106 1 1 := FA.mk' Tryz.underlying106 rfl rfl Tryz.sizeOf30
theorem fa_106_2 : FA Tryz.prog 106 2 2 := FA.mk' Tryz.underlying106 rfl rfl Tryz.sizeOf30
theorem fa_106_3 : FA Tryz.prog 106 3 3 := FA.mk' Tryz.underlying106 rfl rfl Tryz.sizeOf50
theorem bd_106 : BD Tryz.prog 106 [(0, 1), (1, 1), (2, 1), (3, 5)] [.int .i64 0, .slice none 0 0, .slice none 0 0, .int .i64 0, .int .i64 0, .int .i64 0, .int .i64 0, .string ⟨#[]⟩] := BD.mk' Tryz.underlying106 Tryz.zeroValue106 ⟨rfl, Tryz.sizeOf3, rfl, Tryz.sizeOf30, rfl, Tryz.sizeOf30, rfl, Tryz.sizeOf50, trivial⟩
theorem na_110 : NA Tryz.prog 110 := ⟨Tryz.isAgg110⟩
theorem fa_112_0 : FA Tryz.prog 112 0 0 := FA.mk' Tryz.underlying112 rfl rfl Tryz.sizeOf30
theorem fa_112_1 : FA Tryz.prog 112 1 1 := FA.mk' Tryz.underlying112 rfl rfl Tryz.sizeOf30
theorem fa_112_2 : FA Tryz.prog 112 2 2 := FA.mk' Tryz.underlying112 rfl rfl Tryz.sizeOf110
theorem bd_112 : BD Tryz.prog 112 [(0, 1), (1, 1), (2, 1)] [.slice none 0 0, .slice none 0 0, .map none] := BD.mk' Tryz.underlying112 Tryz.zeroValue112 ⟨rfl, Tryz.sizeOf30, rfl, Tryz.sizeOf30, rfl, Tryz.sizeOf110, trivial⟩
theorem fa_116_0 : FA Tryz.prog 116 0 0 := FA.mk' Tryz.underlying116 rfl rfl Tryz.sizeOf48
theorem bd_116 : BD Tryz.prog 116 [(0, 2)] [.int .i64 0, .int .i64 0] := BD.mk' Tryz.underlying116 Tryz.zeroValue116 ⟨rfl, Tryz.sizeOf48, trivial⟩
theorem na_123 : NA Tryz.prog 123 := ⟨Tryz.isAgg123⟩
theorem sz_123 : SZ Tryz.prog 123 1 := ⟨Tryz.sizeOf123⟩
theorem et_123 : ET Tryz.prog 123 127 3 48 := ET.mk' Tryz.underlying123 Tryz.typeInfo127 rfl rfl rfl rfl
theorem se_123 : SE Tryz.prog 123 3 := ⟨⟨127, Tryz.underlying123, Tryz.sizeOf127⟩⟩
theorem fa_125_0 : FA Tryz.prog 125 0 0 := FA.mk' Tryz.underlying125 rfl rfl Tryz.sizeOf40
theorem fa_125_1 : FA Tryz.prog 125 1 1 := FA.mk' Tryz.underlying125 rfl rfl Tryz.sizeOf3
theorem fa_125_2 : FA Tryz.prog 125 2 2 := FA.mk' Tryz.underlying125 rfl rfl Tryz.sizeOf3
theorem fa_125_3 : FA Tryz.prog 125 3 3 := FA.mk' Tryz.underlying125 rfl rfl Tryz.sizeOf123
theorem bd_125 : BD Tryz.prog 125 [(0, 1), (1, 1), (2, 1), (3, 1)] [.pointer none, .int .i64 0, .int .i64 0, .slice none 0 0] := BD.mk' Tryz.underlying125 Tryz.zeroValue125 ⟨rfl, Tryz.sizeOf40, rfl, Tryz.sizeOf3, rfl, Tryz.sizeOf3, rfl, Tryz.sizeOf123, trivial⟩
theorem ag_127 : AG Tryz.prog 127 3 := ⟨Tryz.isAgg127, Tryz.sizeOf127⟩
theorem sz_127 : SZ Tryz.prog 127 3 := ⟨Tryz.sizeOf127⟩
theorem zv_127 : ZV Tryz.prog 127 (.agg #[.string ⟨#[]⟩, .int .i64 0, .slice none 0 0]) := ⟨fun w => Tryz.zeroValue127 w⟩
theorem fa_127_0 : FA Tryz.prog 127 0 0 := FA.mk' Tryz.underlying127 rfl rfl Tryz.sizeOf9
theorem fa_127_1 : FA Tryz.prog 127 1 1 := FA.mk' Tryz.underlying127 rfl rfl Tryz.sizeOf3
theorem fa_127_2 : FA Tryz.prog 127 2 2 := FA.mk' Tryz.underlying127 rfl rfl Tryz.sizeOf30
theorem bd_127 : BD Tryz.prog 127 [(0, 1), (1, 1), (2, 1)] [.string ⟨#[]⟩, .int .i64 0, .slice none 0 0] := BD.mk' Tryz.underlying127 Tryz.zeroValue127 ⟨rfl, Tryz.sizeOf9, rfl, Tryz.sizeOf3, rfl, Tryz.sizeOf30, trivial⟩
theorem fa_136_0 : FA Tryz.prog 136 0 0 := FA.mk' Tryz.underlying136 rfl rfl Tryz.sizeOf3
theorem fa_136_1 : FA Tryz.prog 136 1 1 := FA.mk' Tryz.underlying136 rfl rfl Tryz.sizeOf110
theorem bd_136 : BD Tryz.prog 136 [(0, 1), (1, 1)] [.int .i64 0, .map none] := BD.mk' Tryz.underlying136 Tryz.zeroValue136 ⟨rfl, Tryz.sizeOf3, rfl, Tryz.sizeOf110, trivial⟩
theorem na_151 : NA Tryz.prog 151 := ⟨Tryz.isAgg151⟩
theorem fa_154_0 : FA Tryz.prog 154 0 0 := FA.mk' Tryz.underlying154 rfl rfl Tryz.sizeOf151
theorem fa_154_1 : FA Tryz.prog 154 1 1 := FA.mk' Tryz.underlying154 rfl rfl Tryz.sizeOf110
theorem bd_154 : BD Tryz.prog 154 [(0, 1), (1, 1)] [.pointer none, .map none] := BD.mk' Tryz.underlying154 Tryz.zeroValue154 ⟨rfl, Tryz.sizeOf151, rfl, Tryz.sizeOf110, trivial⟩
theorem na_155 : NA Tryz.prog 155 := ⟨Tryz.isAgg155⟩
theorem na_156 : NA Tryz.prog 156 := ⟨Tryz.isAgg156⟩
theorem fa_158_0 : FA Tryz.prog 158 0 0 := FA.mk' Tryz.underlying158 rfl rfl Tryz.sizeOf155
theorem fa_158_1 : FA Tryz.prog 158 1 1 := FA.mk' Tryz.underlying158 rfl rfl Tryz.sizeOf156
theorem bd_158 : BD Tryz.prog 158 [(0, 1), (1, 1)] [.map none, .map none] := BD.mk' Tryz.underlying158 Tryz.zeroValue158 ⟨rfl, Tryz.sizeOf155, rfl, Tryz.sizeOf156, trivial⟩
theorem et_163 : ET Tryz.prog 163 48 2 16 := ET.mk' Tryz.underlying163 Tryz.typeInfo48 rfl rfl rfl rfl
theorem se_163 : SE Tryz.prog 163 2 := ⟨⟨48, Tryz.underlying163, Tryz.sizeOf48⟩⟩
theorem sz_167 : SZ Tryz.prog 167 6 := ⟨Tryz.sizeOf167⟩
theorem zv_167 : ZV Tryz.prog 167 (.agg #[.int .i64 0, .int .i64 0, .int .i64 0, .int .i64 0, .string ⟨#[]⟩, .int .u64 0]) := ⟨fun w => Tryz.zeroValue167 w⟩
theorem bd_167 : BD Tryz.prog 167 [(0, 5), (5, 1)] [.int .i64 0, .int .i64 0, .int .i64 0, .int .i64 0, .string ⟨#[]⟩, .int .u64 0] := BD.mk' Tryz.underlying167 Tryz.zeroValue167 ⟨rfl, Tryz.sizeOf50, rfl, Tryz.sizeOf165, trivial⟩
theorem et_171 : ET Tryz.prog 171 174 3 24 := ET.mk' Tryz.underlying171 Tryz.typeInfo174 rfl rfl rfl rfl
theorem se_171 : SE Tryz.prog 171 3 := ⟨⟨174, Tryz.underlying171, Tryz.sizeOf174⟩⟩
theorem ag_174 : AG Tryz.prog 174 3 := ⟨Tryz.isAgg174, Tryz.sizeOf174⟩
theorem sz_174 : SZ Tryz.prog 174 3 := ⟨Tryz.sizeOf174⟩
theorem zv_174 : ZV Tryz.prog 174 (.agg #[.int .i64 0, .int .i64 0, .int .i64 0]) := ⟨fun w => Tryz.zeroValue174 w⟩
theorem fa_174_0 : FA Tryz.prog 174 0 0 := FA.mk' Tryz.underlying174 rfl rfl Tryz.sizeOf3
theorem fa_174_1 : FA Tryz.prog 174 1 1 := FA.mk' Tryz.underlying174 rfl rfl Tryz.sizeOf3
theorem fa_174_2 : FA Tryz.prog 174 2 2 := FA.mk' Tryz.underlying174 rfl rfl Tryz.sizeOf3
theorem bd_174 : BD Tryz.prog 174 [(0, 1), (1, 1), (2, 1)] [.int .i64 0, .int .i64 0, .int .i64 0] := BD.mk' Tryz.underlying174 Tryz.zeroValue174 ⟨rfl, Tryz.sizeOf3, rfl, Tryz.sizeOf3, rfl, Tryz.sizeOf3, trivial⟩
theorem na_203 : NA Tryz.prog 203 := ⟨Tryz.isAgg203⟩
theorem na_204 : NA Tryz.prog 204 := ⟨Tryz.isAgg204⟩
theorem fa_206_0 : FA Tryz.prog 206 0 0 := FA.mk' Tryz.underlying206 rfl rfl Tryz.sizeOf203
theorem fa_206_1 : FA Tryz.prog 206 1 1 := FA.mk' Tryz.underlying206 rfl rfl Tryz.sizeOf204
theorem bd_206 : BD Tryz.prog 206 [(0, 1), (1, 1)] [.map none, .map none] := BD.mk' Tryz.underlying206 Tryz.zeroValue206 ⟨rfl, Tryz.sizeOf203, rfl, Tryz.sizeOf204, trivial⟩
theorem et_207 : ET Tryz.prog 207 30 1 24 := ET.mk' Tryz.underlying207 Tryz.typeInfo30 rfl rfl rfl rfl
theorem se_207 : SE Tryz.prog 207 1 := ⟨⟨30, Tryz.underlying207, Tryz.sizeOf30⟩⟩
theorem na_210 : NA Tryz.prog 210 := ⟨Tryz.isAgg210⟩
theorem et_211 : ET Tryz.prog 211 214 2 24 := ET.mk' Tryz.underlying211 Tryz.typeInfo214 rfl rfl rfl rfl
theorem se_211 : SE Tryz.prog 211 2 := ⟨⟨214, Tryz.underlying211, Tryz.sizeOf214⟩⟩
theorem ag_214 : AG Tryz.prog 214 2 := ⟨Tryz.isAgg214, Tryz.sizeOf214⟩
theorem sz_214 : SZ Tryz.prog 214 2 := ⟨Tryz.sizeOf214⟩
theorem zv_214 : ZV Tryz.prog 214 (.agg #[.string ⟨#[]⟩, .int .i64 0]) := ⟨fun w => Tryz.zeroValue214 w⟩
theorem fa_214_0 : FA Tryz.prog 214 0 0 := FA.mk' Tryz.underlying214 rfl rfl Tryz.sizeOf9
theorem fa_214_1 : FA Tryz.prog 214 1 1 := FA.mk' Tryz.underlying214 rfl rfl Tryz.sizeOf3
theorem bd_214 : BD Tryz.prog 214 [(0, 1), (1, 1)] [.string ⟨#[]⟩, .int .i64 0] := BD.mk' Tryz.underlying214 Tryz.zeroValue214 ⟨rfl, Tryz.sizeOf9, rfl, Tryz.sizeOf3, trivial⟩
theorem zv_216 : ZV Tryz.prog 216 (.slice none 0 0) := ⟨fun w => Tryz.zeroValue216 w⟩
theorem et_216 : ET Tryz.prog 216 219 3 40 := ET.mk' Tryz.underlying216 Tryz.typeInfo219 rfl rfl rfl rfl
theorem se_216 : SE Tryz.prog 216 3 := ⟨⟨219, Tryz.underlying216, Tryz.sizeOf219⟩⟩
theorem ag_219 : AG Tryz.prog 219 3 := ⟨Tryz.isAgg219, Tryz.sizeOf219⟩
theorem sz_219 : SZ Tryz.prog 219 3 := ⟨Tryz.sizeOf219⟩
theorem zv_219 : ZV Tryz.prog 219 (.agg #[.int .i64 0, .int .i64 0, .slice none 0 0]) := ⟨fun w => Tryz.zeroValue219 w⟩
theorem fa_219_0 : FA Tryz.prog 219 0 0 := FA.mk' Tryz.underlying219 rfl rfl Tryz.sizeOf35
theorem fa_219_1 : FA Tryz.prog 219 1 2 := FA.mk' Tryz.underlying219 rfl rfl Tryz.sizeOf30
theorem bd_219 : BD Tryz.prog 219 [(0, 2), (2, 1)] [.int .i64 0, .int .i64 0, .slice none 0 0] := BD.mk' Tryz.underlying219 Tryz.zeroValue219 ⟨rfl, Tryz.sizeOf35, rfl, Tryz.sizeOf30, trivial⟩
theorem et_221 : ET Tryz.prog 221 83 1 24 := ET.mk' Tryz.underlying221 Tryz.typeInfo83 rfl rfl rfl rfl
theorem se_221 : SE Tryz.prog 221 1 := ⟨⟨83, Tryz.underlying221, Tryz.sizeOf83⟩⟩
theorem bd_223 : BD Tryz.prog 223 [(0, 1), (1, 1), (2, 1)] [.int .i64 0, .int .i64 0, .int .i64 0] := BD.mk' Tryz.underlying223 Tryz.zeroValue223 ⟨rfl, Tryz.sizeOf3, rfl, Tryz.sizeOf3, rfl, Tryz.sizeOf3, trivial⟩
theorem fa_243_0 : FA Tryz.prog 243 0 0 := FA.mk' Tryz.underlying243 rfl rfl Tryz.sizeOf83
theorem fa_243_1 : FA Tryz.prog 243 1 1 := FA.mk' Tryz.underlying243 rfl rfl Tryz.sizeOf4
theorem bd_243 : BD Tryz.prog 243 [(0, 1), (1, 1)] [.slice none 0 0, .bool false] := BD.mk' Tryz.underlying243 Tryz.zeroValue243 ⟨rfl, Tryz.sizeOf83, rfl, Tryz.sizeOf4, trivial⟩
theorem mixed : Tryz.prog.follows .mixedOrders = true := by kernel_rfl
end Go.Proofs.YtflfhpokmidnmaaGreatDoor
namespace Go.Gv
open Go
structure Key where
 o : Int
 q : Int
 deriving DecidableEq
structure Rec where
 o : Int
 q : Int
 w : Int
 c : Int
 t : ByteArray
 deriving DecidableEq
def Rec.key (r : Rec) : Key := ⟨r.o, r.q⟩
def Rec.zero : Rec := ⟨0, 0, 0, 0, ⟨#[]⟩⟩
abbrev int (i : Int) : Value := .int .i64 i
abbrev intC (i : Int) : List Value := [.int .i64 i]
abbrev keyC (k : Key) : List Value := [.int .i64 k.o, .int .i64 k.q]
abbrev keyV (k : Key) : Value := .agg (keyC k).toArray
abbrev recC (r : Rec) : List Value := [.int .i64 r.o, .int .i64 r.q, .int .i64 r.w, .int .i64 r.c, .string r.t]
abbrev recV (r : Rec) : Value := .agg (recC r).toArray
def before (a b : Key) : Bool := if a.o = b.o then decide (a.q < b.q) else decide (a.o < b.o)
end Go.Gv
namespace Go.Gv
open Go
theorem before_iff {a b : Key} : before a b = true ↔ a.o < b.o ∨ (a.o = b.o ∧ a.q < b.q) := by
 unfold before; split <;> simp <;> omega
theorem before_not {a b : Key} : before a b = false ↔ b.o < a.o ∨ (a.o = b.o ∧ b.q ≤ a.q) := by
 unfold before; split <;> simp <;> omega
theorem before_trans {a b c : Key} (h : before a b = true) (k : before b c = true) : before a c = true := by
 rw [before_iff] at *; omega
theorem before_irr {a : Key} : before a a = false := by rw [before_not]; omega
theorem before_total {a b : Key} (h : a ≠ b) : before a b = true ∨ before b a = true := by
 rw [before_iff, before_iff]
 by_cases h1 : a.o = b.o
 · by_cases h2 : a.q = b.q
   · exact (h (by cases a; cases b; simp_all)).elim
   · omega
 · omega
def insK (k : Key) : List Key → List Key
 | [] => [k]
 | x :: l => if before x k then x :: insK k l else k :: x :: l
def sortK (l : List Key) : List Key := l.foldl (fun acc k => insK k acc) []
theorem insK_perm (k : Key) : ∀ l : List Key, List.Perm (insK k l) (k :: l)
 | [] => List.Perm.refl _
 | x :: l => by
   unfold insK; split
   · exact ((insK_perm k l).cons x).trans (List.Perm.swap ..)
   · exact List.Perm.refl _
theorem foldK_perm : ∀ (l acc : List Key), List.Perm (l.foldl (fun acc k => insK k acc) acc) (l ++ acc)
 | [], acc => List.Perm.refl _
 | k :: l, acc => by
   refine (foldK_perm l (insK k acc)).trans (((insK_perm k acc).append_left l).trans ?_)
   exact List.perm_middle
theorem sortK_perm (l : List Key) : List.Perm (sortK l) l := by have := foldK_perm l []; rwa [List.append_nil] at this
theorem sortK_mem {x : Key} {l : List Key} : x ∈ sortK l ↔ x ∈ l := (sortK_perm l).mem_iff
theorem sortK_length {l : List Key} : (sortK l).length = l.length := (sortK_perm l).length_eq
def Asc (l : List Key) : Prop := l.Pairwise fun a b => before a b = true
theorem insK_asc {k : Key} : ∀ {l : List Key}, Asc l → k ∉ l → Asc (insK k l)
 | [], _, _ => by simp [insK, Asc]
 | x :: l, h, hn => by
   have h' := List.pairwise_cons.1 h
   simp only [List.mem_cons, not_or] at hn
   unfold insK; split
   · rename_i hb
     refine List.pairwise_cons.2 ⟨fun y hy => ?_, insK_asc h'.2 hn.2⟩
     rcases List.mem_cons.1 ((insK_perm k l).mem_iff.1 hy) with rfl | hy
     · exact hb
     · exact h'.1 y hy
   · rename_i hb
     have hkx : before k x = true := (before_total hn.1).resolve_right hb
     refine List.pairwise_cons.2 ⟨fun y hy => ?_, h⟩
     rcases List.mem_cons.1 hy with rfl | hy
     · exact hkx
     · exact before_trans hkx (h'.1 y hy)
theorem foldK_asc : ∀ (l acc : List Key), Asc acc → (l ++ acc).Nodup → Asc (l.foldl (fun acc k => insK k acc) acc)
 | [], acc, h, _ => h
 | k :: l, acc, h, hn => by
   have hn1 : k ∉ l ++ acc := (List.nodup_cons.1 hn).1
   have hn2 : (l ++ acc).Nodup := (List.nodup_cons.1 hn).2
   refine foldK_asc l _ (insK_asc h fun hk => hn1 (List.mem_append_right _ hk)) ?_
   exact (((insK_perm k acc).append_left l).trans List.perm_middle).nodup_iff.2 hn
theorem sortK_asc {l : List Key} (h : l.Nodup) : Asc (sortK l) := foldK_asc l [] List.Pairwise.nil (by simpa using h)
theorem asc_uniq : ∀ {l m : List Key}, Asc l → Asc m → List.Perm l m → l = m
 | [], m, _, _, p => (List.nil_perm.1 p).symm ▸ rfl
 | a :: l, [], _, _, p => by have := p.length_eq; simp at this
 | a :: l, b :: m, h, k, p => by
   have h' := List.pairwise_cons.1 h
   have k' := List.pairwise_cons.1 k
   have hab : a = b := by
     apply Classical.byContradiction
     intro hne
     have h1 : a ∈ m := by
       have := p.mem_iff.1 (List.mem_cons_self (a := a) (l := l))
       rcases List.mem_cons.1 this with e | e
       · exact (hne e).elim
       · exact e
     have h2 : b ∈ l := by
       have := p.mem_iff.2 (List.mem_cons_self (a := b) (l := m))
       rcases List.mem_cons.1 this with e | e
       · exact (hne e.symm).elim
       · exact e
     have e1 := h'.1 b h2
     have e2 := k'.1 a h1
     have := before_trans e1 e2
     rw [before_irr] at this; cases this
   subst hab
   rw [asc_uniq h'.2 k'.2 p.cons_inv]
theorem sortK_of {l m : List Key} (hn : l.Nodup) (ha : Asc m) (p : List.Perm m l) : sortK l = m := asc_uniq (sortK_asc hn) ha ((sortK_perm l).trans p.symm)
theorem sort_merge (xs : List Key) (hn : xs.Nodup) : xs.mergeSort (fun x y => !before y x) = sortK xs := by
 refine (sortK_of hn ?_ (List.mergeSort_perm ..)).symm
 have hp := List.pairwise_mergeSort (le := fun x y : Key => !before y x) (fun a b c h1 h2 => by
   simp only [Bool.not_eq_true'] at *; rw [before_not] at *; omega) (fun a b => by
   cases h1 : before b a <;> cases h2 : before a b <;> simp
   rw [before_iff] at h1 h2; omega) xs
 have hn2 := ((List.mergeSort_perm xs (fun x y => !before y x)).nodup_iff).2 hn
 unfold Asc
 refine (hp.and hn2).imp fun {a b} h => ?_
 obtain ⟨h1, h2⟩ := h
 simp only [Bool.not_eq_true'] at h1
 rcases before_total h2 with h | h
 · exact h
 · rw [h] at h1; cases h1
end Go.Gv
namespace Go.Sl
open Go Go.Sort Go.Shelf Go.Proofs
variable {α : Type} {w0 w : World} {L : List HProp} {E sz : Nat} {enc : α → List Value} {b off c : Nat} {xs : List α}
theorem sl_block (s : Sat w0 w (sl E sz enc (some ⟨b, off, none⟩) c xs :: L)) : ∃ cells, Sat w0 w (pt b (.cells cells E (0, 0)) :: L) ∧ w.heap[b]? = some (.cells cells E (0, 0)) ∧ xs.length ≤ c ∧ off + c * sz ≤ cells.size ∧
   ∀ i x, xs[i]? = some x → ∀ j v, (enc x)[j]? = some v → cells[off + (i * sz + j)]? = some v := by
 obtain ⟨h, le, h1, h2, d, rfl, hs, hl⟩ := s.heap
 rcases hs with ⟨h0, -, -⟩ | ⟨b', off', cells, hb, hp, h3, h4, h5⟩
 · cases h0
 · cases hb
   have s1 : Sat w0 w (pt b (.cells cells E (0, 0)) :: L) := ⟨s.os, s.tape, s.output, s.size, _, le, h1, h2, d, rfl, hp, hl⟩
   exact ⟨cells, s1, s1.pt, h3, h4, h5⟩
variable [Inhabited α]
theorem sl_holds (e : EncOk sz enc) (s : Sat w0 w (sl E sz enc (some ⟨b, off, none⟩) c xs :: L)) : HoldsK enc sz w b off xs.toArray ∧ b < w.heap.size := by
 obtain ⟨cells, -, hb, h3, h4, h5⟩ := sl_block s
 refine ⟨fun j hj => ?_, (Array.getElem?_eq_some_iff.1 hb).1⟩
 rw [size_flatK] at hj
 rw [id, get_flatK _ _ _ _ hj]
 simp only [List.size_toArray] at hj
 have hz : 0 < sz := by rcases Nat.eq_zero_or_pos sz with h | h
                        · rw [h] at hj; simp at hj
                        · exact h
 have hi : j / sz < xs.length := Nat.div_lt_of_lt_mul (by rw [Nat.mul_comm]; exact hj)
 have hm : j % sz < sz := Nat.mod_lt _ hz
 have hx : xs[j / sz]? = some xs[j / sz] := by simp [hi]
 have hv : (enc xs[j / sz])[j % sz]? = some ((enc xs[j / sz])[j % sz]'(by rw [e.len]; exact hm)) := by simp [e.len, hm]
 have hc := h5 _ _ hx _ _ hv
 have hdm : j / sz * sz + j % sz = j := by rw [Nat.mul_comm]; exact Nat.div_add_mod j sz
 rw [hdm] at hc
 have e1 : xs.toArray[j / sz]! = xs[j / sz] := by rw [getElem!_pos _ _ (by simpa using hi)]; simp
 have e2 : (enc xs[j / sz])[j % sz]! = (enc xs[j / sz])[j % sz]'(by rw [e.len]; exact hm) := getElem!_pos ..
 refine ⟨?_, by simp [World.frozen?, hb]⟩
 rw [e1, e2]
 simpa [World.cell?, hb] using hc
theorem sl_sorted {ys : List α} {n : Nat} {os : Array Obj} (e : EncOk sz enc) (hl : ys.length = xs.length) (s : Sat w0 w (sl E sz enc (some ⟨b, off, none⟩) c xs :: L)) :
   Sat w0 (grow (putRowK enc sz (Sort.ahead w n) b off ys.toArray) os) (sl E sz enc (some ⟨b, off, none⟩) c ys :: L) := by
 obtain ⟨cells, s1, hb, h3, h4, h5⟩ := sl_block s
 have hblt := (Array.getElem?_eq_some_iff.1 hb).1
 have hsz : (putRowK enc sz (Sort.ahead w n) b off ys.toArray).heap.size = w.heap.size := by simp [putRowK, putRow, mapBlock, Sort.ahead]
 have hnew : (grow (putRowK enc sz (Sort.ahead w n) b off ys.toArray) os).heap[b]? = some (.cells (putCells id off (flatK enc sz ys.toArray) cells) E (0, 0)) := by
   rw [heap_grow_old _ _ (by rw [hsz]; exact hblt)]
   simp [putRowK, putRow, mapBlock, Sort.ahead, Array.getElem?_modify, hb, onCells]
 have hold : ∀ k, k ≠ b → k < w.heap.size → (grow (putRowK enc sz (Sort.ahead w n) b off ys.toArray) os).heap[k]? = w.heap[k]? := fun k hk hlt => by
   rw [heap_grow_old _ _ (by rw [hsz]; exact hlt)]
   have : b ≠ k := fun e => hk e.symm
   simp [putRowK, putRow, mapBlock, Sort.ahead, Array.getElem?_modify, this]
 refine (s1.write (w' := grow (putRowK enc sz (Sort.ahead w n) b off ys.toArray) os) rfl rfl rfl (by show w.heap.size ≤ ((putRowK enc sz (Sort.ahead w n) b off ys.toArray).heap ++ os).size; rw [Array.size_append, hsz]; omega) hnew hold).ent fun hh hp => .inr ⟨b, off, _, rfl, hp, by omega, by simpa [putCells] using h4, fun i y hi j v hj => ?_⟩
 have hil : i < ys.length := (List.getElem?_eq_some_iff.1 hi).1
 have hjl : j < sz := by rw [← e.len y]; exact (List.getElem?_eq_some_iff.1 hj).1
 have hmul : i * sz + sz ≤ ys.length * sz := by rw [← Nat.succ_mul]; exact Nat.mul_le_mul_right _ hil
 have hmul2 : ys.length * sz ≤ c * sz := Nat.mul_le_mul_right _ (by omega)
 have hpos : off + (i * sz + j) < cells.size := by omega
 simp only [putCells, Array.getElem?_mapIdx]
 rw [Array.getElem?_eq_getElem hpos]
 simp only [Option.map_some, size_flatK, List.size_toArray]
 rw [if_pos ⟨by omega, by omega⟩, Nat.add_sub_cancel_left, id, get_flatK _ _ _ _ (by simp; omega)]
 have hd1 : (i * sz + j) / sz = i := by rw [Nat.mul_comm, Nat.mul_add_div (by omega), Nat.div_eq_of_lt hjl, Nat.add_zero]
 have hd2 : (i * sz + j) % sz = j := by rw [Nat.mul_comm, Nat.mul_add_mod, Nat.mod_eq_of_lt hjl]
 rw [hd1, hd2]
 have e1 : ys.toArray[i]! = y := by
   rw [getElem!_pos _ _ (by simpa using hil)]
   simpa [hil] using hi
 rw [e1]
 obtain ⟨hjl', hje⟩ := List.getElem?_eq_some_iff.1 hj
 rw [getElem!_pos (enc y) j hjl', hje]
end Go.Sl
namespace Go.Sl
open Go
section
variable {P : Program} {n : Nat} {w0 : World} {env : Env} {H : List HProp} {d : Option Tmp} {x y z : Operand} {T T' ty : TypeId} {pos : String} {af : Array Edge} {g : Option (Nat × Bool)}
theorem pu_slice3H {u : Operand} {E sz by_ : Nat} {a : Option Addr} {l c : Nat} {k k' : IntKind} {i j : Int} (et : ET P T E sz by_) (hx : ev env x = some (.slice a l c)) (hz : ev env z = some (.int k i)) (hu : ev env u = some (.int k' j))
   (h0 : 0 ≤ i) (h1 : i ≤ j) (h2 : j ≤ c) : Pu P ⟨d, .slice T x none (some z) (some u), ty, pos, af, g⟩ env (.slice a i.toNat j.toNat) := fun ρ w e => by
 obtain ⟨inf, zz, ht, hi, -, rfl, rfl, -⟩ := et.ex
 refine run_v (s := Instr.sliceAt T (ρ x) none (some (ρ z)) (some (ρ u))) ?_
 rw [e.eval hx, e.eval hz, e.eval hu]
 have hu : (underlying T).run P w = .ok (.slice E) w := by simp [underlying, ht, go_sem]
 have hq : (sizeOf E).run P w = .ok inf.size w := by simp [sizeOf, typeInfo, hi, go_sem]
 have hb : (Instr.sliceBounds true l c none (some (.int k i)) (some (.int k' j))).run P w = .ok (0, i.toNat, j.toNat) w := by
   simp only [Instr.sliceBounds, if_true, Sem.run_bind, Sem.run_pure, Result.andThen_ok, run_bound (P := P) (w := w) (k := k') (code := .slice3Acap) (show 0 ≤ j by omega) h2, run_bound (P := P) (w := w) (k := k) (code := .slice3B) h0 (show i ≤ (j.toNat : Int) by omega)]
 unfold Instr.sliceAt Instr.slice
 simp only [Sem.run_bind, hu, hb, hq, Result.andThen_ok, Nat.sub_zero, Nat.zero_mul]
 have ha : (if j.toNat = 0 then a else a.map (·.add 0)) = a := by
   split
   · rfl
   · cases a with
     | none => rfl
     | some p => rfl
 rw [ha]; rfl
theorem pu_max {k k' : IntKind} {i j : Int} {ts : Array TypeId} (h : ev env x = some (.int k i)) (h' : ev env y = some (.int k' j)) : Pu P ⟨d, .call ⟨.builtin .max, #[x, y], ts⟩, ty, pos, af, g⟩ env (.int k (max i j)) := fun ρ w e => by
 have hm : (if j > i then j else i) = max i j := by split <;> omega
 have := run_max_int2 (P := P) (w := w) ts ty k k' i j
 simp [execOp, resolve, invoke, builtin, e.eval h, e.eval h', this, go_sem, hm]
theorem pu_min {k k' : IntKind} {i j : Int} {ts : Array TypeId} (h : ev env x = some (.int k i)) (h' : ev env y = some (.int k' j)) : Pu P ⟨d, .call ⟨.builtin .min, #[x, y], ts⟩, ty, pos, af, g⟩ env (.int k (min i j)) := fun ρ w e => by
 have hm : (if j < i then j else i) = min i j := by split <;> omega
 have := run_min_int2 (P := P) (w := w) ts ty k k' i j
 simp [execOp, resolve, invoke, builtin, e.eval h, e.eval h', this, go_sem, hm]
theorem equal_slice_nil {t e : TypeId} (w : World) (a : Option Addr) (n c n' c' : Nat) (h : P.underlying t = some (.slice e)) : (Op.equal t (.slice a n c) (.slice none n' c')).run P w = .ok a.isNone w := by
 have : ∀ d : Nat, (Op.equalIn (d + 1) t (.slice a n c) (.slice none n' c')).run P w = .ok a.isNone w := fun d => by
   cases a <;> simp [Op.equalIn, run_underlying h]
 exact this 9999
theorem pu_eqL {E l c l' c' : Nat} {a : Option Addr} (ht : P.underlying T = some (.slice E)) (h : ev env x = some (.slice a l c)) (h' : ev env y = some (.slice none l' c')) : Pu P ⟨d, .binOp .eql T x y T', ty, pos, af, g⟩ env (.bool a.isNone) := fun ρ w e => by
 refine run_v (s := do eqGuard .eql T x y (ρ x) (ρ y); binOp .eql T (ρ x) (ρ y)) ?_
 rw [e.eval h, e.eval h']
 have : (do eqGuard .eql T x y (.slice a l c) (.slice none l' c'); binOp .eql T (.slice a l c) (.slice none l' c') : Sem Value) = (do pure (.bool (← Op.equal T (.slice a l c) (.slice none l' c')))) := by cases a <;> rfl
 rw [this]; simp only [Sem.run_bind, equal_slice_nil w a l c l' c' ht, Result.andThen_ok]; rfl
end
section
variable {α : Type} {w0 : World} {n : Nat} {env : Env} {H : List HProp} {X : Act → World → Prop}
theorem sl_room {E sz : Nat} {enc : α → List Value} {a : Option Addr} {c : Nat} {xs : List α} (k : Nat) (hk : k ≤ xs.length) : ∀ h, sl E sz enc a c xs h → sl E sz enc a k (xs.take k) h := fun h x => by
 rcases x with ⟨rfl, rfl, rfl⟩ | ⟨b, off, cells, rfl, hp, h1, h2, h3⟩
 · obtain rfl : k = 0 := by simpa using hk
   exact .inl ⟨rfl, rfl, rfl⟩
 · refine .inr ⟨b, off, cells, rfl, hp, by simp; omega, ?_, fun i y hi j v hj => h3 i y ?_ j v hj⟩
   · have := Nat.mul_le_mul_right sz (Nat.le_trans hk h1); omega
   · rw [List.getElem?_take] at hi; split at hi
     · exact hi
     · cases hi
theorem Srd.cutH {sz : Nat} {enc : α → List Value} {A : HProp} {a : Option Addr} {xs : List α} (S : Srd A sz enc a xs) (k c : Nat) (hc : xs.length ≤ c) : Srd A sz enc (suba a 0 c sz) (xs.take k) := fun w1 _ _ t => (S w1 _ _ t).cutH k c hc
theorem Srd.cutL {sz : Nat} {enc : α → List Value} {A : HProp} {a : Option Addr} {xs : List α} (S : Srd A sz enc a xs) (k c : Nat) (hc : xs.length ≤ c) : Srd A sz enc (suba a k c sz) (xs.drop k) := fun w1 _ _ t => (S w1 _ _ t).cutL k c hc
theorem Gs.slRoom {E sz : Nat} {enc : α → List Value} {a : Option Addr} {c : Nat} {xs : List α} {H' : List HProp} (k : Nat) (hk : k ≤ xs.length) (t : Take (sl E sz enc a c xs) H H') (g : Gs w0 n env (sl E sz enc a k (xs.take k) :: H') X) : Gs w0 n env H X :=
 fun ac w e s => g ac w e ((s.take t).ent (sl_room k hk))
end
end Go.Sl
namespace Go.Sl
open Go
def Opn (P : Program) (W : World) (t : TypeId) {α : Type} (enc : α → List Value) (good : α → Prop) : Prop :=
 ∀ (H : Type) (e : TypeId × Value → H) (fuel : Nat) (cs : List Value) (x : DataW H × List MemPlace), DataW.trod e P W 0 (fun _ => true) true fuel t cs = some x → ∃ a, cs = enc a ∧ good a
section
variable {P : Program} {W : World} {t : TypeId}
theorem Opn.int {k : IntKind} (ht : P.underlying t = some (.int k)) : Opn P W t (fun i : Int => [.int k i]) (fun i => (Lit.int k i).wf = true) := fun H e fuel cs x h => by
 obtain ⟨n, h1, -, h2⟩ := DataW.trod_int ht h; exact ⟨n, h1, h2⟩
structure SlV (α : Type) where
 a : Option Addr
 xs : List α
 c : Nat
abbrev slC {α : Type} (s : SlV α) : List Value := [.slice s.a s.xs.length s.c]
abbrev SlGood {α : Type} (W : World) (sz : Nat) (enc : α → List Value) (good : α → Prop) (s : SlV α) : Prop := slR (whole W) sz enc s.a s.xs ∧ s.xs.length ≤ maxLen ∧ s.xs.length ≤ s.c ∧ s.c ≤ maxLen ∧ ∀ x ∈ s.xs, good x
theorem list_of {α : Type} {Q : Nat → α → Prop} : ∀ (n : Nat), (∀ i, i < n → ∃ a, Q i a) → ∃ l : List α, l.length = n ∧ ∀ i a, l[i]? = some a → Q i a
 | 0, _ => ⟨[], rfl, by simp⟩
 | n + 1, h => by
   obtain ⟨l, h1, h2⟩ := list_of n fun i hi => h i (by omega)
   obtain ⟨a, ha⟩ := h n (by omega)
   refine ⟨l ++ [a], by simp [h1], fun i b hb => ?_⟩
   by_cases hi : i < n
   · rw [List.getElem?_append_left (by omega)] at hb; exact h2 i b hb
   · have hlt := (List.getElem?_eq_some_iff.1 hb).1
     have : i = n := by simp [h1] at hlt; omega
     subst this
     rw [List.getElem?_append_right (by omega), h1] at hb
     simp at hb; subst hb; exact ha
theorem Opn.slice {α : Type} {enc : α → List Value} {good : α → Prop} {el sz : Nat} (ht : P.underlying t = some (.slice el)) (hc : P.cellsOf el = sz) (h0 : 0 < sz) (h : Opn P W el enc good) :
   Opn P W t slC (SlGood W sz enc good) := fun H e fuel cs x hx => by
 rcases DataW.trod_slice ht hx with ⟨rfl, -⟩ | ⟨a, len, cap, elems, rest, n, -, rfl, -, -, hl, hm, hlen, hel, -, -⟩
 · exact ⟨⟨none, [], 0⟩, rfl, fun h => (h rfl).elim, Nat.zero_le _, Nat.zero_le _, Nat.zero_le _, fun _ h => by cases h⟩
 · have each : ∀ i, i < len → ∃ y : α, good y ∧ ∀ j v, (enc y)[j]? = some v → j < sz ∧ W.cell? ((a.add (i * sz)).add j) = some v := fun i hi => by
     have := hel i hi
     rw [hc] at this
     have hy : elems[i]? = some elems[i] := by simp [hlen, hi]
     rw [hy, Option.bind_eq_some_iff] at this
     obtain ⟨ds, hd, hr⟩ := this
     obtain ⟨-, hdl, hdc⟩ := World.cells?_some hd
     obtain ⟨y, rfl, hg⟩ := h H e n ds _ hr
     refine ⟨y, hg, fun j v hj => ?_⟩
     have hjl : j < sz := by rw [← hdl]; exact (List.getElem?_eq_some_iff.1 hj).1
     exact ⟨hjl, (hdc j hjl).trans hj⟩
   obtain ⟨xs, hxl, hxs⟩ := list_of len each
   refine ⟨⟨some a, xs, cap⟩, by simp [hxl], ?_, by show xs.length ≤ _; omega, by show xs.length ≤ cap; omega, hm, fun y hy => ?_⟩
   · intro hne
     have hpos : 0 < len := by rw [← hxl]; exact List.length_pos_iff.2 hne
     -- the first element has a cell
     have hcell : ∃ v, W.cell? (a.add 0) = some v := by
       have := hel 0 hpos
       rw [hc] at this
       have hy : elems[0]? = some elems[0] := by simp [hlen, hpos]
       rw [hy, Option.bind_eq_some_iff] at this
       obtain ⟨ds, hd, -⟩ := this
       obtain ⟨-, hdl, hdc⟩ := World.cells?_some hd
       have := hdc 0 h0
       rw [Nat.zero_mul] at this
       have hlt : 0 < ds.length := by omega
       refine ⟨ds[0], ?_⟩
       have e : (a.add 0).add 0 = a.add 0 := by simp [Addr.add]
       rw [e] at this
       rw [this]; simp [hlt]
     obtain ⟨v0, hv0⟩ := hcell
     have ha0 : a.add 0 = a := by simp [Addr.add]
     rw [ha0] at hv0
     have hsp := World.cell?_spot hv0
     obtain ⟨b, off, sp⟩ := a
     simp only at hsp; subst hsp
     have hb : ∃ cells E fr, W.heap[b]? = some (.cells cells E fr) := by
       unfold World.cell? at hv0
       simp only at hv0
       split at hv0
       · rename_i c E fr hh; exact ⟨c, E, fr, hh⟩
       · cases hv0
     obtain ⟨cells, E, fr, hh⟩ := hb
     refine ⟨b, off, cells, E, fr, rfl, hh, fun i y hi j v hj => ?_⟩
     obtain ⟨-, hq⟩ := hxs i y hi
     obtain ⟨-, hcj⟩ := hq j v hj
     have hadd : ((⟨b, off, none⟩ : Addr).add (i * sz)).add j = ⟨b, off + (i * sz + j), none⟩ := by
       unfold Addr.add; split <;> split <;> simp_all <;> omega
     rw [hadd] at hcj
     simpa [World.cell?, hh] using hcj
   · obtain ⟨i, hi⟩ := List.mem_iff_getElem?.1 hy
     exact (hxs i y hi).1
theorem Opn.val {α : Type} {enc : α → List Value} {good : α → Prop} (h : Opn P W t enc good) {H : Type} {e : TypeId × Value → H} {v : Value} {d : DataW H} {ps : List MemPlace} (hd : DataW.Trod e P W 0 (fun _ => true) true t v d ps) : ∃ a, v.cells.toList = enc a ∧ good a := by
 obtain ⟨fuel, hf⟩ := hd; exact h H e fuel _ _ hf
end
end Go.Sl
namespace Go.Po
open Go Go.Sl Go.Gv
structure PostV where
 k : Key
 t : SlV Int
abbrev postC (p : PostV) : List Value := [int p.k.o, int p.k.q, .slice p.t.a p.t.xs.length p.t.c]
abbrev postV (p : PostV) : Value := .agg (postC p).toArray
abbrev PostP : Type := Key × List Int
def PostV.p (p : PostV) : PostP := (p.k, p.t.xs)
def risesFrom : Int → List Int → Bool
 | _, [] => true
 | a, n :: l => decide (a < n) && risesFrom n l
def risesB (l : List Int) : Bool := risesFrom (-1) l && decide (l ≠ [])
def lastOr (a : Int) (l : List Int) : Int := l.getLast?.getD a
theorem risesFrom_snoc : ∀ (a : Int) (l : List Int) (x : Int), risesFrom a (l ++ [x]) = (risesFrom a l && decide (lastOr a l < x))
 | a, [], x => by simp only [List.nil_append, risesFrom, Bool.and_true, Bool.true_and]; rfl
 | a, n :: l, x => by
   have h := risesFrom_snoc n l x
   have e : lastOr a (n :: l) = lastOr n l := by
     cases l with
     | nil => rfl
     | cons m l => simp [lastOr, List.getLast?_cons]
   simp only [List.cons_append, risesFrom, h, e, Bool.and_assoc]
theorem lastOr_snoc (a : Int) (l : List Int) (x : Int) : lastOr a (l ++ [x]) = x := by simp [lastOr]
theorem rises_take {a : Int} {l : List Int} {i : Nat} {x : Int} (h : l[i]? = some x) : risesFrom a (l.take (i + 1)) = (risesFrom a (l.take i) && decide (lastOr a (l.take i) < x)) := by
 rw [List.take_add_one, h]; exact risesFrom_snoc ..
theorem last_take {a : Int} {l : List Int} {i : Nat} {x : Int} (h : l[i]? = some x) : lastOr a (l.take (i + 1)) = x := by
 rw [List.take_add_one, h]; exact lastOr_snoc ..
theorem rises_cut {a : Int} : ∀ {l m : List Int}, risesFrom a (l ++ m) = true → risesFrom a l = true
 | [], _, _ => rfl
 | n :: l, m, h => by
   simp only [List.cons_append, risesFrom, Bool.and_eq_true] at h ⊢
   exact ⟨h.1, rises_cut h.2⟩
theorem rises_not {l : List Int} {i : Nat} (h : risesFrom (-1) (l.take i) = false) : risesB l = false := by
 cases hr : risesFrom (-1) l with
 | false => simp [risesB, hr]
 | true =>
   rw [← List.take_append_drop i l] at hr
   rw [rises_cut hr] at h; cases h
def mayFrom : Option Key → List PostP → Bool
 | _, [] => true
 | q, p :: l => risesB p.2 && ((match q with | none => true | some k => before k p.1) && mayFrom (some p.1) l)
def mayB (l : List PostP) : Bool := mayFrom none l
def lastK (q : Option Key) (l : List PostP) : Option Key := match l.getLast? with | none => q | some p => some p.1
theorem mayFrom_snoc : ∀ (q : Option Key) (l : List PostP) (x : PostP), mayFrom q (l ++ [x]) = (mayFrom q l && (risesB x.2 && (match lastK q l with | none => true | some k => before k x.1)))
 | q, [], x => by simp [mayFrom, lastK]
 | q, p :: l, x => by
   have h := mayFrom_snoc (some p.1) l x
   have e : lastK q (p :: l) = lastK (some p.1) l := by
     cases l with
     | nil => rfl
     | cons m l => simp [lastK, List.getLast?_cons]
   simp only [List.cons_append, mayFrom, h, e, Bool.and_assoc]
theorem mayFrom_cut : ∀ {q : Option Key} {l m : List PostP}, mayFrom q (l ++ m) = true → mayFrom q l = true
 | _, [], _, _ => rfl
 | q, p :: l, m, h => by
   simp only [List.cons_append, mayFrom, Bool.and_eq_true] at h ⊢
   exact ⟨h.1, h.2.1, mayFrom_cut h.2.2⟩
theorem may_not {l : List PostP} {i : Nat} (h : mayB (l.take i) = false) : mayB l = false := by
 cases hr : mayB l with
 | false => rfl
 | true =>
   rw [← List.take_append_drop i l] at hr
   rw [mayB, mayFrom_cut hr] at h; cases h
theorem lastK_take {l : List PostP} {i : Nat} {x : PostP} (h : l[i]? = some x) : lastK none (l.take (i + 1)) = some x.1 := by
 rw [List.take_add_one, h]; simp [lastK]
theorem may_take {l : List PostP} {i : Nat} {x : PostP} (h : l[i]? = some x) : mayB (l.take (i + 1)) = (mayB (l.take i) && (risesB x.2 && (match lastK none (l.take i) with | none => true | some k => before k x.1))) := by
 rw [List.take_add_one, h]; exact mayFrom_snoc ..
theorem not_t {b : Bool} (h : (!b) = true) : b = false := by cases b <;> first | rfl | cases h
theorem not_f {b : Bool} (h : (!b) = false) : b = true := by cases b <;> first | rfl | cases h
theorem may_step0 {P : List PostP} {x : PostP} {i : Nat} (hi : i = 0) (h : P[i]? = some x) : mayB (P.take (i + 1)) = risesB x.2 := by
 subst hi
 rw [may_take h]; simp [mayB, mayFrom, lastK]
theorem may_stepS {P : List PostP} {x y : PostP} {i : Nat} (hi : 0 < i) (h : P[i]? = some x) (hy : P[i - 1]? = some y) (hm : mayB (P.take i) = true) : mayB (P.take (i + 1)) = (risesB x.2 && before y.1 x.1) := by
 have := lastK_take hy
 rw [show i - 1 + 1 = i by omega] at this
 rw [may_take h, hm, this, Bool.true_and]
theorem may_step_no {P : List PostP} {x : PostP} {i : Nat} (h : P[i]? = some x) (hx : risesB x.2 = false) : mayB P = false :=
 may_not (i := i + 1) (by rw [may_take h, hx, Bool.false_and, Bool.and_false])
end Go.Po
namespace Go.Proofs.YtflfhpokmidnmaaGreatDoor
open Go Go.Sl Go.Gv Go.Po
set_option maxRecDepth 100000
abbrev ptr (b : Nat) : Value := .pointer (some ⟨b, 0, none⟩)
abbrev encC_3 : Int → List Value := intC
abbrev encC_219 : PostV → List Value := postC
abbrev encC_30 : SlV Int → List Value := slC
theorem ek_3 : EncOk 1 intC := ⟨fun _ => rfl, fun x v hv => by
 simp only [intC, List.mem_cons, List.not_mem_nil, or_false] at hv
 rcases hv with rfl; rfl⟩
theorem ek_35 : EncOk 2 keyC := ⟨fun _ => rfl, fun x v hv => by
 simp only [keyC, List.mem_cons, List.not_mem_nil, or_false] at hv
 rcases hv with rfl | rfl <;> rfl⟩
theorem ek_219 : EncOk 3 postC := ⟨fun _ => rfl, fun x v hv => by
 simp only [postC, List.mem_cons, List.not_mem_nil, or_false] at hv
 rcases hv with rfl | rfl | rfl <;> rfl⟩
theorem ek_30 : EncOk 1 (slC : SlV Int → List Value) := ⟨fun _ => rfl, fun x v hv => by
 simp only [slC, List.mem_cons, List.not_mem_nil, or_false] at hv
 rcases hv with rfl; rfl⟩
theorem cmp_35 : CmpT Tryz.prog 35 keyV 2 :=
 CmpT.of (fun k : Key => (k.o, k.q)) (fun a b => by cases a; cases b; simp) (fun _ => rfl)
   (cmp_ii Tryz.underlying35 Tryz.stoodInHeld35 ⟨by decide, by decide⟩ ⟨⟨rfl, rfl⟩, rfl, rfl⟩ Tryz.underlying3 na_3)
def PRd (S : HProp) (a : Option Addr) (ps : List PostV) : Prop := Srd S 3 postC a ps ∧ ∀ p ∈ ps, Srd S 1 intC p.t.a p.t.xs ∧ p.t.xs.length ≤ 1000
abbrev plain1 (ps : List PostV) : List PostP := ps.map PostV.p
theorem plain_at {ps : List PostV} {i : Nat} {p : PostV} (h : ps[i]? = some p) : (plain1 ps)[i]? = some p.p := by simp [h]
end Go.Proofs.YtflfhpokmidnmaaGreatDoor
namespace Go.Proofs.YtflfhpokmidnmaaGreatDoor
open Go Go.Sl Go.Gv Go.Po
set_option maxRecDepth 100000
theorem kt_35 : KeyT Tryz.prog 35 keyV :=
 KeyT.struct Tryz.underlying35 cmp_35 (by decide) (fun e k w => check_struct Tryz.underlying35 (by
   intro f hf
   simp only [List.mem_cons, List.not_mem_nil, or_false] at hf
   rcases hf with rfl | rfl
   · exact ⟨_, part_na na_3 rfl, check_int Tryz.underlying3⟩
   · exact ⟨_, part_na na_3 rfl, check_int Tryz.underlying3⟩)) (fun k => by simp [Instr.sameBits])
theorem cmp_48 : CmpT Tryz.prog 48 (fun p : Int × Int => .agg #[.int .i64 p.1, .int .i64 p.2]) 2 :=
 cmp_ii Tryz.underlying48 Tryz.stoodInHeld48 ⟨by decide, by decide⟩ ⟨⟨rfl, rfl⟩, rfl, rfl⟩ Tryz.underlying3 na_3
theorem cmp_50 : CmpT Tryz.prog 50 recV 3 :=
 CmpT.of (fun r : Rec => (r.o, r.q, r.w, r.c, r.t)) (fun a b => by cases a; cases b; simp) (fun _ => rfl)
   (cmp_iiiis Tryz.underlying50 Tryz.stoodInHeld50 ⟨by decide, by decide, by decide⟩ ⟨⟨rfl, rfl, rfl⟩, rfl, rfl, rfl⟩
     (cmp_ii Tryz.underlying35 Tryz.stoodInHeld35 ⟨by decide, by decide⟩ ⟨⟨rfl, rfl⟩, rfl, rfl⟩ Tryz.underlying3 na_3) ag_35 cmp_48 ag_48 Tryz.underlying9 na_9)
abbrev enck_35 : Key → Value := keyV
abbrev encv_50 : Rec → Value := recV
theorem zvk_50 : ZV Tryz.prog 50 (recV Rec.zero) := zv_50
abbrev encC_50 : Rec → List Value := recC
theorem ek_50 : EncOk 5 recC := ⟨fun _ => rfl, fun x v hv => by
 simp only [recC, List.mem_cons, List.not_mem_nil, or_false] at hv
 rcases hv with rfl | rfl | rfl | rfl | rfl <;> rfl⟩
end Go.Proofs.YtflfhpokmidnmaaGreatDoor
namespace Go.Proofs.YtflfhpokmidnmaaGreatDoor
open Go Go.Sl Go.Gv
set_option maxRecDepth 100000
end Go.Proofs.YtflfhpokmidnmaaGreatDoor
