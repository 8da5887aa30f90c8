/- What the closing leans on: part 1. -/
import Derived.WalkKit
import Derived.Eval
import Derived.Shelf.Abstract
namespace Go.Sl
open Go
abbrev Hp := Nat → Option Obj
abbrev HProp := Hp → Prop
def Hp.le (h : Hp) (w : World) : Prop := ∀ b o, h b = some o → w.heap[b]? = some o
def Hp.disj (h k : Hp) : Prop := ∀ b, h b = none ∨ k b = none
def Hp.un (h k : Hp) : Hp := fun b => match h b with | some o => some o | none => k b
theorem Hp.disj.symm {h k : Hp} (d : h.disj k) : k.disj h := fun b => (d b).symm
theorem Hp.un_comm {h k : Hp} (d : h.disj k) : h.un k = k.un h := by
 funext b; unfold Hp.un; rcases d b with e | e <;> rw [e] <;> (cases h b <;> cases k b <;> simp_all)
theorem Hp.un_assoc (h k l : Hp) : (h.un k).un l = h.un (k.un l) := by
 funext b; unfold Hp.un; cases h b <;> rfl
theorem Hp.un_none {h k : Hp} {b : Nat} : h.un k b = none ↔ h b = none ∧ k b = none := by
 unfold Hp.un; cases h b <;> simp
theorem Hp.disj_un {h k l : Hp} : h.disj (k.un l) ↔ h.disj k ∧ h.disj l := by
 constructor
 · intro d
   exact ⟨fun b => (d b).imp id fun e => (Hp.un_none.1 e).1, fun b => (d b).imp id fun e => (Hp.un_none.1 e).2⟩
 · rintro ⟨d, e⟩ b
   rcases d b with x | x
   · exact .inl x
   · exact (e b).imp id fun y => Hp.un_none.2 ⟨x, y⟩
theorem Hp.un_disj {h k l : Hp} : (h.un k).disj l ↔ h.disj l ∧ k.disj l :=
 ⟨fun d => ⟨(Hp.disj_un.1 d.symm).1.symm, (Hp.disj_un.1 d.symm).2.symm⟩, fun d => (Hp.disj_un.2 ⟨d.1.symm, d.2.symm⟩).symm⟩
theorem Hp.un_left {h k : Hp} {b : Nat} {o : Obj} (e : h b = some o) : h.un k b = some o := by unfold Hp.un; rw [e]
theorem Hp.un_right {h k : Hp} (d : h.disj k) {b : Nat} {o : Obj} (e : k b = some o) : h.un k b = some o := by
 rw [Hp.un_comm d]; exact Hp.un_left e
def big : List HProp → HProp
 | [], _ => True
 | A :: L, h => ∃ h1 h2, Hp.disj h1 h2 ∧ h = h1.un h2 ∧ A h1 ∧ big L h2
theorem big_swap {A B : HProp} {L : List HProp} {h : Hp} (x : big (A :: B :: L) h) : big (B :: A :: L) h := by
 obtain ⟨h1, h2, d, rfl, a, h3, h4, e, rfl, b, l⟩ := x
 obtain ⟨d1, d2⟩ := Hp.disj_un.1 d
 refine ⟨h3, h1.un h4, Hp.disj_un.2 ⟨d1.symm, e⟩, ?_, b, h1, h4, d2, rfl, a, l⟩
 rw [← Hp.un_assoc, ← Hp.un_assoc, Hp.un_comm d1]
theorem big_under {A : HProp} {L M : List HProp} (i : ∀ h, big L h → big M h) {h : Hp} (x : big (A :: L) h) : big (A :: M) h := by
 obtain ⟨h1, h2, d, rfl, a, l⟩ := x; exact ⟨h1, h2, d, rfl, a, i _ l⟩
inductive Take (A : HProp) : List HProp → List HProp → Prop
 | hd {L : List HProp} : Take A (A :: L) L
 | tl {B : HProp} {L L' : List HProp} : Take A L L' → Take A (B :: L) (B :: L')
theorem Take.go {A : HProp} {L L' : List HProp} (t : Take A L L') : ∀ {h : Hp}, big L h → big (A :: L') h := by
 induction t with
 | hd => exact fun x => x
 | tl _ ih => exact fun x => big_swap (big_under (fun _ => ih) x)
theorem Take.back {A : HProp} {L L' : List HProp} (t : Take A L L') : ∀ {h : Hp}, big (A :: L') h → big L h := by
 induction t with
 | hd => exact fun x => x
 | tl _ ih => exact fun x => big_under (fun _ => ih) (big_swap x)
inductive Takes : List HProp → List HProp → List HProp → Prop
 | nil {L : List HProp} : Takes [] L L
 | cons {A : HProp} {As L L1 L2 : List HProp} : Take A L L1 → Takes As L1 L2 → Takes (A :: As) L L2
theorem big_append {L M : List HProp} {h : Hp} : big (L ++ M) h ↔ ∃ h1 h2, Hp.disj h1 h2 ∧ h = h1.un h2 ∧ big L h1 ∧ big M h2 := by
 induction L generalizing h with
 | nil =>
   simp only [List.nil_append, big]
   constructor
   · intro m; exact ⟨fun _ => none, h, fun _ => .inl rfl, by funext b; rfl, trivial, m⟩
   · rintro ⟨h1, h2, d, rfl, -, m⟩
     -- what is under True may go: but M asks for just its part: every assertion here is closed upward by 'big_mono'
     exact (by
       have : ∀ (M : List HProp) (k g : Hp), k.disj g → big M g → big M (k.un g) := by
         intro M
         induction M with
         | nil => intros; trivial
         | cons A M ih =>
           rintro k g d ⟨g1, g2, e, rfl, a, m⟩
           obtain ⟨d1, d2⟩ := Hp.disj_un.1 d
           refine ⟨g1, k.un g2, Hp.disj_un.2 ⟨d1.symm, e⟩, ?_, a, ih _ _ d2 m⟩
           rw [← Hp.un_assoc, ← Hp.un_assoc, Hp.un_comm d1]
       exact this M h1 h2 d m)
 | cons A L ih =>
   constructor
   · rintro ⟨h1, h2, d, rfl, a, x⟩
     obtain ⟨h3, h4, e, rfl, l, m⟩ := ih.1 x
     obtain ⟨d1, d2⟩ := Hp.disj_un.1 d
     exact ⟨h1.un h3, h4, Hp.un_disj.2 ⟨d2, e⟩, (Hp.un_assoc ..).symm, ⟨h1, h3, d1, rfl, a, l⟩, m⟩
   · rintro ⟨h1, h2, d, rfl, ⟨h3, h4, e, rfl, a, l⟩, m⟩
     obtain ⟨d1, d2⟩ := Hp.un_disj.1 d
     exact ⟨h3, h4.un h2, Hp.disj_un.2 ⟨e, d1⟩, Hp.un_assoc .., a, ih.2 ⟨h4, h2, d2, rfl, l, m⟩⟩
theorem big_more {M : List HProp} {k g : Hp} (d : k.disj g) (m : big M g) : big M (k.un g) := by
 have := (big_append (L := []) (M := M)).2 ⟨k, g, d, rfl, trivial, m⟩
 simpa using this
structure Sat (w0 w : World) (L : List HProp) : Prop where
 os : w.os = w0.os
 tape : w.tape = w0.tape
 output : w.output = w0.output
 size : w0.heap.size ≤ w.heap.size
 heap : ∃ h, Hp.le h w ∧ big L h
theorem Sat.imp {w0 w : World} {L M : List HProp} (s : Sat w0 w L) (i : ∀ h, big L h → big M h) : Sat w0 w M :=
 ⟨s.os, s.tape, s.output, s.size, let ⟨h, le, l⟩ := s.heap; ⟨h, le, i h l⟩⟩
theorem Sat.take {w0 w : World} {A : HProp} {L L' : List HProp} (s : Sat w0 w L) (t : Take A L L') : Sat w0 w (A :: L') := s.imp fun _ => t.go
theorem Sat.takes {w0 w : World} {As L L' : List HProp} (s : Sat w0 w L) (t : Takes As L L') : Sat w0 w (As ++ L') := by
 have : ∀ {As L L' : List HProp}, Takes As L L' → ∀ h, big L h → big (As ++ L') h := by
   intro As L L' t
   induction t with
   | nil => exact fun _ x => x
   | cons t _ ih => exact fun h x => big_under (fun _ => ih _) (t.go x)
 exact s.imp (this t)
theorem Sat.drop {w0 w : World} {A : HProp} {L : List HProp} (s : Sat w0 w (A :: L)) : Sat w0 w L :=
 s.imp fun _ => by rintro ⟨h1, h2, d, rfl, -, l⟩; exact big_more d l
theorem Sat.ent {w0 w : World} {A B : HProp} {L : List HProp} (s : Sat w0 w (A :: L)) (i : ∀ h, A h → B h) : Sat w0 w (B :: L) :=
 s.imp fun _ => by rintro ⟨h1, h2, d, rfl, a, l⟩; exact ⟨h1, h2, d, rfl, i _ a, l⟩
inductive Ent : List HProp → List HProp → Prop
 | cons {A : HProp} {H H1 L : List HProp} : Take A H H1 → Ent H1 L → Ent H (A :: L)
 | refl {L : List HProp} : Ent L L
 | nil {L : List HProp} : Ent L []
 | drop {A : HProp} {H L : List HProp} : Ent H L → Ent (A :: H) L
theorem Ent.big {H L : List HProp} (e : Ent H L) : ∀ {h : Hp}, big H h → big L h := by
 induction e with
 | cons t _ ih => exact fun x => big_under (fun _ => ih) (t.go x)
 | refl => exact fun x => x
 | nil => exact fun _ => trivial
 | drop _ ih => exact fun ⟨h1, h2, d, e, _, l⟩ => by subst e; exact ih (big_more d l)
theorem Ent.sat {H L : List HProp} (e : Ent H L) {w0 w : World} (s : Sat w0 w H) : Sat w0 w L := s.imp fun _ => e.big
def pt (b : Nat) (o : Obj) : HProp := fun h => h b = some o ∧ ∀ c, c ≠ b → h c = none
def ro (h0 : Hp) : HProp := fun h => h = h0
theorem Sat.pt {w0 w : World} {b : Nat} {o : Obj} {L : List HProp} (s : Sat w0 w (Sl.pt b o :: L)) : w.heap[b]? = some o := by
 obtain ⟨h, le, h1, h2, d, rfl, ⟨e, -⟩, -⟩ := s.heap
 exact le b o (Hp.un_left e)
theorem Sat.ro {w0 w : World} {h0 : Hp} {L : List HProp} (s : Sat w0 w (Sl.ro h0 :: L)) : h0.le w := by
 obtain ⟨h, le, h1, h2, d, rfl, rfl, -⟩ := s.heap
 exact fun b o e => le b o (Hp.un_left e)
theorem Sat.toRo {w0 w : World} {A : HProp} {L : List HProp} (s : Sat w0 w (A :: L)) : ∃ h0, A h0 ∧ Sat w0 w (Sl.ro h0 :: L) := by
 obtain ⟨h, le, h1, h2, d, rfl, a, l⟩ := s.heap
 exact ⟨h1, a, s.os, s.tape, s.output, s.size, _, le, h1, h2, d, rfl, rfl, l⟩
theorem Sat.ex {α : Type} {w0 w : World} {A : α → HProp} {L : List HProp} (s : Sat w0 w ((fun h => ∃ x, A x h) :: L)) : ∃ x, Sat w0 w (A x :: L) := by
 obtain ⟨h, le, h1, h2, d, rfl, ⟨x, a⟩, l⟩ := s.heap
 exact ⟨x, s.os, s.tape, s.output, s.size, _, le, h1, h2, d, rfl, a, l⟩
theorem Sat.pure {w0 w : World} {p : Prop} {A : HProp} {L : List HProp} (s : Sat w0 w ((fun h => p ∧ A h) :: L)) : p ∧ Sat w0 w (A :: L) := by
 obtain ⟨h, le, h1, h2, d, rfl, ⟨x, a⟩, l⟩ := s.heap
 exact ⟨x, s.os, s.tape, s.output, s.size, _, le, h1, h2, d, rfl, a, l⟩
def two (A B : HProp) : HProp := fun h => ∃ h1 h2, Hp.disj h1 h2 ∧ h = h1.un h2 ∧ A h1 ∧ B h2
theorem Sat.two {w0 w : World} {A B : HProp} {L : List HProp} : Sat w0 w (two A B :: L) ↔ Sat w0 w (A :: B :: L) := by
 constructor
 · refine fun s => s.imp fun h => ?_
   rintro ⟨h1, h2, d, rfl, ⟨h3, h4, e, rfl, a, b⟩, l⟩
   obtain ⟨d1, d2⟩ := Hp.un_disj.1 d
   exact ⟨h3, h4.un h2, Hp.disj_un.2 ⟨e, d1⟩, Hp.un_assoc .., a, h4, h2, d2, rfl, b, l⟩
 · refine fun s => s.imp fun h => ?_
   rintro ⟨h1, h2, d, rfl, a, h3, h4, e, rfl, b, l⟩
   obtain ⟨d1, d2⟩ := Hp.disj_un.1 d
   exact ⟨h1.un h3, h4, Hp.un_disj.2 ⟨d2, e⟩, (Hp.un_assoc ..).symm, ⟨h1, h3, d1, rfl, a, b⟩, l⟩
theorem Sat.write {w0 w w' : World} {b : Nat} {o o' : Obj} {L : List HProp} (s : Sat w0 w (Sl.pt b o :: L)) (e1 : w'.os = w.os) (e2 : w'.tape = w.tape) (e3 : w'.output = w.output)
   (e5 : w.heap.size ≤ w'.heap.size) (hb : w'.heap[b]? = some o') (ho : ∀ c, c ≠ b → c < w.heap.size → w'.heap[c]? = w.heap[c]?) : Sat w0 w' (Sl.pt b o' :: L) := by
 obtain ⟨h, le, h1, h2, d, rfl, ⟨a, a'⟩, l⟩ := s.heap
 have hn : h2 b = none := (d b).resolve_left (by simp [a])
 refine ⟨e1.trans s.os, e2.trans s.tape, e3.trans s.output, Nat.le_trans s.size e5, Hp.un (fun c => if c = b then some o' else none) h2, ?_, _, h2, ?_, rfl, ⟨by simp, fun c hc => by simp [hc]⟩, l⟩
 · intro c x hx
   by_cases hc : c = b
   · subst hc; simp [Hp.un] at hx; rw [← hx]; exact hb
   · simp only [Hp.un, hc, if_false] at hx
     have := le c x (Hp.un_right d hx)
     rw [ho c hc (Array.getElem?_eq_some_iff.1 this).1]; exact this
 · intro c
   by_cases hc : c = b
   · subst hc; exact .inr hn
   · exact .inl (by simp [hc])
theorem Sat.same {w0 w w' : World} {L : List HProp} (s : Sat w0 w L) (e1 : w'.os = w.os) (e2 : w'.tape = w.tape) (e3 : w'.output = w.output)
   (e5 : w.heap.size ≤ w'.heap.size) (ho : ∀ c, c < w.heap.size → w'.heap[c]? = w.heap[c]?) : Sat w0 w' L := by
 obtain ⟨h, le, l⟩ := s.heap
 refine ⟨e1.trans s.os, e2.trans s.tape, e3.trans s.output, Nat.le_trans s.size e5, h, fun c x hx => ?_, l⟩
 have := le c x hx
 rw [ho c (Array.getElem?_eq_some_iff.1 this).1]; exact this
theorem Sat.drew {w0 w : World} {L : List HProp} (s : Sat w0 w L) : Sat w0 { w with drawn := w.drawn + 1 } L :=
 s.same rfl rfl rfl (Nat.le_refl _) fun _ _ => rfl
theorem Sat.alloc {w0 w : World} {L : List HProp} (s : Sat w0 w L) (o : Obj) : Sat w0 { w with heap := w.heap.push o } (Sl.pt w.heap.size o :: L) := by
 obtain ⟨h, le, l⟩ := s.heap
 refine ⟨s.os, s.tape, s.output, Nat.le_trans s.size (by simp), Hp.un (fun c => if c = w.heap.size then some o else none) h, ?_, _, h, ?_, rfl, ⟨by simp, fun c hc => by simp [hc]⟩, l⟩
 · intro c x hx
   by_cases hc : c = w.heap.size
   · subst hc; simp [Hp.un] at hx; rw [← hx]; simp
   · simp only [Hp.un, hc, if_false] at hx
     have := le c x hx
     have hl := (Array.getElem?_eq_some_iff.1 this).1
     simp only [Array.getElem?_push]
     rw [if_neg (by omega)]; exact this
 · intro c
   by_cases hc : c = w.heap.size
   · subst hc
     refine .inr ?_
     cases hh : h w.heap.size with
     | none => rfl
     | some x => have := (Array.getElem?_eq_some_iff.1 (le _ x hh)).1; omega
   · exact .inl (by simp [hc])
def whole (w : World) : Hp := fun b => w.heap[b]?
theorem Sat.start (w : World) : Sat w w [Sl.ro (whole w)] :=
 ⟨rfl, rfl, rfl, Nat.le_refl _, whole w, fun _ _ e => e, whole w, fun _ => none, fun _ => .inr rfl, by funext b; simp only [Hp.un]; cases whole w b <;> rfl, rfl, trivial⟩
theorem Sat.below {w w' : World} {L : List HProp} (s : Sat w w' (Sl.ro (whole w) :: L)) : RowKit.Below w.heap.size w w' :=
 ⟨s.os, s.tape, s.output, s.size, fun k hk => by
   have := s.ro k _ (show whole w k = some w.heap[k] by simp [whole, hk])
   rw [this]; simp [hk]⟩
abbrev Env := List (Nat × Value)
def lk : Env → Nat → Option Value
 | [], _ => none
 | (t, v) :: r, s => match Nat.beq t s with | true => some v | false => lk r s
structure EnvOk (n : Nat) (env : Env) (a : Act) : Prop where
 size : a.tmps.size = n
 defers : a.defers = []
 slots : ∀ t v, lk env t = some v → a.tmps.getD t undef = v
def ev (env : Env) : Operand → Option Value
 | .tmp t => lk env t
 | .const v => some v
 | .global g => some (.pointer (some ⟨g, 0, none⟩))
 | .func f => some (.func (.func f) #[] #[])
theorem EnvOk.eval {n : Nat} {env : Env} {a : Act} (h : EnvOk n env a) {x : Operand} {v : Value} (e : ev env x = some v) : a.eval x = v := by
 cases x with
 | tmp t => exact h.slots t v e
 | const c => exact Option.some.inj e
 | global g => exact Option.some.inj e
 | func f => exact Option.some.inj e
theorem beq_ne {a b : Nat} (h : ¬ a = b) : Nat.beq a b = false := by
 cases e : Nat.beq a b with
 | false => rfl
 | true => exact (h (Nat.eq_of_beq_eq_true e)).elim
theorem EnvOk.put {n : Nat} {env : Env} {a : Act} (h : EnvOk n env a) {d : Nat} (hd : d < n) (v : Value) : EnvOk n ((d, v) :: env) (a.put (some d) v) := by
 refine ⟨by simp [Act.put, h.size], h.defers, fun t u hu => ?_⟩
 simp only [lk] at hu
 by_cases ht : d = t
 · subst ht
   have hb : Nat.beq d d = true := by simp
   rw [hb] at hu
   simp at hu
   subst hu
   simp [Act.put, Array.getD_eq_getD_getElem?, h.size, hd]
 · have hb : Nat.beq d t = false := beq_ne ht
   rw [hb] at hu
   have := h.slots t u hu
   rw [← this]
   simp [Act.put, Array.getD_eq_getD_getElem?, ht]
inductive Sub (env : Env) : Env → Prop
 | nil : Sub env []
 | cons {t : Nat} {v : Value} {e : Env} : lk env t = some v → Sub env e → Sub env ((t, v) :: e)
theorem Sub.lk {env e : Env} (s : Sub env e) : ∀ {t : Nat} {v : Value}, Sl.lk e t = some v → Sl.lk env t = some v := by
 induction s with
 | nil => intro t v h; cases h
 | @cons t v e h _ ih =>
   intro u x hx
   simp only [Sl.lk] at hx
   by_cases htu : t = u
   · subst htu
     have hb : Nat.beq t t = true := by simp
     rw [hb] at hx; simp at hx; subst hx; exact h
   · have hb : Nat.beq t u = false := beq_ne htu
     rw [hb] at hx; exact ih hx
theorem EnvOk.sub {n : Nat} {env e : Env} {a : Act} (h : EnvOk n env a) (s : Sub env e) : EnvOk n e a := ⟨h.size, h.defers, fun t v hv => h.slots t v (s.lk hv)⟩
inductive Evs (env : Env) : List Operand → List Value → Prop
 | nil : Evs env [] []
 | cons {x : Operand} {v : Value} {xs : List Operand} {vs : List Value} : ev env x = some v → Evs env xs vs → Evs env (x :: xs) (v :: vs)
def Gs (w0 : World) (n : Nat) (env : Env) (H : List HProp) (X : Act → World → Prop) : Prop := ∀ a w, EnvOk n env a → Sat w0 w H → X a w
section goals
variable {w0 : World} {n : Nat} {env : Env} {H : List HProp} {X : Act → World → Prop}
theorem Gs.take {A : HProp} {H' : List HProp} (t : Take A H H') (g : Gs w0 n env (A :: H') X) : Gs w0 n env H X := fun a w e s => g a w e (s.take t)
theorem Gs.takes {As H' : List HProp} (t : Takes As H H') (g : Gs w0 n env (As ++ H') X) : Gs w0 n env H X := fun a w e s => g a w e (s.takes t)
theorem Gs.ex {α : Type} {A : α → HProp} (g : ∀ x, Gs w0 n env (A x :: H) X) : Gs w0 n env ((fun h => ∃ x, A x h) :: H) X := fun a w e s => let ⟨x, s⟩ := s.ex; g x a w e s
theorem Gs.pure {p : Prop} {A : HProp} (g : p → Gs w0 n env (A :: H) X) : Gs w0 n env ((fun h => p ∧ A h) :: H) X := fun a w e s => let ⟨x, s⟩ := s.pure; g x a w e s
theorem Gs.two {A B : HProp} (g : Gs w0 n env (A :: B :: H) X) : Gs w0 n env (two A B :: H) X := fun a w e s => g a w e (Sat.two.1 s)
theorem Gs.toTwo {A B : HProp} (g : Gs w0 n env (Sl.two A B :: H) X) : Gs w0 n env (A :: B :: H) X := fun a w e s => g a w e (Sat.two.2 s)
theorem Gs.drop {A : HProp} (g : Gs w0 n env H X) : Gs w0 n env (A :: H) X := fun a w e s => g a w e s.drop
variable {P : Program} {Q : Exit → Act → World → Prop}
theorem Gs.skip (g : Gs w0 n env H (Q .normal)) : Gs w0 n env H (Code.skip.wp P Q) := fun a w e s => wp_skip (g a w e s)
theorem Gs.seq {x y : Code} (g : Gs w0 n env H (x.wp P (Exit.then (y.wp P Q) Q))) : Gs w0 n env H ((Code.seq x y).wp P Q) := fun a w e s => wp_seq (g a w e s)
theorem Gs.ret (g : Gs w0 n env H (Q .ret)) : Gs w0 n env H (Code.ret.wp P Q) := fun a w e s => wp_ret (g a w e s)
theorem Gs.exit {i : Nat} (g : Gs w0 n env H (Q (.exit i))) : Gs w0 n env H ((Code.exit i).wp P Q) := fun a w e s => wp_exit (g a w e s)
theorem Gs.block {i : Nat} {c : Code} (g : Gs w0 n env H (c.wp P (Exit.inBlock i Q))) : Gs w0 n env H ((Code.block i c).wp P Q) := fun a w e s => wp_block (g a w e s)
theorem Gn {K : Act → World → Prop} (g : Gs w0 n env H K) : Gs w0 n env H (Exit.then K Q .normal) := g
theorem Gr {K : Act → World → Prop} (g : Gs w0 n env H (Q .ret)) : Gs w0 n env H (Exit.then K Q .ret) := g
theorem Gx {K : Act → World → Prop} {i : Nat} (g : Gs w0 n env H (Q (.exit i))) : Gs w0 n env H (Exit.then K Q (.exit i)) := g
theorem Gs.blk_n {i : Nat} (g : Gs w0 n env H (Q .normal)) : Gs w0 n env H (Exit.inBlock i Q .normal) := g
theorem Gs.blk_r {i : Nat} (g : Gs w0 n env H (Q .ret)) : Gs w0 n env H (Exit.inBlock i Q .ret) := g
theorem Gs.blk_hit {i : Nat} (g : Gs w0 n env H (Q .normal)) : Gs w0 n env H (Exit.inBlock i Q (.exit i)) := fun a w e s => by
 simp only [Exit.inBlock, if_true]; exact g a w e s
theorem Gs.cond_t {c : Operand} {x y : Code} (h : ev env c = some (.bool true)) (g : Gs w0 n env H (x.wp P Q)) : Gs w0 n env H ((Code.cond c x y).wp P Q) :=
 fun a w e s => wp_cond_true (e.eval h) (g a w e s)
theorem Gs.cond_f {c : Operand} {x y : Code} (h : ev env c = some (.bool false)) (g : Gs w0 n env H (y.wp P Q)) : Gs w0 n env H ((Code.cond c x y).wp P Q) :=
 fun a w e s => wp_cond_false (e.eval h) (g a w e s)
theorem Gs.cond {c : Operand} {x y : Code} {b : Bool} (h : ev env c = some (.bool b)) (g : b = true → Gs w0 n env H (x.wp P Q)) (k : b = false → Gs w0 n env H (y.wp P Q)) :
   Gs w0 n env H ((Code.cond c x y).wp P Q) :=
 fun a w e s => wp_cond_split (e.eval h) (fun hb => g hb a w e s) (fun hb => k hb a w e s)
theorem Gs.cond_tt {c : Operand} {x y : Code} {b : Bool} (h : ev env c = some (.bool b)) (hb : b = true) (g : Gs w0 n env H (x.wp P Q)) : Gs w0 n env H ((Code.cond c x y).wp P Q) := by
 subst hb; exact Gs.cond_t h g
theorem Gs.cond_ff {c : Operand} {x y : Code} {b : Bool} (h : ev env c = some (.bool b)) (hb : b = false) (g : Gs w0 n env H (y.wp P Q)) : Gs w0 n env H ((Code.cond c x y).wp P Q) := by
 subst hb; exact Gs.cond_f h g
def Again {σ : Type} (w0 : World) (n : Nat) (φ : σ → Prop) (E : σ → Env) (H : σ → List HProp) (μ : σ → Nat) (s : σ) (a : Act) (w : World) : Prop :=
 ∃ s', φ s' ∧ μ s' < μ s ∧ EnvOk n (E s') a ∧ Sat w0 w (H s')
theorem Gs.loop {σ : Type} (φ : σ → Prop) (E : σ → Env) (I : σ → List HProp) (μ : σ → Nat) (s0 : σ) (h0 : φ s0) {c : Code} (hE : Sub env (E s0)) (hH : Ent H (I s0))
   (body : ∀ s, φ s → Gs w0 n (E s) (I s) (c.wp P (Exit.then (Again w0 n φ E I μ s) Q))) : Gs w0 n env H ((Code.loop c).wp P Q) := by
 classical
 intro a w e s
 have mn : ∀ (p : Nat → Prop), (∃ k, p k) → ∃ k, p k ∧ ∀ j, p j → k ≤ j := by
   rintro p ⟨k, hk⟩
   induction k using Nat.strongRecOn with
   | _ k ih =>
     by_cases h : ∃ j, j < k ∧ p j
     · obtain ⟨j, hj, pj⟩ := h; exact ih j hj pj
     · exact ⟨k, hk, fun j pj => Nat.le_of_not_lt fun hj => h ⟨j, hj, pj⟩⟩
 let T : Act → World → Nat → Prop := fun a w k => ∃ s, φ s ∧ μ s = k ∧ EnvOk n (E s) a ∧ Sat w0 w (I s)
 let least : Act → World → Nat := fun a w => if h : ∃ k, T a w k then Classical.choose (mn _ h) else 0
 refine wp_loop (fun a w => ∃ k, T a w k) least ⟨_, s0, h0, rfl, e.sub hE, hH.sat s⟩ ?_
 intro a w hex
 have hl : least a w = Classical.choose (mn _ hex) := by simp only [least, dif_pos hex]
 obtain ⟨⟨s2, hφ, hm, e2, t2⟩, -⟩ := Classical.choose_spec (mn _ hex)
 rw [← hl] at hm
 refine Code.wp_mono ?_ (body s2 hφ a w e2 t2)
 intro ex a' w' h
 cases ex with
 | normal =>
   obtain ⟨s', hφ', hlt, e', t'⟩ := h
   have hex' : ∃ k, T a' w' k := ⟨_, s', hφ', rfl, e', t'⟩
   refine ⟨hex', ?_⟩
   have hl' : least a' w' = Classical.choose (mn _ hex') := by simp only [least, dif_pos hex']
   rw [hl', ← hm]
   exact Nat.lt_of_le_of_lt ((Classical.choose_spec (mn _ hex')).2 _ ⟨s', hφ', rfl, e', t'⟩) hlt
 | _ => exact h
theorem Gs.loop1 {α : Type} (φ : α → Prop) (E : α → Env) (I : α → List HProp) (μ : α → Nat) (x0 : α) (h0 : φ x0) {c : Code} (hE : Sub env (E x0)) (hH : Ent H (I x0))
   (body : ∀ x, φ x → Gs w0 n (E x) (I x) (c.wp P (Exit.then (Again w0 n (fun s : α => φ s) (fun s => E s) (fun s => I s) (fun s => μ s) x) Q))) : Gs w0 n env H ((Code.loop c).wp P Q) :=
 Gs.loop (fun s : α => φ s) (fun s => E s) (fun s => I s) (fun s => μ s) x0 h0 hE hH fun s h => body s h
theorem Gs.again1 {α : Type} {φ : α → Prop} {E : α → Env} {I : α → List HProp} {μ : α → Nat} {s : α} (x1 : α) (h : φ x1) (hm : μ x1 < μ s) (hE : Sub env (E x1)) (hH : Ent H (I x1)) :
   Gs w0 n env H (Again w0 n (fun s : α => φ s) (fun s => E s) (fun s => I s) (fun s => μ s) s) := fun _ w e t => ⟨x1, h, hm, e.sub hE, hH.sat t⟩
theorem Ag {α : Type} {φ : α → Prop} {E : α → Env} {I : α → List HProp} {μ : α → Nat} {s : α} (x1 : α) (h : φ x1) (hm : μ x1 < μ s) (hE : Sub env (E x1) := by repeat constructor) (hH : Ent H (I x1) := by repeat constructor) :
    Gs w0 n env H (Again w0 n (fun s : α => φ s) (fun s => E s) (fun s => I s) (fun s => μ s) s) := Gs.again1 x1 h hm hE hH
end goals
structure Ct (P : Program) (f : FuncId) (args : List Value) (pre : List HProp) (post : Value → List HProp → Prop) : Prop where
 enters : ∀ w, (callFunc f args.toArray).run P w = .ok (.enter f args.toArray) w
 calls : ∀ w0 w R, Sat w0 w (pre ++ R) → Calls P f args.toArray w fun e w' => ∃ v hs, e = .returned v ∧ post v hs ∧ Sat w0 w' (hs ++ R)
def envOf : List Value → Nat → Env
 | [], _ => []
 | v :: vs, k => (k, v) :: envOf vs (k + 1)
theorem lk_envOf (vs : List Value) : ∀ (k t : Nat) (v : Value), lk (envOf vs k) t = some v → k ≤ t ∧ vs[t - k]? = some v := by
 induction vs with
 | nil => intro k t v h; cases h
 | cons x vs ih =>
   intro k t v h
   simp only [envOf, lk] at h
   by_cases hk : k = t
   · subst hk
     have hb : Nat.beq k k = true := by simp
     rw [hb] at h; simpa using h
   · have hb : Nat.beq k t = false := beq_ne hk
     rw [hb] at h
     obtain ⟨h1, h2⟩ := ih (k + 1) t v h
     refine ⟨by omega, ?_⟩
     rw [show t - k = (t - (k + 1)) + 1 by omega]
     simpa using h2
theorem Ct.intro {P : Program} {f : FuncId} {fn : Func} {c : Code} {args : List Value} {pre : List HProp} {post : Value → List HProp → Prop}
   (hf : P.funcs[f]? = some fn) (hb : fn.body = some c) (hname : (fn.name == "runtime.NumGoroutine") = false) (n : Nat) (hn : fn.ntmps = n) (hle : args.length ≤ n)
   (g : ∀ w0 R, Gs w0 n (envOf args 0) (pre ++ R) (c.wp P (bodyPost P fn fun e w' => ∃ v hs, e = .returned v ∧ post v hs ∧ Sat w0 w' (hs ++ R)))) :
   Ct P f args pre post := by
 refine ⟨Go.Proofs.enters_of hf hname hb args.toArray, fun w0 w R s => calls_of_wp hf hb (g w0 R _ _ ⟨?_, rfl, ?_⟩ s)⟩
 · simp [hn]; omega
 · intro t v h
   obtain ⟨-, h⟩ := lk_envOf args 0 t v h
   have hl := (List.getElem?_eq_some_iff.1 h).1
   simp only [Nat.sub_zero] at h hl
   simp [Array.getD_eq_getD_getElem?, Array.getElem?_append, hl, (List.getElem?_eq_some_iff.1 h).2]
theorem Cti {P : Program} {f : FuncId} {fn : Func} {c : Code} {args : List Value} {pre : List HProp} {post : Value → List HProp → Prop}
    (hf : P.funcs[f]? = some fn) (hname : (fn.name == "runtime.NumGoroutine") = false) (n : Nat) (hn : fn.ntmps = n) (hle : Nat.ble args.length n = true) (hb : fn.body = some c)
    (g : ∀ w0 R, Gs w0 n (envOf args 0) (pre ++ R) (c.wp P (bodyPost P fn fun e w' => ∃ v hs, e = .returned v ∧ post v hs ∧ Sat w0 w' (hs ++ R)))) :
    Ct P f args pre post := Ct.intro hf hb hname n hn (Nat.le_of_ble_eq_true hle) g
theorem Ct.ofBelow {P : Program} {f : FuncId} {fn : Func} {c : Code} {args : List Value} {pre : List HProp} {V : World → Value} {post : Value → List HProp → Prop} (hf : P.funcs[f]? = some fn) (hb : fn.body = some c) (hname : (fn.name == "runtime.NumGoroutine") = false)
   (h : ∀ w0 w R, Sat w0 w (pre ++ R) → Calls P f args.toArray w fun e w' => e = .returned (V w) ∧ RowKit.Below w.heap.size w w') (hp : ∀ w, post (V w) pre) : Ct P f args pre post :=
 ⟨Go.Proofs.enters_of hf hname hb args.toArray, fun w0 w R s => (h w0 w R s).mono fun _ _ ⟨e, b⟩ => ⟨_, pre, e, hp w, s.same b.os b.tape b.output b.size fun c hc => b.block c hc⟩⟩
theorem Ct.mono {P : Program} {f : FuncId} {args : List Value} {pre : List HProp} {post post' : Value → List HProp → Prop} (S : Ct P f args pre post)
   (i : ∀ v hs, post v hs → post' v hs) : Ct P f args pre post' :=
 ⟨S.enters, fun w0 w R s => (S.calls w0 w R s).mono fun _ _ ⟨v, hs, e, p, t⟩ => ⟨v, hs, e, i v hs p, t⟩⟩
section ends
variable {w0 : World} {n : Nat} {env : Env} {H : List HProp} {P : Program} {fn : Func} {post : Value → List HProp → Prop} {R : List HProp}
theorem Gs.fin0 (hr : fn.results = #[]) (hs : List HProp) (hp : post (.tuple #[]) hs) (hH : Ent H (hs ++ R)) :
   Gs w0 n env H (bodyPost P fn (fun e w' => ∃ v hs, e = .returned v ∧ post v hs ∧ Sat w0 w' (hs ++ R)) .ret) := fun a w e s =>
 ⟨e.defers, _, results_none hr a.tmps P w, _, hs, rfl, hp, hH.sat s⟩
theorem Gs.fin1 {t : Nat} {v : Value} (hr : fn.results = #[.tmp t]) (h : lk env t = some v) (hs : List HProp) (hp : post v hs) (hH : Ent H (hs ++ R)) :
   Gs w0 n env H (bodyPost P fn (fun e w' => ∃ v hs, e = .returned v ∧ post v hs ∧ Sat w0 w' (hs ++ R)) .ret) := fun a w e s =>
 ⟨e.defers, v, by rw [results_tmp hr, e.slots t v h], v, hs, rfl, hp, hH.sat s⟩
theorem Gs.fin2 {t u : Nat} {v x : Value} (hr : fn.results = #[.tmp t, .tmp u]) (h : lk env t = some v) (k : lk env u = some x) (hs : List HProp) (hp : post (.tuple #[v, x]) hs) (hH : Ent H (hs ++ R)) :
   Gs w0 n env H (bodyPost P fn (fun e w' => ∃ v hs, e = .returned v ∧ post v hs ∧ Sat w0 w' (hs ++ R)) .ret) := fun a w e s =>
 ⟨e.defers, _, by rw [results_tmp2 hr, e.slots t v h, e.slots u x k], _, hs, rfl, hp, hH.sat s⟩
theorem Gs.fin_n {R' : Ending → World → Prop} (g : Gs w0 n env H (bodyPost P fn R' .ret)) : Gs w0 n env H (bodyPost P fn R' .normal) := g
end ends
end Go.Sl
namespace Go.Sl
open Go
section
variable {P : Program} {n : Nat} {w0 : World} {env : Env} {H : List HProp}
structure Rho (env : Env) (ρ : Operand → Value) : Prop where
 eval : ∀ {x : Operand} {v : Value}, ev env x = some v → ρ x = v
theorem EnvOk.rho {a : Act} (h : EnvOk n env a) : Rho env a.eval := ⟨h.eval⟩
theorem Evs.rho {ρ : Operand → Value} (h : Rho env ρ) {xs : List Operand} {vs : List Value} (e : Evs env xs vs) : xs.map ρ = vs := by
 induction e with
 | nil => rfl
 | cons e _ ih => simp [h.eval e, ih]
def Pu (P : Program) (o : Oper) (env : Env) (v : Value) : Prop := ∀ ρ w, Rho env ρ → (execOp ρ o).run P w = .ok (.value v) w
def Rd (P : Program) (o : Oper) (w0 : World) (env : Env) (H : List HProp) (v : Value) : Prop := ∀ ρ w, Rho env ρ → Sat w0 w H → (execOp ρ o).run P w = .ok (.value v) w
def Outc (P : Program) (R : Value → World → Prop) : Result Next → Prop
 | .ok (.value v) w => R v w
 | .ok .skip w => R undef w
 | .ok (.enter f args) w => Calls P f args w fun e w' => ∃ v, e = .returned v ∧ R v w'
 | _ => False
def Ac (P : Program) (o : Oper) (w0 : World) (env : Env) (H : List HProp) (post : Value → List HProp → Prop) : Prop :=
 ∀ ρ w, Rho env ρ → Sat w0 w H → Outc P (fun v w' => ∃ H', post v H' ∧ Sat w0 w' H') ((execOp ρ o).run P w)
theorem Outc.wp {R : Value → World → Prop} {o : Oper} {a : Act} {w : World} {K : Act → World → Prop} {Q : Exit → Act → World → Prop} (h : Outc P R ((execOp a.eval o).run P w)) (k : ∀ v w', R v w' → K (a.put o.dst v) w') : o.wp P a w K Q := by
 unfold Oper.wp
 generalize (execOp a.eval o).run P w = r at h
 cases r with
 | ok x w' =>
   cases x <;> simp only [Outc] at h <;> first
     | exact k _ _ h
     | exact h.mono (fun e w'' ⟨v, he, hv⟩ => by subst he; exact k _ _ hv)
     | exact h.elim
 | halt x w' => exact h.elim
theorem Pu.rd {o : Oper} {v : Value} (h : Pu P o env v) : Rd P o w0 env H v := fun ρ w e _ => h ρ w e
theorem Rd.ac {o : Oper} {v : Value} (h : Rd P o w0 env H v) : Ac P o w0 env H (fun u H' => u = v ∧ H' = H) := fun ρ w e s => by
 rw [h ρ w e s]; exact ⟨H, ⟨rfl, rfl⟩, s⟩
theorem Ac.of_run {o : Oper} {post : Value → List HProp → Prop}
   (h : ∀ ρ w, Rho env ρ → Sat w0 w H → ∃ v H' w', (execOp ρ o).run P w = .ok (.value v) w' ∧ post v H' ∧ Sat w0 w' H') : Ac P o w0 env H post := fun ρ w e s => by
 obtain ⟨v, H', w', hr, hp, hs⟩ := h ρ w e s
 rw [hr]; exact ⟨H', hp, hs⟩
theorem Ac.of_skip {o : Oper} {post : Value → List HProp → Prop}
   (h : ∀ ρ w, Rho env ρ → Sat w0 w H → ∃ H' w', (execOp ρ o).run P w = .ok .skip w' ∧ post undef H' ∧ Sat w0 w' H') : Ac P o w0 env H post := fun ρ w e s => by
 obtain ⟨H', w', hr, hp, hs⟩ := h ρ w e s
 rw [hr]; exact ⟨H', hp, hs⟩
theorem Outc.mono {R R' : Value → World → Prop} {r : Result Next} (h : Outc P R r) (i : ∀ v w, R v w → R' v w) : Outc P R' r := by
 cases r with
 | ok x w' =>
   cases x <;> simp only [Outc] at h ⊢ <;> first
     | exact i _ _ h
     | exact h.mono (fun e w'' ⟨v, he, hv⟩ => ⟨v, he, i _ _ hv⟩)
 | halt x w' => exact h
theorem Ac.mono {o : Oper} {post post' : Value → List HProp → Prop} (h : Ac P o w0 env H post) (i : ∀ v H', post v H' → post' v H') : Ac P o w0 env H post' :=
 fun ρ w e s => (h ρ w e s).mono fun v w' ⟨H', p, s'⟩ => ⟨H', i v H' p, s'⟩
theorem Ac.take {o : Oper} {post : Value → List HProp → Prop} {H' : List HProp} (i : ∀ w, Sat w0 w H → Sat w0 w H') (h : Ac P o w0 env H' post) : Ac P o w0 env H post :=
 fun ρ w e s => h ρ w e (i w s)
variable {Q : Exit → Act → World → Prop} {ops : Array Oper} {rest : List Oper}
theorem Gs.reg {id : Nat} {l : List Oper} (g : Gs w0 n env H (wpList P l.toArray Q l)) : Gs w0 n env H ((Code.region id l.toArray false).wp P Q) :=
 fun a w e s => wp_region_lit (g a w e s)
theorem Gsr {id : Nat} {l : List Oper} {y : Code} (g : Gs w0 n env H (wpList P l.toArray (Exit.then (y.wp P Q) Q) l)) : Gs w0 n env H ((Code.seq (Code.region id l.toArray false) y).wp P Q) := Gs.seq (Gs.reg g)
theorem pu_move {d : Option Tmp} {x : Operand} {ty : TypeId} {pos : String} {af : Array Edge} {g : Option (Nat × Bool)} {v : Value} (h : ev env x = some v) : Pu P ⟨d, .move x, ty, pos, af, g⟩ env v :=
 fun ρ w e => by simp [execOp, e.eval h, Sem.run, pure]
theorem pu_assign {d : Option Tmp} {x : Operand} {ty : TypeId} {pos : String} {af : Array Edge} {g : Option (Nat × Bool)} {v : Value} (h : ev env x = some v) : Pu P ⟨d, .assign x, ty, pos, af, g⟩ env v :=
 fun ρ w e => by simp [execOp, e.eval h, Sem.run, pure]
theorem pu_pick_t {d : Option Tmp} {c x y : Operand} {ty : TypeId} {pos : String} {af : Array Edge} {g : Option (Nat × Bool)} {v : Value} (hc : ev env c = some (.bool true)) (h : ev env x = some v) : Pu P ⟨d, .pick c x y, ty, pos, af, g⟩ env v :=
 fun ρ w e => by simp [execOp, e.eval hc, e.eval h, asBool, go_sem]
theorem pu_pick_f {d : Option Tmp} {c x y : Operand} {ty : TypeId} {pos : String} {af : Array Edge} {g : Option (Nat × Bool)} {v : Value} (hc : ev env c = some (.bool false)) (h : ev env y = some v) : Pu P ⟨d, .pick c x y, ty, pos, af, g⟩ env v :=
 fun ρ w e => by simp [execOp, e.eval hc, e.eval h, asBool, go_sem]
theorem pu_nil {d : Option Tmp} {x : Operand} {ty : TypeId} {pos : String} {af : Array Edge} {g : Option (Nat × Bool)} {p : Addr} (h : ev env x = some (.pointer (some p))) : Pu P ⟨d, .nilCheck x, ty, pos, af, g⟩ env (.pointer (some p)) :=
 fun ρ w e => by simp [execOp, e.eval h, Sem.run, pure]
theorem pu_func {d : Option Tmp} {fn : Fn} {fs cs : List Operand} {ty : TypeId} {pos : String} {af : Array Edge} {g : Option (Nat × Bool)} {us vs : List Value} (h : Evs env fs us) (k : Evs env cs vs) :
   Pu P ⟨d, .makeFunc fn fs.toArray cs.toArray, ty, pos, af, g⟩ env (.func fn us.toArray vs.toArray) :=
 fun ρ w e => by simp [execOp, Instr.makeFunc, h.rho e, k.rho e, go_sem]
theorem pu_extract {d : Option Tmp} {x : Operand} {i : Nat} {ty : TypeId} {pos : String} {af : Array Edge} {g : Option (Nat × Bool)} {vs : List Value} {v : Value} (h : ev env x = some (.tuple vs.toArray)) (hv : vs[i]? = some v) :
   Pu P ⟨d, .extract x i, ty, pos, af, g⟩ env v :=
 fun ρ w e => by simp [execOp, e.eval h, Instr.extract, hv, go_sem]
theorem pu_not {d : Option Tmp} {x : Operand} {T ty : TypeId} {pos : String} {af : Array Edge} {g : Option (Nat × Bool)} {b : Bool} (h : ev env x = some (.bool b)) : Pu P ⟨d, .unOp .not T x, ty, pos, af, g⟩ env (.bool (!b)) :=
 fun ρ w e => by simp [execOp, e.eval h, Op.unary, go_sem]
section binary
variable {d : Option Tmp} {x y : Operand} {T T' ty : TypeId} {pos : String} {af : Array Edge} {g : Option (Nat × Bool)} {k : IntKind} {i j : Int}
theorem eqGuard_int (op : BinOp) (T : TypeId) (x y : Operand) (k : IntKind) (i j : Int) (w : World) : (eqGuard op T x y (.int k i) (.int k j)).run P w = .ok () w := by
 cases op <;> simp [eqGuard, go_sem]
theorem pu_add (h : ev env x = some (.int k i)) (h' : ev env y = some (.int k j)) : Pu P ⟨d, .binOp .add T x y T', ty, pos, af, g⟩ env (.int k (k.wrap (i + j))) :=
 fun ρ w e => by simp [execOp, e.eval h, e.eval h', eqGuard, binOp, Op.intArith, go_sem]
theorem pu_sub (h : ev env x = some (.int k i)) (h' : ev env y = some (.int k j)) : Pu P ⟨d, .binOp .sub T x y T', ty, pos, af, g⟩ env (.int k (k.wrap (i - j))) :=
 fun ρ w e => by simp [execOp, e.eval h, e.eval h', eqGuard, binOp, Op.intArith, go_sem]
theorem pu_mul (h : ev env x = some (.int k i)) (h' : ev env y = some (.int k j)) : Pu P ⟨d, .binOp .mul T x y T', ty, pos, af, g⟩ env (.int k (k.wrap (i * j))) :=
 fun ρ w e => by simp [execOp, e.eval h, e.eval h', eqGuard, binOp, Op.intArith, go_sem]
theorem wrap_in {z : Int} (h1 : -9223372036854775808 ≤ z) (h2 : z < 9223372036854775808) : IntKind.i64.wrap z = z := by
 simp only [IntKind.wrap, IntKind.bits, IntKind.signed]; simp; omega
theorem pu_addI {z : Int} (h : ev env x = some (.int .i64 i)) (h' : ev env y = some (.int .i64 j)) (hz : z = i + j) (h1 : -9223372036854775808 ≤ i + j) (h2 : i + j < 9223372036854775808) : Pu P ⟨d, .binOp .add T x y T', ty, pos, af, g⟩ env (.int .i64 z) := by
 have := pu_add (P := P) (d := d) (T := T) (T' := T') (ty := ty) (pos := pos) (af := af) (g := g) h h'; rwa [wrap_in h1 h2, ← hz] at this
theorem pu_subI {z : Int} (h : ev env x = some (.int .i64 i)) (h' : ev env y = some (.int .i64 j)) (hz : z = i - j) (h1 : -9223372036854775808 ≤ i - j) (h2 : i - j < 9223372036854775808) : Pu P ⟨d, .binOp .sub T x y T', ty, pos, af, g⟩ env (.int .i64 z) := by
 have := pu_sub (P := P) (d := d) (T := T) (T' := T') (ty := ty) (pos := pos) (af := af) (g := g) h h'; rwa [wrap_in h1 h2, ← hz] at this
theorem pu_mulI {z : Int} (h : ev env x = some (.int .i64 i)) (h' : ev env y = some (.int .i64 j)) (hz : z = i * j) (h1 : -9223372036854775808 ≤ i * j) (h2 : i * j < 9223372036854775808) : Pu P ⟨d, .binOp .mul T x y T', ty, pos, af, g⟩ env (.int .i64 z) := by
 have := pu_mul (P := P) (d := d) (T := T) (T' := T') (ty := ty) (pos := pos) (af := af) (g := g) h h'; rwa [wrap_in h1 h2, ← hz] at this
theorem pu_eq (h : ev env x = some (.int k i)) (h' : ev env y = some (.int k j)) : Pu P ⟨d, .binOp .eql T x y T', ty, pos, af, g⟩ env (.bool (decide (i = j))) :=
 fun ρ w e => by simp [execOp, e.eval h, e.eval h', eqGuard, binOp, Op.intCmp, go_sem]; rfl
theorem pu_ne (h : ev env x = some (.int k i)) (h' : ev env y = some (.int k j)) : Pu P ⟨d, .binOp .neq T x y T', ty, pos, af, g⟩ env (.bool (decide (i ≠ j))) :=
 fun ρ w e => by simp [execOp, e.eval h, e.eval h', eqGuard, binOp, Op.intCmp, go_sem]; by_cases hij : i = j <;> simp [hij]
theorem pu_lt (h : ev env x = some (.int k i)) (h' : ev env y = some (.int k j)) : Pu P ⟨d, .binOp .lss T x y T', ty, pos, af, g⟩ env (.bool (decide (i < j))) :=
 fun ρ w e => by simp [execOp, e.eval h, e.eval h', eqGuard, binOp, Op.intCmp, go_sem]
theorem pu_le (h : ev env x = some (.int k i)) (h' : ev env y = some (.int k j)) : Pu P ⟨d, .binOp .leq T x y T', ty, pos, af, g⟩ env (.bool (decide (i ≤ j))) :=
 fun ρ w e => by simp [execOp, e.eval h, e.eval h', eqGuard, binOp, Op.intCmp, go_sem]
theorem pu_gt (h : ev env x = some (.int k i)) (h' : ev env y = some (.int k j)) : Pu P ⟨d, .binOp .gtr T x y T', ty, pos, af, g⟩ env (.bool (decide (j < i))) :=
 fun ρ w e => by simp [execOp, e.eval h, e.eval h', eqGuard, binOp, Op.intCmp, go_sem]
theorem pu_ge (h : ev env x = some (.int k i)) (h' : ev env y = some (.int k j)) : Pu P ⟨d, .binOp .geq T x y T', ty, pos, af, g⟩ env (.bool (decide (j ≤ i))) :=
 fun ρ w e => by simp [execOp, e.eval h, e.eval h', eqGuard, binOp, Op.intCmp, go_sem]
theorem run_v {s : Sem Value} {v : Value} {w w' : World} (h : s.run P w = .ok v w') : (do pure (Next.value (← s)) : Sem Next).run P w = .ok (.value v) w' := by
 simp only [Sem.run_bind, h, Result.andThen_ok]; rfl
theorem equal_nil {T e' : TypeId} {p : Option Addr} (ht : P.underlying T = some (.pointer e')) (w : World) : (Op.equal T (.pointer p) (.pointer none)).run P w = .ok p.isNone w := by
 have h0 : (underlying T).run P w = .ok (.pointer e') w := by simp [underlying, ht, go_sem]
 show (Op.equalIn (9999 + 1) T (.pointer p) (.pointer none)).run P w = _
 unfold Op.equalIn
 simp only [Sem.run_bind, h0, Result.andThen_ok]
 cases p <;> rfl
theorem pu_eqN {e' : TypeId} {p : Option Addr} (ht : P.underlying T = some (.pointer e')) (h : ev env x = some (.pointer p)) (h' : ev env y = some (.pointer none)) : Pu P ⟨d, .binOp .eql T x y T', ty, pos, af, g⟩ env (.bool p.isNone) :=
 fun ρ w e => by
   refine run_v (s := do eqGuard .eql T x y (ρ x) (ρ y); binOp .eql T (ρ x) (ρ y)) ?_
   rw [e.eval h, e.eval h']
   have : (do eqGuard .eql T x y (.pointer p) (.pointer none); binOp .eql T (.pointer p) (.pointer none) : Sem Value) = (do pure (.bool (← Op.equal T (.pointer p) (.pointer none)))) := by cases p <;> rfl
   rw [this]; simp only [Sem.run_bind, equal_nil ht, Result.andThen_ok]; rfl
theorem pu_neN {e' : TypeId} {p : Option Addr} (ht : P.underlying T = some (.pointer e')) (h : ev env x = some (.pointer p)) (h' : ev env y = some (.pointer none)) : Pu P ⟨d, .binOp .neq T x y T', ty, pos, af, g⟩ env (.bool p.isSome) :=
 fun ρ w e => by
   refine run_v (s := do eqGuard .neq T x y (ρ x) (ρ y); binOp .neq T (ρ x) (ρ y)) ?_
   rw [e.eval h, e.eval h']
   have : (do eqGuard .neq T x y (.pointer p) (.pointer none); binOp .neq T (.pointer p) (.pointer none) : Sem Value) = (do pure (.bool (!(← Op.equal T (.pointer p) (.pointer none))))) := by cases p <;> rfl
   rw [this]; simp only [Sem.run_bind, equal_nil ht, Result.andThen_ok]; cases p <;> rfl
end binary
structure FA (P : Program) (T i off : Nat) : Prop where
 run : ∀ (b o : Nat) (w : World), (Instr.fieldAt T (.pointer (some ⟨b, o, none⟩)) i).run P w = .ok (.pointer (some ⟨b, o + off, none⟩)) w
theorem FA.mk' {T i off sz : Nat} {fs : Array Field} {f : Field} (ht : P.underlying T = some (.struct fs)) (hf : fs[i]? = some f) (ho : f.offset = off) (hs : ∀ w, (sizeOf f.type).run P w = .ok (sz + 1) w) : FA P T i off :=
 ⟨fun b o w => by
   have h0 : (underlying T).run P w = .ok (.struct fs) w := by simp [underlying, ht, go_sem]
   simp only [Instr.fieldAt, Sem.run_bind, h0, hf, Instr.sureAddr, fieldPlace, hs, go_sem]
   simp [Addr.add, ho, go_sem]
   split <;> simp_all⟩
theorem pu_fa {d : Option Tmp} {x : Operand} {T i off : Nat} {ty : TypeId} {pos : String} {af : Array Edge} {g : Option (Nat × Bool)} {b o : Nat} (f : FA P T i off) (h : ev env x = some (.pointer (some ⟨b, o, none⟩))) :
   Pu P ⟨d, .fieldAddr T x i, ty, pos, af, g⟩ env (.pointer (some ⟨b, o + off, none⟩)) :=
 fun ρ w e => by refine run_v (s := Instr.fieldAt T (ρ x) i) ?_; rw [e.eval h]; exact f.run b o w
end
end Go.Sl
namespace Go.Sl
open Go
def cl (b : Nat) (T : TypeId) (cs : List Value) : HProp := pt b (.cells cs.toArray T (0, 0))
def grab : Nat → List Value → Option (List Value)
 | 0, _ => some []
 | _ + 1, [] => none
 | k + 1, v :: r => match grab k r with | some l => some (v :: l) | none => none
theorem grab_spec : ∀ (k : Nat) (l vs : List Value), grab k l = some vs → vs.length = k ∧ ∀ (j : Nat) (v : Value), vs[j]? = some v → l[j]? = some v
 | 0, _, vs, h => by simp only [grab, Option.some.injEq] at h; subst h; simp
 | k + 1, [], _, h => by simp [grab] at h
 | k + 1, v :: r, vs, h => by
   simp only [grab] at h
   split at h
   · rename_i l hl
     obtain ⟨h1, h2⟩ := grab_spec k r l hl
     simp only [Option.some.injEq] at h; subst h
     refine ⟨by simp [h1], fun j u hu => ?_⟩
     cases j with
     | zero => simpa using hu
     | succ j => simp only [List.getElem?_cons_succ] at hu ⊢; exact h2 j u hu
   · cases h
def lay : List Value → Nat → List Value → Option (List Value)
 | cs, 0, [] => some cs
 | [], _, _ => none
 | _ :: cs, 0, v :: vs => match lay cs 0 vs with | some r => some (v :: r) | none => none
 | c :: cs, k + 1, vs => match lay cs k vs with | some r => some (c :: r) | none => none
section
variable {P : Program} {n : Nat} {w0 : World} {env : Env} {H : List HProp}
theorem cell_of {w : World} {b : Nat} {cs : List Value} {T : TypeId} {fr : Nat × Nat} (h : w.heap[b]? = some (.cells cs.toArray T fr)) (o : Nat) : w.cell? ⟨b, o, none⟩ = cs[o]? := by
 simp [World.cell?, h]
theorem Sat.cl {w : World} {b : Nat} {T : TypeId} {cs : List Value} {L : List HProp} (s : Sat w0 w (Sl.cl b T cs :: L)) : w.heap[b]? = some (.cells cs.toArray T (0, 0)) := Sat.pt s
def Rdc (w0 : World) (H : List HProp) (b o : Nat) (vs : List Value) : Prop := ∀ w, Sat w0 w H → ∀ j v, vs[j]? = some v → w.cell? ⟨b, o + j, none⟩ = some v
theorem Rdc.cl {H' : List HProp} (k : Nat) {b o : Nat} {T : TypeId} {cs vs : List Value} (t : Take (Sl.cl b T cs) H H') (h : grab k (cs.drop o) = some vs) : Rdc w0 H b o vs := fun w s j v hv => by
 rw [cell_of (s.take t).cl]
 have := (grab_spec k _ vs h).2 j v hv
 simpa using this
theorem Rdc.cl1 {H' : List HProp} {b o : Nat} {T : TypeId} {cs : List Value} {v : Value} (t : Take (Sl.cl b T cs) H H') (h : cs[o]? = some v) : Rdc w0 H b o [v] := fun w s j u hu => by
 rw [cell_of (s.take t).cl]
 cases j with
 | zero => simp at hu; subst hu; simpa using h
 | succ j => simp at hu
structure NA (P : Program) (T : TypeId) : Prop where
 run : ∀ w, (isAgg T).run P w = .ok false w
structure AG (P : Program) (T k : Nat) : Prop where
 run : ∀ w, (isAgg T).run P w = .ok true w
 size : ∀ w, (sizeOf T).run P w = .ok k w
theorem run_load_some {w : World} {a : Addr} {v : Value} (h : w.cell? a = some v) : (load a).run P w = .ok v w := by simp [h]
theorem loadCells_run {w : World} {b o : Nat} : ∀ (vs : List Value) (i : Nat) (acc : Array Value), (∀ j v, vs[j]? = some v → w.cell? ⟨b, o + (i + j), none⟩ = some v) →
   (loadCellsFrom ⟨b, o, none⟩ i vs.length acc).run P w = .ok (acc ++ vs.toArray) w
 | [], i, acc, _ => by simp [loadCellsFrom, go_sem]
 | v :: vs, i, acc, h => by
   have h0 : w.cell? ((⟨b, o, none⟩ : Addr).add i) = some v := by
     have := h 0 v rfl
     simp only [Nat.add_zero] at this
     unfold Addr.add; split
     · rename_i e; subst e; simpa using this
     · exact this
   have ih := loadCells_run vs (i + 1) (acc.push v) (fun j u hu => by have := h (j + 1) u (by simpa using hu); rw [show i + 1 + j = i + (j + 1) by omega]; exact this)
   simp only [List.length_cons, loadCellsFrom, Sem.run_bind, run_load_some h0, Result.andThen_ok, ih]
   simp
theorem rd_ld {d : Option Tmp} {x : Operand} {T ty : TypeId} {pos : String} {af : Array Edge} {g : Option (Nat × Bool)} {b o : Nat} {v : Value} (na : NA P T) (hx : ev env x = some (.pointer (some ⟨b, o, none⟩)))
   (r : Rdc w0 H b o [v]) : Rd P ⟨d, .load T x, ty, pos, af, g⟩ w0 env H v := fun ρ w e s => by
 refine run_v (s := Instr.loadAt T (ρ x)) ?_
 rw [e.eval hx]
 simp only [Instr.loadAt, Instr.sureAddr, loadVar, Sem.run_bind, Sem.run_pure, na.run, Result.andThen_ok]
 exact run_load_some (r w s 0 v rfl)
theorem rd_lda {d : Option Tmp} {x : Operand} {T k ty : TypeId} {pos : String} {af : Array Edge} {g : Option (Nat × Bool)} {b o : Nat} {vs : List Value} (ag : AG P T k) (hx : ev env x = some (.pointer (some ⟨b, o, none⟩)))
   (r : Rdc w0 H b o vs) (hk : vs.length = k) : Rd P ⟨d, .load T x, ty, pos, af, g⟩ w0 env H (.agg vs.toArray) := fun ρ w e s => by
 refine run_v (s := Instr.loadAt T (ρ x)) ?_
 rw [e.eval hx]
 have h := loadCells_run (P := P) (w := w) (b := b) (o := o) vs 0 #[] (fun j v hv => by simpa using r w s j v hv)
 simp only [Instr.loadAt, Instr.sureAddr, loadVar, Sem.run_bind, Sem.run_pure, ag.run, ag.size, Result.andThen_ok, loadCells, if_true, ← hk, h]
 simp
theorem run_new {o : Obj} {w : World} : (newObj o).run P w = .ok w.heap.size { w with heap := w.heap.push o } := rfl
theorem ac_box {d : Option Tmp} {x : Operand} {T ty : TypeId} {pos : String} {af : Array Edge} {g : Option (Nat × Bool)} {v : Value} {cs : List Value} (hx : ev env x = some v) (hc : v.cells = cs.toArray) :
   Ac P ⟨d, .box T x, ty, pos, af, g⟩ w0 env H (fun u H' => ∃ b, u = .pointer (some ⟨b, 0, none⟩) ∧ H' = cl b T cs :: H) := Ac.of_run fun ρ w e s => by
 refine ⟨_, _, _, run_v (s := Instr.box T (ρ x)) (v := .pointer (some ⟨w.heap.size, 0, none⟩)) (w' := { w with heap := w.heap.push (.cells cs.toArray T) }) ?_, ⟨w.heap.size, rfl, rfl⟩, s.alloc _⟩
 rw [e.eval hx]
 simp only [Instr.box, newVar, newRow, Sem.run_bind, hc, run_new, Result.andThen_ok]; rfl
structure ZV (P : Program) (T : TypeId) (v : Value) : Prop where
 run : ∀ w, (zeroValue T).run P w = .ok v w
theorem ac_alloc {d : Option Tmp} {T ty : TypeId} {pos : String} {af : Array Edge} {g : Option (Nat × Bool)} {v : Value} {cs : List Value} (z : ZV P T v) (hc : v.cells = cs.toArray) :
   Ac P ⟨d, .alloc T, ty, pos, af, g⟩ w0 env H (fun u H' => ∃ b, u = .pointer (some ⟨b, 0, none⟩) ∧ H' = cl b T cs :: H) := Ac.of_run fun ρ w e s => by
 refine ⟨_, _, _, run_v (s := Instr.alloc T true (.tuple #[])) (v := .pointer (some ⟨w.heap.size, 0, none⟩)) (w' := { w with heap := w.heap.push (.cells cs.toArray T) }) ?_, ⟨w.heap.size, rfl, rfl⟩, s.alloc _⟩
 simp only [Instr.alloc, newVar, newRow, Sem.run_bind, z.run, hc, run_new, Result.andThen_ok]; rfl
theorem lay_step : ∀ (cs : List Value) (o : Nat) (v : Value) (vs ds : List Value), lay cs o (v :: vs) = some ds → o < cs.length ∧ lay (cs.set o v) (o + 1) vs = some ds
 | [], 0, v, vs, ds, h => by simp [lay] at h
 | [], o + 1, v, vs, ds, h => by simp [lay] at h
 | c :: cs, 0, v, vs, ds, h => by
   simp only [lay] at h
   refine ⟨by simp, ?_⟩
   simp only [List.set_cons_zero, lay]; exact h
 | c :: cs, o + 1, v, vs, ds, h => by
   simp only [lay] at h
   split at h
   · rename_i r hr
     obtain ⟨h1, h2⟩ := lay_step cs o v vs r hr
     refine ⟨by simp; omega, ?_⟩
     simp only [List.set_cons_succ, lay, h2]; exact h
   · cases h
theorem lay_nil : ∀ (cs : List Value) (o : Nat) (ds : List Value), lay cs o [] = some ds → ds = cs
 | cs, 0, ds, h => by simp only [lay, Option.some.injEq] at h; exact h.symm
 | [], o + 1, ds, h => by simp [lay] at h
 | c :: cs, o + 1, ds, h => by
   simp only [lay] at h; split at h
   · rename_i r hr; simp only [Option.some.injEq] at h; subst h; rw [lay_nil cs o r hr]
   · cases h
def plain : Value → Bool
 | .agg _ | .tuple _ => false
 | _ => true
theorem run_store {w : World} {b o : Nat} {cs : List Value} {T : TypeId} {v : Value} (h : w.heap[b]? = some (.cells cs.toArray T (0, 0))) (ho : o < cs.length) (hv : plain v = true) :
   (store ⟨b, o, none⟩ v).run P w = .ok () (w.setCell ⟨b, o, none⟩ v) := by
 have hc : w.cell? ⟨b, o, none⟩ = some cs[o] := by rw [cell_of h]; simp [ho]
 have hf : w.frozen? ⟨b, o, none⟩ = false := by simp [World.frozen?, h]
 cases v <;> first | (cases hv; done) | simp [store, Sem.run, hc, hf]
theorem heap_setCell {w : World} {b o : Nat} {cs : List Value} {T : TypeId} {v : Value} (h : w.heap[b]? = some (.cells cs.toArray T (0, 0))) :
   (w.setCell ⟨b, o, none⟩ v).heap[b]? = some (.cells (cs.set o v).toArray T (0, 0)) := by
 simp [World.setCell, Array.getElem?_modify, h]
theorem run_stores {b : Nat} {T : TypeId} {L : List HProp} : ∀ (vs : List Value) (i o : Nat) (cs ds : List Value) (w : World), Sat w0 w (Sl.cl b T cs :: L) → (∀ v ∈ vs, plain v = true) → lay cs (o + i) vs = some ds →
   ∃ w', (storeCells ⟨b, o, none⟩ vs i).run P w = .ok () w' ∧ Sat w0 w' (Sl.cl b T ds :: L)
 | [], i, o, cs, ds, w, s, _, h => ⟨w, by simp [storeCells, go_sem], by rw [lay_nil _ _ _ h]; exact s⟩
 | v :: vs, i, o, cs, ds, w, s, hp, h => by
   obtain ⟨h1, h2⟩ := lay_step _ _ _ _ _ h
   have hr := run_store (P := P) s.cl h1 (hp v (by simp))
   have s' : Sat w0 (w.setCell ⟨b, o + i, none⟩ v) (Sl.cl b T (cs.set (o + i) v) :: L) :=
     Sat.write s rfl rfl rfl (by simp [World.setCell]) (heap_setCell s.cl) fun c hc _ => by
       simp only [World.setCell, Array.getElem?_modify]; rw [if_neg (by simpa using fun e => hc e.symm)]
   obtain ⟨w', hw, s''⟩ := run_stores vs (i + 1) o _ ds _ s' (fun u hu => hp u (by simp [hu])) (by rw [show o + (i + 1) = o + i + 1 by omega]; exact h2)
   refine ⟨w', ?_, s''⟩
   have hadd : (⟨b, o, none⟩ : Addr).add i = ⟨b, o + i, none⟩ := by unfold Addr.add; split <;> simp_all
   simp only [storeCells, hadd, Sem.run_bind, hr, Result.andThen_ok, hw]
structure SZ (P : Program) (T k : Nat) : Prop where
 run : ∀ w, (sizeOf T).run P w = .ok k w
theorem ac_st {d : Option Tmp} {x y : Operand} {T k ty : TypeId} {pos : String} {af : Array Edge} {g : Option (Nat × Bool)} {H' : List HProp} {b o : Nat} {E : TypeId} {v : Value} {cs vs ds : List Value} (sz : SZ P T k)
   (hx : ev env x = some (.pointer (some ⟨b, o, none⟩))) (hy : ev env y = some v) (t : Take (cl b E cs) H H') (hv : v.cells = vs.toArray) (hk : vs.length = k) (hp : vs.all plain = true) (hl : lay cs o vs = some ds) :
   Ac P ⟨d, .store T x y, ty, pos, af, g⟩ w0 env H (fun _ H'' => H'' = cl b E ds :: H') := Ac.of_skip fun ρ w e s => by
 obtain ⟨w', hw, s'⟩ := run_stores (P := P) vs 0 o cs ds w (s.take t) (by simpa using hp) (by simpa using hl)
 refine ⟨_, w', ?_, rfl, s'⟩
 show ((do Instr.storeAt T (ρ x) (ρ y); pure Next.skip : Sem Next)).run P w = _
 rw [e.eval hx, e.eval hy]
 simp only [Instr.storeAt, Instr.sureAddr, storeVar, Sem.run_bind, Sem.run_pure, sz.run, Result.andThen_ok, hv]
 simp only [List.size_toArray, hk, ne_eq, not_true, if_false, Sem.run_bind, Sem.run_pure, Result.andThen_ok, hw]
def sl {α : Type} (E sz : Nat) (enc : α → List Value) (a : Option Addr) (c : Nat) (xs : List α) : HProp := fun h =>
 (a = none ∧ xs = [] ∧ c = 0) ∨ ∃ b off cells, a = some ⟨b, off, none⟩ ∧ pt b (.cells cells E (0, 0)) h ∧ xs.length ≤ c ∧ off + c * sz ≤ cells.size ∧
   ∀ i x, xs[i]? = some x → ∀ j v, (enc x)[j]? = some v → cells[off + (i * sz + j)]? = some v
def SlW {α : Type} (w : World) (sz : Nat) (enc : α → List Value) (a : Option Addr) (xs : List α) : Prop :=
 xs ≠ [] → ∃ b off, a = some ⟨b, off, none⟩ ∧ ∀ i x, xs[i]? = some x → ∀ j v, (enc x)[j]? = some v → w.cell? ⟨b, off + (i * sz + j), none⟩ = some v
def SlH {α : Type} (w0 : World) (H : List HProp) (sz : Nat) (enc : α → List Value) (a : Option Addr) (xs : List α) : Prop := ∀ w, Sat w0 w H → SlW w sz enc a xs
theorem SlH.own {α : Type} {H' : List HProp} {E sz : Nat} {enc : α → List Value} {a : Option Addr} {c : Nat} {xs : List α} (t : Take (sl E sz enc a c xs) H H') : SlH w0 H sz enc a xs := fun w s hne => by
 obtain ⟨h0, x, s'⟩ := (s.take t).toRo
 rcases x with ⟨-, rfl, -⟩ | ⟨b, off, cells, rfl, hp, hl, hc, hx⟩
 · exact (hne rfl).elim
 · refine ⟨b, off, rfl, fun i x hi j v hv => ?_⟩
   have := s'.ro b _ hp.1
   simp only [World.cell?, this]
   exact hx i x hi j v hv
def slR {α : Type} (h0 : Hp) (sz : Nat) (enc : α → List Value) (a : Option Addr) (xs : List α) : Prop :=
 xs ≠ [] → ∃ b off cells E fr, a = some ⟨b, off, none⟩ ∧ h0 b = some (.cells cells E fr) ∧ ∀ i x, xs[i]? = some x → ∀ j v, (enc x)[j]? = some v → cells[off + (i * sz + j)]? = some v
theorem SlH.ro {α : Type} {H' : List HProp} {h0 : Hp} {sz : Nat} {enc : α → List Value} {a : Option Addr} {xs : List α} (t : Take (Sl.ro h0) H H') (r : slR h0 sz enc a xs) : SlH w0 H sz enc a xs := fun w s hne => by
 obtain ⟨b, off, cells, E, fr, rfl, hb, hx⟩ := r hne
 refine ⟨b, off, rfl, fun i x hi j v hv => ?_⟩
 have := (s.take t).ro b _ hb
 simp only [World.cell?, this]
 exact hx i x hi j v hv
theorem Gs.slAddr {α : Type} {X : Act → World → Prop} {sz : Nat} {enc : α → List Value} {a : Option Addr} {xs : List α} (S : SlH w0 H sz enc a xs)
   (g : ∀ b off, (xs ≠ [] → a = some ⟨b, off, none⟩) → Gs w0 n env H X) : Gs w0 n env H X := fun ac w e s => by
 by_cases hne : xs = []
 · exact g 0 0 (fun h => (h hne).elim) ac w e s
 · obtain ⟨b, off, h, -⟩ := S w s hne; exact g b off (fun _ => h) ac w e s
def Srd {α : Type} (A : HProp) (sz : Nat) (enc : α → List Value) (a : Option Addr) (xs : List α) : Prop := ∀ (w0 : World) (H H' : List HProp), Take A H H' → SlH w0 H sz enc a xs
theorem Srd.h {α : Type} {A : HProp} {sz : Nat} {enc : α → List Value} {a : Option Addr} {xs : List α} (S : Srd A sz enc a xs) {H' : List HProp} (t : Take A H H') : SlH w0 H sz enc a xs := S _ _ _ t
theorem Srd.own {α : Type} {E sz : Nat} {enc : α → List Value} {a : Option Addr} {c : Nat} {xs : List α} : Srd (sl E sz enc a c xs) sz enc a xs := fun _ _ _ t => SlH.own t
theorem Srd.ro {α : Type} {h0 : Hp} {sz : Nat} {enc : α → List Value} {a : Option Addr} {xs : List α} (r : slR h0 sz enc a xs) : Srd (Sl.ro h0) sz enc a xs := fun _ _ _ t => SlH.ro t r
theorem SlH.pre {α : Type} {sz : Nat} {enc : α → List Value} {a : Option Addr} {xs ys : List α} (S : SlH w0 H sz enc a (xs ++ ys)) : SlH w0 H sz enc a xs := fun w s hne => by
 obtain ⟨b, off, h, hx⟩ := S w s (by simp [hne])
 exact ⟨b, off, h, fun i x hi => hx i x (by rw [List.getElem?_append_left (List.getElem?_eq_some_iff.1 hi).1]; exact hi)⟩
theorem Rdc.el {α : Type} {sz : Nat} {enc : α → List Value} {b off i : Nat} {xs : List α} {x : α} {vs : List Value} (S : SlH w0 H sz enc (some ⟨b, off, none⟩) xs) (hi : xs[i]? = some x) (hv : enc x = vs) : Rdc w0 H b (off + i * sz) vs := fun w s j v hj => by
 obtain ⟨b', off', h, hx⟩ := S w s (by rintro rfl; cases hi)
 cases h
 rw [Nat.add_assoc]; exact hx i x hi j v (by rw [hv]; exact hj)
theorem Rdc.el0 {α : Type} {enc : α → List Value} {b off i : Nat} {xs : List α} {x : α} {vs : List Value} {o : Nat} {sz : Nat} (S : SlH w0 H sz enc (some ⟨b, off, none⟩) xs) (hi : xs[i]? = some x) (ho : o = off + i * sz) (hv : enc x = vs) : Rdc w0 H b o vs := by
 subst ho; exact Rdc.el S hi hv
theorem Rdc.elp {α : Type} {enc : α → List Value} {b off i f : Nat} {xs : List α} {x : α} {vs : List Value} {o sz : Nat} (k : Nat) (S : SlH w0 H sz enc (some ⟨b, off, none⟩) xs) (hi : xs[i]? = some x) (ho : o = off + i * sz + f) (h : grab k ((enc x).drop f) = some vs) : Rdc w0 H b o vs := fun w s j v hj => by
 obtain ⟨b', off', h', hx⟩ := S w s (by rintro rfl; cases hi)
 cases h'
 have h2 := (grab_spec k _ _ h).2 j v hj
 rw [List.getElem?_drop] at h2
 have := hx i x hi (f + j) v h2
 rw [ho, Nat.add_assoc (off + i * sz), Nat.add_assoc off]; exact this
structure SE (P : Program) (T sz : Nat) : Prop where
 elem : ∃ E, P.underlying T = some (.slice E) ∧ ∀ w, (sizeOf E).run P w = .ok sz w
theorem pu_ia {d : Option Tmp} {x y : Operand} {T sz ty : TypeId} {pos : String} {af : Array Edge} {g : Option (Nat × Bool)} {b o l c : Nat} {k : IntKind} {i : Int} (se : SE P T sz) (hx : ev env x = some (.slice (some ⟨b, o, none⟩) l c)) (hy : ev env y = some (.int k i))
   (h0 : 0 ≤ i) (h1 : i < l) : Pu P ⟨d, .indexAddr T x y, ty, pos, af, g⟩ env (.pointer (some ⟨b, o + i.toNat * sz, none⟩)) := fun ρ w e => by
 obtain ⟨E, hE, hs⟩ := se.elem
 refine run_v (s := Instr.indexAt T (ρ x) (ρ y)) ?_
 rw [e.eval hx, e.eval hy]
 have hu : (underlying T).run P w = .ok (.slice E) w := by simp [underlying, hE, go_sem]
 simp only [Instr.indexAt, asIntOf, Sem.run_bind, Sem.run_pure, hu, Result.andThen_ok]
 rw [if_pos ⟨h0, by omega⟩]
 simp only [Sem.run_bind, hs, Result.andThen_ok, Sem.run_pure]
 congr 3
 unfold Addr.add; split <;> simp_all
theorem pu_len {d : Option Tmp} {x : Operand} {T E ty : TypeId} {pos : String} {af : Array Edge} {g : Option (Nat × Bool)} {a : Option Addr} {l c : Nat} (ht : P.underlying T = some (.slice E)) (hx : ev env x = some (.slice a l c)) :
   Pu P ⟨d, .call ⟨.builtin .len, #[x], #[T]⟩, ty, pos, af, g⟩ env (.int .i64 l) := fun ρ w e => by
 have hu : (underlying T).run P w = .ok (.slice E) w := by simp [underlying, ht, go_sem]
 simp [execOp, resolve, invoke, builtin, Builtin.len_, e.eval hx, hu, go_sem, goInt]
theorem pu_lenS {d : Option Tmp} {x : Operand} {T ty : TypeId} {pos : String} {af : Array Edge} {g : Option (Nat × Bool)} {s : ByteArray} (ht : P.underlying T = some .string) (hx : ev env x = some (.string s)) :
   Pu P ⟨d, .call ⟨.builtin .len, #[x], #[T]⟩, ty, pos, af, g⟩ env (.int .i64 s.size) := fun ρ w e => by
 have hu : (underlying T).run P w = .ok .string w := by simp [underlying, ht, go_sem]
 simp [execOp, resolve, invoke, builtin, Builtin.len_, e.eval hx, hu, go_sem, goInt]
theorem as_call {d : Option Tmp} {f : FuncId} {args : List Operand} {ts : Array TypeId} {ty : TypeId} {pos : String} {af : Array Edge} {g : Option (Nat × Bool)} {vs : List Value} {pre H' : List HProp} {post : Value → List HProp → Prop}
   (S : Ct P f vs pre post) (hv : Evs env args vs) (t : Takes pre H H') : Ac P ⟨d, .call ⟨.value (.func f), args.toArray, ts⟩, ty, pos, af, g⟩ w0 env H (fun v H'' => ∃ hs, post v hs ∧ H'' = hs ++ H') := fun ρ w e s => by
 have hr : (execOp ρ ⟨d, .call ⟨.value (.func f), args.toArray, ts⟩, ty, pos, af, g⟩).run P w = .ok (.enter f vs.toArray) w := by
   show (do let d ← resolve ρ ⟨.value (.func f), args.toArray, ts⟩ ty; invoke d.target d.args : Sem Next).run P w = _
   have h1 : resolve ρ ⟨.value (.func f), args.toArray, ts⟩ ty = (pure ⟨.fn (.func f) #[], vs.toArray⟩ : Sem Deferred) := by
     simp only [resolve, e.eval (x := .func f) rfl, Deferred.ofValue]
     show (pure ⟨Target.fn (.func f) #[], #[] ++ args.toArray.map ρ⟩ : Sem Deferred) = _
     rw [List.map_toArray, hv.rho e]; simp
   rw [h1]
   simp only [Sem.run_bind, Sem.run_pure, Result.andThen_ok, invoke]
   simpa using S.enters w
 rw [hr]
 exact (S.calls w0 w H' (s.takes t)).mono fun _ _ ⟨v, hs, he, hp, hsat⟩ => ⟨v, he, hs ++ H', ⟨hs, hp, rfl⟩, hsat⟩
theorem asC {d : Option Tmp} {f : FuncId} {args : List Operand} {ts : Array TypeId} {ty : TypeId} {pos : String} {af : Array Edge} {g : Option (Nat × Bool)} {vs : List Value} {pre H' : List HProp} {post : Value → List HProp → Prop}
    (S : Ct P f vs pre post) (hv : Evs env args vs := by repeat constructor) (t : Takes pre H H' := by repeat constructor) : Ac P ⟨d, .call ⟨.value (.func f), args.toArray, ts⟩, ty, pos, af, g⟩ w0 env H (fun v H'' => ∃ hs, post v hs ∧ H'' = hs ++ H') := as_call S hv t
theorem as_callV {d : Option Tmp} {f : FuncId} {x : Operand} {us cs : List Value} {args : List Operand} {ts : Array TypeId} {ty : TypeId} {pos : String} {af : Array Edge} {g : Option (Nat × Bool)} {vs : List Value} {pre H' : List HProp} {post : Value → List HProp → Prop}
   (hx : ev env x = some (.func (.func f) us.toArray cs.toArray)) (S : Ct P f (us ++ vs ++ cs) pre post) (hv : Evs env args vs) (t : Takes pre H H') : Ac P ⟨d, .call ⟨.value x, args.toArray, ts⟩, ty, pos, af, g⟩ w0 env H (fun v H'' => ∃ hs, post v hs ∧ H'' = hs ++ H') := fun ρ w e s => by
 have hr : (execOp ρ ⟨d, .call ⟨.value x, args.toArray, ts⟩, ty, pos, af, g⟩).run P w = .ok (.enter f (us ++ vs ++ cs).toArray) w := by
   show (do let d ← resolve ρ ⟨.value x, args.toArray, ts⟩ ty; invoke d.target d.args : Sem Next).run P w = _
   have h1 : resolve ρ ⟨.value x, args.toArray, ts⟩ ty = (pure ⟨.fn (.func f) cs.toArray, us.toArray ++ vs.toArray⟩ : Sem Deferred) := by
     simp only [resolve, e.eval hx, Deferred.ofValue]
     rw [List.map_toArray, hv.rho e]
   rw [h1]
   simp only [Sem.run_bind, Sem.run_pure, Result.andThen_ok, invoke]
   simpa using S.enters w
 rw [hr]
 exact (S.calls w0 w H' (s.takes t)).mono fun _ _ ⟨v, hs, he, hp, hsat⟩ => ⟨v, he, hs ++ H', ⟨hs, hp, rfl⟩, hsat⟩
section ends
variable {fn : Func} {post : Value → List HProp → Prop} {R : List HProp}
theorem run_lda {w : World} {T k b o : Nat} {vs : List Value} (ag : AG P T k) (r : Rdc w0 H b o vs) (hk : vs.length = k) (s : Sat w0 w H) : (loadVar T ⟨b, o, none⟩).run P w = .ok (.agg vs.toArray) w := by
 have h := loadCells_run (P := P) (w := w) (b := b) (o := o) vs 0 #[] (fun j v hv => by simpa using r w s j v hv)
 simp only [loadVar, Sem.run_bind, ag.run, ag.size, Result.andThen_ok, loadCells, if_true, ← hk, h]
 simp
theorem results_c1 {t T : Nat} (hr : fn.results = #[.cell t T]) {tmps : Array Value} {w : World} {A : Addr} {v : Value} (h : tmps.getD t undef = .pointer (some A)) (hl : (loadVar T A).run P w = .ok v w) : (results fn tmps).run P w = .ok v w := by
 have h' : tmps[t]?.getD undef = .pointer (some A) := by rw [← h, Array.getD_eq_getD_getElem?]
 unfold results; rw [hr]; simp [asAddr, h', hl]
theorem results_c2 {t u T : Nat} (hr : fn.results = #[.cell t T, .tmp u]) {tmps : Array Value} {w : World} {A : Addr} {v x : Value} (h : tmps.getD t undef = .pointer (some A)) (hu : tmps.getD u undef = x) (hl : (loadVar T A).run P w = .ok v w) : (results fn tmps).run P w = .ok (.tuple #[v, x]) w := by
 have h' : tmps[t]?.getD undef = .pointer (some A) := by rw [← h, Array.getD_eq_getD_getElem?]
 have hu' : tmps[u]?.getD undef = x := by rw [← hu, Array.getD_eq_getD_getElem?]
 unfold results; rw [hr]; simp [asAddr, h', hl, hu']
theorem Gs.finc1 {t T k b : Nat} {vs : List Value} (hr : fn.results = #[.cell t T]) (ag : AG P T k) (h : lk env t = some (.pointer (some ⟨b, 0, none⟩))) (r : Rdc w0 H b 0 vs) (hk : vs.length = k) (hs : List HProp) (hp : post (.agg vs.toArray) hs) (hH : Ent H (hs ++ R)) :
   Gs w0 n env H (bodyPost P fn (fun e w' => ∃ v hs, e = .returned v ∧ post v hs ∧ Sat w0 w' (hs ++ R)) .ret) := fun a w e s =>
 ⟨e.defers, _, results_c1 hr (e.slots t _ h) (run_lda ag r hk s), _, hs, rfl, hp, hH.sat s⟩
theorem Gs.finc2 {t u T k b : Nat} {vs : List Value} {x : Value} (hr : fn.results = #[.cell t T, .tmp u]) (ag : AG P T k) (h : lk env t = some (.pointer (some ⟨b, 0, none⟩))) (r : Rdc w0 H b 0 vs) (hk : vs.length = k) (hu : lk env u = some x) (hs : List HProp) (hp : post (.tuple #[.agg vs.toArray, x]) hs) (hH : Ent H (hs ++ R)) :
   Gs w0 n env H (bodyPost P fn (fun e w' => ∃ v hs, e = .returned v ∧ post v hs ∧ Sat w0 w' (hs ++ R)) .ret) := fun a w e s =>
 ⟨e.defers, _, results_c2 hr (e.slots t _ h) (e.slots u _ hu) (run_lda ag r hk s), _, hs, rfl, hp, hH.sat s⟩
end ends
end
end Go.Sl
