/- A layer over the kit's walk: heap assertions that hold apart from one another, frames as lists of slots, one rule for each kind of code and operation. Nothing of the program stands here. -/
import Derived.WalkKit
import Derived.Eval
import Derived.Shelf.Abstract
namespace Go.Sl
open Go

/-! ### Parts of a heap -/
abbrev Hp := Nat → Option Obj
abbrev HProp := Hp → Prop
def Hp.le (h : Hp) (w : World) : Prop := ∀ b o, h b = some o → w.heap[b]? = some o
def Hp.disj (h k : Hp) : Prop := ∀ b, h b = none ∨ k b = none
def Hp.un (h k : Hp) : Hp := fun b => match h b with | some o => some o | none => k b

theorem Hp.disj.symm {h k : Hp} (d : h.disj k) : k.disj h := fun b => (d b).symm
theorem Hp.un_comm {h k : Hp} (d : h.disj k) : h.un k = k.un h := by
  funext b; unfold Hp.un; rcases d b with e | e <;> rw [e] <;> (cases h b <;> cases k b <;> simp_all)
theorem Hp.un_assoc (h k l : Hp) : (h.un k).un l = h.un (k.un l) := by
  funext b; unfold Hp.un; cases h b <;> rfl
theorem Hp.un_none {h k : Hp} {b : Nat} : h.un k b = none ↔ h b = none ∧ k b = none := by
  unfold Hp.un; cases h b <;> simp
theorem Hp.disj_un {h k l : Hp} : h.disj (k.un l) ↔ h.disj k ∧ h.disj l := by
  constructor
  · intro d
    exact ⟨fun b => (d b).imp id fun e => (Hp.un_none.1 e).1, fun b => (d b).imp id fun e => (Hp.un_none.1 e).2⟩
  · rintro ⟨d, e⟩ b
    rcases d b with x | x
    · exact .inl x
    · exact (e b).imp id fun y => Hp.un_none.2 ⟨x, y⟩
theorem Hp.un_disj {h k l : Hp} : (h.un k).disj l ↔ h.disj l ∧ k.disj l :=
  ⟨fun d => ⟨(Hp.disj_un.1 d.symm).1.symm, (Hp.disj_un.1 d.symm).2.symm⟩, fun d => (Hp.disj_un.2 ⟨d.1.symm, d.2.symm⟩).symm⟩
theorem Hp.un_left {h k : Hp} {b : Nat} {o : Obj} (e : h b = some o) : h.un k b = some o := by unfold Hp.un; rw [e]
theorem Hp.un_right {h k : Hp} (d : h.disj k) {b : Nat} {o : Obj} (e : k b = some o) : h.un k b = some o := by
  rw [Hp.un_comm d]; exact Hp.un_left e

def big : List HProp → HProp
  | [], _ => True
  | A :: L, h => ∃ h1 h2, Hp.disj h1 h2 ∧ h = h1.un h2 ∧ A h1 ∧ big L h2

theorem big_cons {A : HProp} {L : List HProp} {h1 h2 : Hp} (d : h1.disj h2) (a : A h1) (l : big L h2) : big (A :: L) (h1.un h2) := ⟨h1, h2, d, rfl, a, l⟩
theorem big_swap {A B : HProp} {L : List HProp} {h : Hp} (x : big (A :: B :: L) h) : big (B :: A :: L) h := by
  obtain ⟨h1, h2, d, rfl, a, h3, h4, e, rfl, b, l⟩ := x
  obtain ⟨d1, d2⟩ := Hp.disj_un.1 d
  refine ⟨h3, h1.un h4, Hp.disj_un.2 ⟨d1.symm, e⟩, ?_, b, h1, h4, d2, rfl, a, l⟩
  rw [← Hp.un_assoc, ← Hp.un_assoc, Hp.un_comm d1]
theorem big_under {A : HProp} {L M : List HProp} (i : ∀ h, big L h → big M h) {h : Hp} (x : big (A :: L) h) : big (A :: M) h := by
  obtain ⟨h1, h2, d, rfl, a, l⟩ := x; exact ⟨h1, h2, d, rfl, a, i _ l⟩

/-- One of a list, and the others. -/
inductive Take (A : HProp) : List HProp → List HProp → Prop
  | hd {L : List HProp} : Take A (A :: L) L
  | tl {B : HProp} {L L' : List HProp} : Take A L L' → Take A (B :: L) (B :: L')
theorem Take.go {A : HProp} {L L' : List HProp} (t : Take A L L') : ∀ {h : Hp}, big L h → big (A :: L') h := by
  induction t with
  | hd => exact fun x => x
  | tl _ ih => exact fun x => big_swap (big_under (fun _ => ih) x)
theorem Take.back {A : HProp} {L L' : List HProp} (t : Take A L L') : ∀ {h : Hp}, big (A :: L') h → big L h := by
  induction t with
  | hd => exact fun x => x
  | tl _ ih => exact fun x => big_under (fun _ => ih) (big_swap x)
inductive Takes : List HProp → List HProp → List HProp → Prop
  | nil {L : List HProp} : Takes [] L L
  | cons {A : HProp} {As L L1 L2 : List HProp} : Take A L L1 → Takes As L1 L2 → Takes (A :: As) L L2
theorem big_append {L M : List HProp} {h : Hp} : big (L ++ M) h ↔ ∃ h1 h2, Hp.disj h1 h2 ∧ h = h1.un h2 ∧ big L h1 ∧ big M h2 := by
  induction L generalizing h with
  | nil =>
    simp only [List.nil_append, big]
    constructor
    · intro m; exact ⟨fun _ => none, h, fun _ => .inl rfl, by funext b; rfl, trivial, m⟩
    · rintro ⟨h1, h2, d, rfl, -, m⟩
      -- what is under True may go: but M asks for just its part: every assertion here is closed upward by 'big_mono'
      exact (by
        have : ∀ (M : List HProp) (k g : Hp), k.disj g → big M g → big M (k.un g) := by
          intro M
          induction M with
          | nil => intros; trivial
          | cons A M ih =>
            rintro k g d ⟨g1, g2, e, rfl, a, m⟩
            obtain ⟨d1, d2⟩ := Hp.disj_un.1 d
            refine ⟨g1, k.un g2, Hp.disj_un.2 ⟨d1.symm, e⟩, ?_, a, ih _ _ d2 m⟩
            rw [← Hp.un_assoc, ← Hp.un_assoc, Hp.un_comm d1]
        exact this M h1 h2 d m)
  | cons A L ih =>
    constructor
    · rintro ⟨h1, h2, d, rfl, a, x⟩
      obtain ⟨h3, h4, e, rfl, l, m⟩ := ih.1 x
      obtain ⟨d1, d2⟩ := Hp.disj_un.1 d
      exact ⟨h1.un h3, h4, Hp.un_disj.2 ⟨d2, e⟩, (Hp.un_assoc ..).symm, ⟨h1, h3, d1, rfl, a, l⟩, m⟩
    · rintro ⟨h1, h2, d, rfl, ⟨h3, h4, e, rfl, a, l⟩, m⟩
      obtain ⟨d1, d2⟩ := Hp.un_disj.1 d
      exact ⟨h3, h4.un h2, Hp.disj_un.2 ⟨e, d1⟩, Hp.un_assoc .., a, ih.2 ⟨h4, h2, d2, rfl, l, m⟩⟩
theorem big_more {M : List HProp} {k g : Hp} (d : k.disj g) (m : big M g) : big M (k.un g) := by
  have := (big_append (L := []) (M := M)).2 ⟨k, g, d, rfl, trivial, m⟩
  simpa using this

/-! ### Worlds -/
structure Sat (w0 w : World) (L : List HProp) : Prop where
  os : w.os = w0.os
  tape : w.tape = w0.tape
  output : w.output = w0.output
  size : w0.heap.size ≤ w.heap.size
  heap : ∃ h, Hp.le h w ∧ big L h

theorem Sat.imp {w0 w : World} {L M : List HProp} (s : Sat w0 w L) (i : ∀ h, big L h → big M h) : Sat w0 w M :=
  ⟨s.os, s.tape, s.output, s.size, let ⟨h, le, l⟩ := s.heap; ⟨h, le, i h l⟩⟩
theorem Sat.take {w0 w : World} {A : HProp} {L L' : List HProp} (s : Sat w0 w L) (t : Take A L L') : Sat w0 w (A :: L') := s.imp fun _ => t.go
theorem Sat.takes {w0 w : World} {As L L' : List HProp} (s : Sat w0 w L) (t : Takes As L L') : Sat w0 w (As ++ L') := by
  have : ∀ {As L L' : List HProp}, Takes As L L' → ∀ h, big L h → big (As ++ L') h := by
    intro As L L' t
    induction t with
    | nil => exact fun _ x => x
    | cons t _ ih => exact fun h x => big_under (fun _ => ih _) (t.go x)
  exact s.imp (this t)
theorem Sat.drop {w0 w : World} {A : HProp} {L : List HProp} (s : Sat w0 w (A :: L)) : Sat w0 w L :=
  s.imp fun _ => by rintro ⟨h1, h2, d, rfl, -, l⟩; exact big_more d l
theorem Sat.left {w0 w : World} {L M : List HProp} (s : Sat w0 w (L ++ M)) : Sat w0 w L :=
  s.imp fun _ x => by
    obtain ⟨h1, h2, d, rfl, l, -⟩ := big_append.1 x
    rw [Hp.un_comm d]; exact big_more d.symm l
theorem Sat.right {w0 w : World} {L M : List HProp} (s : Sat w0 w (L ++ M)) : Sat w0 w M :=
  s.imp fun _ x => by obtain ⟨h1, h2, d, rfl, -, m⟩ := big_append.1 x; exact big_more d m
theorem Sat.ent {w0 w : World} {A B : HProp} {L : List HProp} (s : Sat w0 w (A :: L)) (i : ∀ h, A h → B h) : Sat w0 w (B :: L) :=
  s.imp fun _ => by rintro ⟨h1, h2, d, rfl, a, l⟩; exact ⟨h1, h2, d, rfl, i _ a, l⟩

/-- From one list another one: what is wanted is there, the rest may go. -/
inductive Ent : List HProp → List HProp → Prop
  | cons {A : HProp} {H H1 L : List HProp} : Take A H H1 → Ent H1 L → Ent H (A :: L)
  | refl {L : List HProp} : Ent L L
  | nil {L : List HProp} : Ent L []
  | drop {A : HProp} {H L : List HProp} : Ent H L → Ent (A :: H) L
theorem Ent.big {H L : List HProp} (e : Ent H L) : ∀ {h : Hp}, big H h → big L h := by
  induction e with
  | cons t _ ih => exact fun x => big_under (fun _ => ih) (t.go x)
  | refl => exact fun x => x
  | nil => exact fun _ => trivial
  | drop _ ih => exact fun ⟨h1, h2, d, e, _, l⟩ => by subst e; exact ih (big_more d l)
theorem Ent.sat {H L : List HProp} (e : Ent H L) {w0 w : World} (s : Sat w0 w H) : Sat w0 w L := s.imp fun _ => e.big

/-- A block that holds just this. -/
def pt (b : Nat) (o : Obj) : HProp := fun h => h b = some o ∧ ∀ c, c ≠ b → h c = none
/-- Blocks that are not written: just these. -/
def ro (h0 : Hp) : HProp := fun h => h = h0

theorem Sat.pt {w0 w : World} {b : Nat} {o : Obj} {L : List HProp} (s : Sat w0 w (Sl.pt b o :: L)) : w.heap[b]? = some o := by
  obtain ⟨h, le, h1, h2, d, rfl, ⟨e, -⟩, -⟩ := s.heap
  exact le b o (Hp.un_left e)
theorem Sat.ro {w0 w : World} {h0 : Hp} {L : List HProp} (s : Sat w0 w (Sl.ro h0 :: L)) : h0.le w := by
  obtain ⟨h, le, h1, h2, d, rfl, rfl, -⟩ := s.heap
  exact fun b o e => le b o (Hp.un_left e)
theorem Sat.toRo {w0 w : World} {A : HProp} {L : List HProp} (s : Sat w0 w (A :: L)) : ∃ h0, A h0 ∧ Sat w0 w (Sl.ro h0 :: L) := by
  obtain ⟨h, le, h1, h2, d, rfl, a, l⟩ := s.heap
  exact ⟨h1, a, s.os, s.tape, s.output, s.size, _, le, h1, h2, d, rfl, rfl, l⟩
theorem Sat.ofRo {w0 w : World} {A : HProp} {h0 : Hp} {L : List HProp} (a : A h0) (s : Sat w0 w (Sl.ro h0 :: L)) : Sat w0 w (A :: L) :=
  s.ent fun _ e => by rw [e]; exact a
theorem Sat.ex {α : Type} {w0 w : World} {A : α → HProp} {L : List HProp} (s : Sat w0 w ((fun h => ∃ x, A x h) :: L)) : ∃ x, Sat w0 w (A x :: L) := by
  obtain ⟨h, le, h1, h2, d, rfl, ⟨x, a⟩, l⟩ := s.heap
  exact ⟨x, s.os, s.tape, s.output, s.size, _, le, h1, h2, d, rfl, a, l⟩
theorem Sat.pure {w0 w : World} {p : Prop} {A : HProp} {L : List HProp} (s : Sat w0 w ((fun h => p ∧ A h) :: L)) : p ∧ Sat w0 w (A :: L) := by
  obtain ⟨h, le, h1, h2, d, rfl, ⟨x, a⟩, l⟩ := s.heap
  exact ⟨x, s.os, s.tape, s.output, s.size, _, le, h1, h2, d, rfl, a, l⟩
/-- Two in one. -/
def two (A B : HProp) : HProp := fun h => ∃ h1 h2, Hp.disj h1 h2 ∧ h = h1.un h2 ∧ A h1 ∧ B h2
theorem Sat.two {w0 w : World} {A B : HProp} {L : List HProp} : Sat w0 w (two A B :: L) ↔ Sat w0 w (A :: B :: L) := by
  constructor
  · refine fun s => s.imp fun h => ?_
    rintro ⟨h1, h2, d, rfl, ⟨h3, h4, e, rfl, a, b⟩, l⟩
    obtain ⟨d1, d2⟩ := Hp.un_disj.1 d
    exact ⟨h3, h4.un h2, Hp.disj_un.2 ⟨e, d1⟩, Hp.un_assoc .., a, h4, h2, d2, rfl, b, l⟩
  · refine fun s => s.imp fun h => ?_
    rintro ⟨h1, h2, d, rfl, a, h3, h4, e, rfl, b, l⟩
    obtain ⟨d1, d2⟩ := Hp.disj_un.1 d
    exact ⟨h1.un h3, h4, Hp.un_disj.2 ⟨d2, e⟩, (Hp.un_assoc ..).symm, ⟨h1, h3, d1, rfl, a, b⟩, l⟩

/-- A world in which one block has turned. -/
theorem Sat.write {w0 w w' : World} {b : Nat} {o o' : Obj} {L : List HProp} (s : Sat w0 w (Sl.pt b o :: L)) (e1 : w'.os = w.os) (e2 : w'.tape = w.tape) (e3 : w'.output = w.output)
    (e5 : w.heap.size ≤ w'.heap.size) (hb : w'.heap[b]? = some o') (ho : ∀ c, c ≠ b → c < w.heap.size → w'.heap[c]? = w.heap[c]?) : Sat w0 w' (Sl.pt b o' :: L) := by
  obtain ⟨h, le, h1, h2, d, rfl, ⟨a, a'⟩, l⟩ := s.heap
  have hn : h2 b = none := (d b).resolve_left (by simp [a])
  refine ⟨e1.trans s.os, e2.trans s.tape, e3.trans s.output, Nat.le_trans s.size e5, Hp.un (fun c => if c = b then some o' else none) h2, ?_, _, h2, ?_, rfl, ⟨by simp, fun c hc => by simp [hc]⟩, l⟩
  · intro c x hx
    by_cases hc : c = b
    · subst hc; simp [Hp.un] at hx; rw [← hx]; exact hb
    · simp only [Hp.un, hc, if_false] at hx
      have := le c x (Hp.un_right d hx)
      rw [ho c hc (Array.getElem?_eq_some_iff.1 this).1]; exact this
  · intro c
    by_cases hc : c = b
    · subst hc; exact .inr hn
    · exact .inl (by simp [hc])
/-- A world in which nothing has turned that was there. -/
theorem Sat.same {w0 w w' : World} {L : List HProp} (s : Sat w0 w L) (e1 : w'.os = w.os) (e2 : w'.tape = w.tape) (e3 : w'.output = w.output)
    (e5 : w.heap.size ≤ w'.heap.size) (ho : ∀ c, c < w.heap.size → w'.heap[c]? = w.heap[c]?) : Sat w0 w' L := by
  obtain ⟨h, le, l⟩ := s.heap
  refine ⟨e1.trans s.os, e2.trans s.tape, e3.trans s.output, Nat.le_trans s.size e5, h, fun c x hx => ?_, l⟩
  have := le c x hx
  rw [ho c (Array.getElem?_eq_some_iff.1 this).1]; exact this
theorem Sat.drew {w0 w : World} {L : List HProp} (s : Sat w0 w L) : Sat w0 { w with drawn := w.drawn + 1 } L :=
  s.same rfl rfl rfl (Nat.le_refl _) fun _ _ => rfl
theorem Sat.alloc {w0 w : World} {L : List HProp} (s : Sat w0 w L) (o : Obj) : Sat w0 { w with heap := w.heap.push o } (Sl.pt w.heap.size o :: L) := by
  obtain ⟨h, le, l⟩ := s.heap
  refine ⟨s.os, s.tape, s.output, Nat.le_trans s.size (by simp), Hp.un (fun c => if c = w.heap.size then some o else none) h, ?_, _, h, ?_, rfl, ⟨by simp, fun c hc => by simp [hc]⟩, l⟩
  · intro c x hx
    by_cases hc : c = w.heap.size
    · subst hc; simp [Hp.un] at hx; rw [← hx]; simp
    · simp only [Hp.un, hc, if_false] at hx
      have := le c x hx
      have hl := (Array.getElem?_eq_some_iff.1 this).1
      simp only [Array.getElem?_push]
      rw [if_neg (by omega)]; exact this
  · intro c
    by_cases hc : c = w.heap.size
    · subst hc
      refine .inr ?_
      cases hh : h w.heap.size with
      | none => rfl
      | some x => have := (Array.getElem?_eq_some_iff.1 (le _ x hh)).1; omega
    · exact .inl (by simp [hc])
/-- What the world holds now, as one part. -/
def whole (w : World) : Hp := fun b => w.heap[b]?
theorem Sat.start (w : World) : Sat w w [Sl.ro (whole w)] :=
  ⟨rfl, rfl, rfl, Nat.le_refl _, whole w, fun _ _ e => e, whole w, fun _ => none, fun _ => .inr rfl, by funext b; simp only [Hp.un]; cases whole w b <;> rfl, rfl, trivial⟩
/-- Of what was there at the start nothing has turned. -/
theorem Sat.below {w w' : World} {L : List HProp} (s : Sat w w' (Sl.ro (whole w) :: L)) : RowKit.Below w.heap.size w w' :=
  ⟨s.os, s.tape, s.output, s.size, fun k hk => by
    have := s.ro k _ (show whole w k = some w.heap[k] by simp [whole, hk])
    rw [this]; simp [hk]⟩

/-! ### Frames -/
abbrev Env := List (Nat × Value)
def lk : Env → Nat → Option Value
  | [], _ => none
  | (t, v) :: r, s => match Nat.beq t s with | true => some v | false => lk r s
structure EnvOk (n : Nat) (env : Env) (a : Act) : Prop where
  size : a.tmps.size = n
  defers : a.defers = []
  slots : ∀ t v, lk env t = some v → a.tmps.getD t undef = v
def ev (env : Env) : Operand → Option Value
  | .tmp t => lk env t
  | .const v => some v
  | .global g => some (.pointer (some ⟨g, 0, none⟩))
  | .func f => some (.func (.func f) #[] #[])
theorem EnvOk.eval {n : Nat} {env : Env} {a : Act} (h : EnvOk n env a) {x : Operand} {v : Value} (e : ev env x = some v) : a.eval x = v := by
  cases x with
  | tmp t => exact h.slots t v e
  | const c => exact Option.some.inj e
  | global g => exact Option.some.inj e
  | func f => exact Option.some.inj e
theorem beq_ne {a b : Nat} (h : ¬ a = b) : Nat.beq a b = false := by
  cases e : Nat.beq a b with
  | false => rfl
  | true => exact (h (Nat.eq_of_beq_eq_true e)).elim
theorem EnvOk.put {n : Nat} {env : Env} {a : Act} (h : EnvOk n env a) {d : Nat} (hd : d < n) (v : Value) : EnvOk n ((d, v) :: env) (a.put (some d) v) := by
  refine ⟨by simp [Act.put, h.size], h.defers, fun t u hu => ?_⟩
  simp only [lk] at hu
  by_cases ht : d = t
  · subst ht
    have hb : Nat.beq d d = true := by simp
    rw [hb] at hu
    simp at hu
    subst hu
    simp [Act.put, Array.getD_eq_getD_getElem?, h.size, hd]
  · have hb : Nat.beq d t = false := beq_ne ht
    rw [hb] at hu
    have := h.slots t u hu
    rw [← this]
    simp [Act.put, Array.getD_eq_getD_getElem?, ht]
theorem EnvOk.put0 {n : Nat} {env : Env} {a : Act} (h : EnvOk n env a) (v : Value) : EnvOk n env (a.put none v) := h
/-- Fewer slots. -/
inductive Sub (env : Env) : Env → Prop
  | nil : Sub env []
  | cons {t : Nat} {v : Value} {e : Env} : lk env t = some v → Sub env e → Sub env ((t, v) :: e)
theorem Sub.lk {env e : Env} (s : Sub env e) : ∀ {t : Nat} {v : Value}, Sl.lk e t = some v → Sl.lk env t = some v := by
  induction s with
  | nil => intro t v h; cases h
  | @cons t v e h _ ih =>
    intro u x hx
    simp only [Sl.lk] at hx
    by_cases htu : t = u
    · subst htu
      have hb : Nat.beq t t = true := by simp
      rw [hb] at hx; simp at hx; subst hx; exact h
    · have hb : Nat.beq t u = false := beq_ne htu
      rw [hb] at hx; exact ih hx
theorem EnvOk.sub {n : Nat} {env e : Env} {a : Act} (h : EnvOk n env a) (s : Sub env e) : EnvOk n e a := ⟨h.size, h.defers, fun t v hv => h.slots t v (s.lk hv)⟩
/-- Values of operands. -/
inductive Evs (env : Env) : List Operand → List Value → Prop
  | nil : Evs env [] []
  | cons {x : Operand} {v : Value} {xs : List Operand} {vs : List Value} : ev env x = some v → Evs env xs vs → Evs env (x :: xs) (v :: vs)
theorem Evs.map {n : Nat} {env : Env} {a : Act} (h : EnvOk n env a) {xs : List Operand} {vs : List Value} (e : Evs env xs vs) : xs.map a.eval = vs := by
  induction e with
  | nil => rfl
  | cons e _ ih => simp [h.eval e, ih]

/-! ### Goals: of all frames that hold 'env', and all worlds that hold 'H' -/
def Gs (w0 : World) (n : Nat) (env : Env) (H : List HProp) (X : Act → World → Prop) : Prop := ∀ a w, EnvOk n env a → Sat w0 w H → X a w

section goals
variable {w0 : World} {n : Nat} {env : Env} {H : List HProp} {X : Act → World → Prop}

theorem Gs.take {A : HProp} {H' : List HProp} (t : Take A H H') (g : Gs w0 n env (A :: H') X) : Gs w0 n env H X := fun a w e s => g a w e (s.take t)
theorem Gs.takes {As H' : List HProp} (t : Takes As H H') (g : Gs w0 n env (As ++ H') X) : Gs w0 n env H X := fun a w e s => g a w e (s.takes t)
theorem Gs.ent {A B : HProp} (i : ∀ h, A h → B h) (g : Gs w0 n env (B :: H) X) : Gs w0 n env (A :: H) X := fun a w e s => g a w e (s.ent i)
theorem Gs.ex {α : Type} {A : α → HProp} (g : ∀ x, Gs w0 n env (A x :: H) X) : Gs w0 n env ((fun h => ∃ x, A x h) :: H) X := fun a w e s => let ⟨x, s⟩ := s.ex; g x a w e s
theorem Gs.pure {p : Prop} {A : HProp} (g : p → Gs w0 n env (A :: H) X) : Gs w0 n env ((fun h => p ∧ A h) :: H) X := fun a w e s => let ⟨x, s⟩ := s.pure; g x a w e s
theorem Gs.two {A B : HProp} (g : Gs w0 n env (A :: B :: H) X) : Gs w0 n env (two A B :: H) X := fun a w e s => g a w e (Sat.two.1 s)
theorem Gs.toTwo {A B : HProp} (g : Gs w0 n env (Sl.two A B :: H) X) : Gs w0 n env (A :: B :: H) X := fun a w e s => g a w e (Sat.two.2 s)
theorem Gs.ents {H' : List HProp} (i : Ent H H') (g : Gs w0 n env H' X) : Gs w0 n env H X := fun a w e s => g a w e (i.sat s)
theorem Gs.drop {A : HProp} (g : Gs w0 n env H X) : Gs w0 n env (A :: H) X := fun a w e s => g a w e s.drop
theorem Gs.sub {e : Env} (s : Sub env e) (g : Gs w0 n e H X) : Gs w0 n env H X := fun a w h t => g a w (h.sub s) t
theorem Gs.sat {H' : List HProp} (i : ∀ w, Sat w0 w H → Sat w0 w H') (g : Gs w0 n env H' X) : Gs w0 n env H X := fun a w e s => g a w e (i w s)
/-- A fact of the worlds. -/
theorem Gs.know {p : Prop} (i : ∀ w, Sat w0 w H → p) (g : p → Gs w0 n env H X) : Gs w0 n env H X := fun a w e s => g (i w s) a w e s
theorem Gs.toRo {A : HProp} (g : ∀ h0, A h0 → Gs w0 n env (ro h0 :: H) X) : Gs w0 n env (A :: H) X := fun a w e s => let ⟨h0, x, s⟩ := s.toRo; g h0 x a w e s
theorem Gs.ofRo {A : HProp} {h0 : Hp} (x : A h0) (g : Gs w0 n env (A :: H) X) : Gs w0 n env (ro h0 :: H) X := fun a w e s => g a w e (s.ofRo x)

variable {P : Program} {Q : Exit → Act → World → Prop}
theorem Gs.skip (g : Gs w0 n env H (Q .normal)) : Gs w0 n env H (Code.skip.wp P Q) := fun a w e s => wp_skip (g a w e s)
theorem Gs.seq {x y : Code} (g : Gs w0 n env H (x.wp P (Exit.then (y.wp P Q) Q))) : Gs w0 n env H ((Code.seq x y).wp P Q) := fun a w e s => wp_seq (g a w e s)
theorem Gs.ret (g : Gs w0 n env H (Q .ret)) : Gs w0 n env H (Code.ret.wp P Q) := fun a w e s => wp_ret (g a w e s)
theorem Gs.exit {i : Nat} (g : Gs w0 n env H (Q (.exit i))) : Gs w0 n env H ((Code.exit i).wp P Q) := fun a w e s => wp_exit (g a w e s)
theorem Gs.block {i : Nat} {c : Code} (g : Gs w0 n env H (c.wp P (Exit.inBlock i Q))) : Gs w0 n env H ((Code.block i c).wp P Q) := fun a w e s => wp_block (g a w e s)
theorem Gs.then_n {K : Act → World → Prop} (g : Gs w0 n env H K) : Gs w0 n env H (Exit.then K Q .normal) := g
theorem Gs.then_r {K : Act → World → Prop} (g : Gs w0 n env H (Q .ret)) : Gs w0 n env H (Exit.then K Q .ret) := g
theorem Gs.then_x {K : Act → World → Prop} {i : Nat} (g : Gs w0 n env H (Q (.exit i))) : Gs w0 n env H (Exit.then K Q (.exit i)) := g
theorem Gs.blk_n {i : Nat} (g : Gs w0 n env H (Q .normal)) : Gs w0 n env H (Exit.inBlock i Q .normal) := g
theorem Gs.blk_r {i : Nat} (g : Gs w0 n env H (Q .ret)) : Gs w0 n env H (Exit.inBlock i Q .ret) := g
theorem Gs.blk_hit {i : Nat} (g : Gs w0 n env H (Q .normal)) : Gs w0 n env H (Exit.inBlock i Q (.exit i)) := fun a w e s => by
  simp only [Exit.inBlock, if_true]; exact g a w e s
theorem Gs.blk_miss {i j : Nat} (h : j ≠ i) (g : Gs w0 n env H (Q (.exit j))) : Gs w0 n env H (Exit.inBlock i Q (.exit j)) := fun a w e s => by
  simp only [Exit.inBlock, h, if_false]; exact g a w e s
theorem Gs.cond_t {c : Operand} {x y : Code} (h : ev env c = some (.bool true)) (g : Gs w0 n env H (x.wp P Q)) : Gs w0 n env H ((Code.cond c x y).wp P Q) :=
  fun a w e s => wp_cond_true (e.eval h) (g a w e s)
theorem Gs.cond_f {c : Operand} {x y : Code} (h : ev env c = some (.bool false)) (g : Gs w0 n env H (y.wp P Q)) : Gs w0 n env H ((Code.cond c x y).wp P Q) :=
  fun a w e s => wp_cond_false (e.eval h) (g a w e s)
theorem Gs.cond {c : Operand} {x y : Code} {b : Bool} (h : ev env c = some (.bool b)) (g : b = true → Gs w0 n env H (x.wp P Q)) (k : b = false → Gs w0 n env H (y.wp P Q)) :
    Gs w0 n env H ((Code.cond c x y).wp P Q) :=
  fun a w e s => wp_cond_split (e.eval h) (fun hb => g hb a w e s) (fun hb => k hb a w e s)

theorem Gs.cond_tt {c : Operand} {x y : Code} {b : Bool} (h : ev env c = some (.bool b)) (hb : b = true) (g : Gs w0 n env H (x.wp P Q)) : Gs w0 n env H ((Code.cond c x y).wp P Q) := by
  subst hb; exact Gs.cond_t h g
theorem Gs.cond_ff {c : Operand} {x y : Code} {b : Bool} (h : ev env c = some (.bool b)) (hb : b = false) (g : Gs w0 n env H (y.wp P Q)) : Gs w0 n env H ((Code.cond c x y).wp P Q) := by
  subst hb; exact Gs.cond_f h g

/-- The head of a loop's next round. -/
def Again {σ : Type} (w0 : World) (n : Nat) (φ : σ → Prop) (E : σ → Env) (H : σ → List HProp) (μ : σ → Nat) (s : σ) (a : Act) (w : World) : Prop :=
  ∃ s', φ s' ∧ μ s' < μ s ∧ EnvOk n (E s') a ∧ Sat w0 w (H s')
theorem Gs.loop {σ : Type} (φ : σ → Prop) (E : σ → Env) (I : σ → List HProp) (μ : σ → Nat) (s0 : σ) (h0 : φ s0) {c : Code} (hE : Sub env (E s0)) (hH : Ent H (I s0))
    (body : ∀ s, φ s → Gs w0 n (E s) (I s) (c.wp P (Exit.then (Again w0 n φ E I μ s) Q))) : Gs w0 n env H ((Code.loop c).wp P Q) := by
  classical
  intro a w e s
  have mn : ∀ (p : Nat → Prop), (∃ k, p k) → ∃ k, p k ∧ ∀ j, p j → k ≤ j := by
    rintro p ⟨k, hk⟩
    induction k using Nat.strongRecOn with
    | _ k ih =>
      by_cases h : ∃ j, j < k ∧ p j
      · obtain ⟨j, hj, pj⟩ := h; exact ih j hj pj
      · exact ⟨k, hk, fun j pj => Nat.le_of_not_lt fun hj => h ⟨j, hj, pj⟩⟩
  let T : Act → World → Nat → Prop := fun a w k => ∃ s, φ s ∧ μ s = k ∧ EnvOk n (E s) a ∧ Sat w0 w (I s)
  let least : Act → World → Nat := fun a w => if h : ∃ k, T a w k then Classical.choose (mn _ h) else 0
  refine wp_loop (fun a w => ∃ k, T a w k) least ⟨_, s0, h0, rfl, e.sub hE, hH.sat s⟩ ?_
  intro a w hex
  have hl : least a w = Classical.choose (mn _ hex) := by simp only [least, dif_pos hex]
  obtain ⟨⟨s2, hφ, hm, e2, t2⟩, -⟩ := Classical.choose_spec (mn _ hex)
  rw [← hl] at hm
  refine Code.wp_mono ?_ (body s2 hφ a w e2 t2)
  intro ex a' w' h
  cases ex with
  | normal =>
    obtain ⟨s', hφ', hlt, e', t'⟩ := h
    have hex' : ∃ k, T a' w' k := ⟨_, s', hφ', rfl, e', t'⟩
    refine ⟨hex', ?_⟩
    have hl' : least a' w' = Classical.choose (mn _ hex') := by simp only [least, dif_pos hex']
    rw [hl', ← hm]
    exact Nat.lt_of_le_of_lt ((Classical.choose_spec (mn _ hex')).2 _ ⟨s', hφ', rfl, e', t'⟩) hlt
  | _ => exact h
theorem Gs.loop1 {α : Type} (φ : α → Prop) (E : α → Env) (I : α → List HProp) (μ : α → Nat) (x0 : α) (h0 : φ x0) {c : Code} (hE : Sub env (E x0)) (hH : Ent H (I x0))
    (body : ∀ x, φ x → Gs w0 n (E x) (I x) (c.wp P (Exit.then (Again w0 n (fun s : α => φ s) (fun s => E s) (fun s => I s) (fun s => μ s) x) Q))) : Gs w0 n env H ((Code.loop c).wp P Q) :=
  Gs.loop (fun s : α => φ s) (fun s => E s) (fun s => I s) (fun s => μ s) x0 h0 hE hH fun s h => body s h
theorem Gs.again1 {α : Type} {φ : α → Prop} {E : α → Env} {I : α → List HProp} {μ : α → Nat} {s : α} (x1 : α) (h : φ x1) (hm : μ x1 < μ s) (hE : Sub env (E x1)) (hH : Ent H (I x1)) :
    Gs w0 n env H (Again w0 n (fun s : α => φ s) (fun s => E s) (fun s => I s) (fun s => μ s) s) := fun _ w e t => ⟨x1, h, hm, e.sub hE, hH.sat t⟩
theorem Gs.loop2 {α : Type} {β : Type} (φ : α → β → Prop) (E : α → β → Env) (I : α → β → List HProp) (μ : α → β → Nat) (x0 : α) (y0 : β) (h0 : φ x0 y0) {c : Code} (hE : Sub env (E x0 y0)) (hH : Ent H (I x0 y0))
    (body : ∀ x y, φ x y → Gs w0 n (E x y) (I x y) (c.wp P (Exit.then (Again w0 n (fun s : α × β => φ s.1 s.2) (fun s => E s.1 s.2) (fun s => I s.1 s.2) (fun s => μ s.1 s.2) (x, y)) Q))) : Gs w0 n env H ((Code.loop c).wp P Q) :=
  Gs.loop (fun s : α × β => φ s.1 s.2) (fun s => E s.1 s.2) (fun s => I s.1 s.2) (fun s => μ s.1 s.2) (x0, y0) h0 hE hH fun s h => body s.1 s.2 h
theorem Gs.again2 {α : Type} {β : Type} {φ : α → β → Prop} {E : α → β → Env} {I : α → β → List HProp} {μ : α → β → Nat} {s : α × β} (x1 : α) (y1 : β) (h : φ x1 y1) (hm : μ x1 y1 < μ s.1 s.2) (hE : Sub env (E x1 y1)) (hH : Ent H (I x1 y1)) :
    Gs w0 n env H (Again w0 n (fun s : α × β => φ s.1 s.2) (fun s => E s.1 s.2) (fun s => I s.1 s.2) (fun s => μ s.1 s.2) s) := fun _ w e t => ⟨(x1, y1), h, hm, e.sub hE, hH.sat t⟩
theorem Gs.loop3 {α : Type} {β : Type} {γ : Type} (φ : α → β → γ → Prop) (E : α → β → γ → Env) (I : α → β → γ → List HProp) (μ : α → β → γ → Nat) (x0 : α) (y0 : β) (z0 : γ) (h0 : φ x0 y0 z0) {c : Code} (hE : Sub env (E x0 y0 z0)) (hH : Ent H (I x0 y0 z0))
    (body : ∀ x y z, φ x y z → Gs w0 n (E x y z) (I x y z) (c.wp P (Exit.then (Again w0 n (fun s : α × β × γ => φ s.1 s.2.1 s.2.2) (fun s => E s.1 s.2.1 s.2.2) (fun s => I s.1 s.2.1 s.2.2) (fun s => μ s.1 s.2.1 s.2.2) (x, y, z)) Q))) : Gs w0 n env H ((Code.loop c).wp P Q) :=
  Gs.loop (fun s : α × β × γ => φ s.1 s.2.1 s.2.2) (fun s => E s.1 s.2.1 s.2.2) (fun s => I s.1 s.2.1 s.2.2) (fun s => μ s.1 s.2.1 s.2.2) (x0, y0, z0) h0 hE hH fun s h => body s.1 s.2.1 s.2.2 h
theorem Gs.again3 {α : Type} {β : Type} {γ : Type} {φ : α → β → γ → Prop} {E : α → β → γ → Env} {I : α → β → γ → List HProp} {μ : α → β → γ → Nat} {s : α × β × γ} (x1 : α) (y1 : β) (z1 : γ) (h : φ x1 y1 z1) (hm : μ x1 y1 z1 < μ s.1 s.2.1 s.2.2) (hE : Sub env (E x1 y1 z1)) (hH : Ent H (I x1 y1 z1)) :
    Gs w0 n env H (Again w0 n (fun s : α × β × γ => φ s.1 s.2.1 s.2.2) (fun s => E s.1 s.2.1 s.2.2) (fun s => I s.1 s.2.1 s.2.2) (fun s => μ s.1 s.2.1 s.2.2) s) := fun _ w e t => ⟨(x1, y1, z1), h, hm, e.sub hE, hH.sat t⟩
theorem Gs.loop4 {α : Type} {β : Type} {γ : Type} {δ : Type} (φ : α → β → γ → δ → Prop) (E : α → β → γ → δ → Env) (I : α → β → γ → δ → List HProp) (μ : α → β → γ → δ → Nat) (x0 : α) (y0 : β) (z0 : γ) (u0 : δ) (h0 : φ x0 y0 z0 u0) {c : Code} (hE : Sub env (E x0 y0 z0 u0)) (hH : Ent H (I x0 y0 z0 u0))
    (body : ∀ x y z u, φ x y z u → Gs w0 n (E x y z u) (I x y z u) (c.wp P (Exit.then (Again w0 n (fun s : α × β × γ × δ => φ s.1 s.2.1 s.2.2.1 s.2.2.2) (fun s => E s.1 s.2.1 s.2.2.1 s.2.2.2) (fun s => I s.1 s.2.1 s.2.2.1 s.2.2.2) (fun s => μ s.1 s.2.1 s.2.2.1 s.2.2.2) (x, y, z, u)) Q))) : Gs w0 n env H ((Code.loop c).wp P Q) :=
  Gs.loop (fun s : α × β × γ × δ => φ s.1 s.2.1 s.2.2.1 s.2.2.2) (fun s => E s.1 s.2.1 s.2.2.1 s.2.2.2) (fun s => I s.1 s.2.1 s.2.2.1 s.2.2.2) (fun s => μ s.1 s.2.1 s.2.2.1 s.2.2.2) (x0, y0, z0, u0) h0 hE hH fun s h => body s.1 s.2.1 s.2.2.1 s.2.2.2 h
theorem Gs.again4 {α : Type} {β : Type} {γ : Type} {δ : Type} {φ : α → β → γ → δ → Prop} {E : α → β → γ → δ → Env} {I : α → β → γ → δ → List HProp} {μ : α → β → γ → δ → Nat} {s : α × β × γ × δ} (x1 : α) (y1 : β) (z1 : γ) (u1 : δ) (h : φ x1 y1 z1 u1) (hm : μ x1 y1 z1 u1 < μ s.1 s.2.1 s.2.2.1 s.2.2.2) (hE : Sub env (E x1 y1 z1 u1)) (hH : Ent H (I x1 y1 z1 u1)) :
    Gs w0 n env H (Again w0 n (fun s : α × β × γ × δ => φ s.1 s.2.1 s.2.2.1 s.2.2.2) (fun s => E s.1 s.2.1 s.2.2.1 s.2.2.2) (fun s => I s.1 s.2.1 s.2.2.1 s.2.2.2) (fun s => μ s.1 s.2.1 s.2.2.1 s.2.2.2) s) := fun _ w e t => ⟨(x1, y1, z1, u1), h, hm, e.sub hE, hH.sat t⟩
/-- A loop that is left in its first round. -/
theorem Gs.cut (E : Env) (I : List HProp) {c : Code} {K : Act → World → Prop} (g : Gs w0 n env H (c.wp P (Exit.then (fun a w => EnvOk n E a ∧ Sat w0 w I) Q))) (k : Gs w0 n E I K) :
    Gs w0 n env H (c.wp P (Exit.then K Q)) := fun a w e s => Code.wp_mono (fun ex a' w' h => by
      cases ex with
      | normal => exact k a' w' h.1 h.2
      | _ => exact h) (g a w e s)
theorem Gs.cutEnd {E : Env} {I : List HProp} (hE : Sub env E) (hH : Ent H I) : Gs w0 n env H (fun a w => EnvOk n E a ∧ Sat w0 w I) :=
  fun _ w e s => ⟨e.sub hE, hH.sat s⟩
end goals

/-! ### Contracts -/
structure Ct (P : Program) (f : FuncId) (args : List Value) (pre : List HProp) (post : Value → List HProp → Prop) : Prop where
  enters : ∀ w, (callFunc f args.toArray).run P w = .ok (.enter f args.toArray) w
  calls : ∀ w0 w R, Sat w0 w (pre ++ R) → Calls P f args.toArray w fun e w' => ∃ v hs, e = .returned v ∧ post v hs ∧ Sat w0 w' (hs ++ R)

def envOf : List Value → Nat → Env
  | [], _ => []
  | v :: vs, k => (k, v) :: envOf vs (k + 1)
theorem lk_envOf (vs : List Value) : ∀ (k t : Nat) (v : Value), lk (envOf vs k) t = some v → k ≤ t ∧ vs[t - k]? = some v := by
  induction vs with
  | nil => intro k t v h; cases h
  | cons x vs ih =>
    intro k t v h
    simp only [envOf, lk] at h
    by_cases hk : k = t
    · subst hk
      have hb : Nat.beq k k = true := by simp
      rw [hb] at h; simpa using h
    · have hb : Nat.beq k t = false := beq_ne hk
      rw [hb] at h
      obtain ⟨h1, h2⟩ := ih (k + 1) t v h
      refine ⟨by omega, ?_⟩
      rw [show t - k = (t - (k + 1)) + 1 by omega]
      simpa using h2
theorem Ct.intro {P : Program} {f : FuncId} {fn : Func} {c : Code} {args : List Value} {pre : List HProp} {post : Value → List HProp → Prop}
    (hf : P.funcs[f]? = some fn) (hb : fn.body = some c) (hname : (fn.name == "runtime.NumGoroutine") = false) (n : Nat) (hn : fn.ntmps = n) (hle : args.length ≤ n)
    (g : ∀ w0 R, Gs w0 n (envOf args 0) (pre ++ R) (c.wp P (bodyPost P fn fun e w' => ∃ v hs, e = .returned v ∧ post v hs ∧ Sat w0 w' (hs ++ R)))) :
    Ct P f args pre post := by
  refine ⟨Go.Proofs.enters_of hf hname hb args.toArray, fun w0 w R s => calls_of_wp hf hb (g w0 R _ _ ⟨?_, rfl, ?_⟩ s)⟩
  · simp [hn]; omega
  · intro t v h
    obtain ⟨-, h⟩ := lk_envOf args 0 t v h
    have hl := (List.getElem?_eq_some_iff.1 h).1
    simp only [Nat.sub_zero] at h hl
    simp [Array.getD_eq_getD_getElem?, Array.getElem?_append, hl, (List.getElem?_eq_some_iff.1 h).2]

/-- A contract of the kit's make: nothing that was there turns. -/
theorem Ct.ofBelow {P : Program} {f : FuncId} {fn : Func} {c : Code} {args : List Value} {pre : List HProp} {V : World → Value} {post : Value → List HProp → Prop} (hf : P.funcs[f]? = some fn) (hb : fn.body = some c) (hname : (fn.name == "runtime.NumGoroutine") = false)
    (h : ∀ w0 w R, Sat w0 w (pre ++ R) → Calls P f args.toArray w fun e w' => e = .returned (V w) ∧ RowKit.Below w.heap.size w w') (hp : ∀ w, post (V w) pre) : Ct P f args pre post :=
  ⟨Go.Proofs.enters_of hf hname hb args.toArray, fun w0 w R s => (h w0 w R s).mono fun _ _ ⟨e, b⟩ => ⟨_, pre, e, hp w, s.same b.os b.tape b.output b.size fun c hc => b.block c hc⟩⟩
theorem Ct.mono {P : Program} {f : FuncId} {args : List Value} {pre : List HProp} {post post' : Value → List HProp → Prop} (S : Ct P f args pre post)
    (i : ∀ v hs, post v hs → post' v hs) : Ct P f args pre post' :=
  ⟨S.enters, fun w0 w R s => (S.calls w0 w R s).mono fun _ _ ⟨v, hs, e, p, t⟩ => ⟨v, hs, e, i v hs p, t⟩⟩

/-! ### The end of a body -/
section ends
variable {w0 : World} {n : Nat} {env : Env} {H : List HProp} {P : Program} {fn : Func} {post : Value → List HProp → Prop} {R : List HProp}
def Post (w0 : World) (post : Value → List HProp → Prop) (R : List HProp) : Ending → World → Prop := fun e w' => ∃ v hs, e = .returned v ∧ post v hs ∧ Sat w0 w' (hs ++ R)

theorem Gs.fin0 (hr : fn.results = #[]) (hs : List HProp) (hp : post (.tuple #[]) hs) (hH : Ent H (hs ++ R)) :
    Gs w0 n env H (bodyPost P fn (fun e w' => ∃ v hs, e = .returned v ∧ post v hs ∧ Sat w0 w' (hs ++ R)) .ret) := fun a w e s =>
  ⟨e.defers, _, results_none hr a.tmps P w, _, hs, rfl, hp, hH.sat s⟩
theorem Gs.fin1 {t : Nat} {v : Value} (hr : fn.results = #[.tmp t]) (h : lk env t = some v) (hs : List HProp) (hp : post v hs) (hH : Ent H (hs ++ R)) :
    Gs w0 n env H (bodyPost P fn (fun e w' => ∃ v hs, e = .returned v ∧ post v hs ∧ Sat w0 w' (hs ++ R)) .ret) := fun a w e s =>
  ⟨e.defers, v, by rw [results_tmp hr, e.slots t v h], v, hs, rfl, hp, hH.sat s⟩
theorem Gs.fin2 {t u : Nat} {v x : Value} (hr : fn.results = #[.tmp t, .tmp u]) (h : lk env t = some v) (k : lk env u = some x) (hs : List HProp) (hp : post (.tuple #[v, x]) hs) (hH : Ent H (hs ++ R)) :
    Gs w0 n env H (bodyPost P fn (fun e w' => ∃ v hs, e = .returned v ∧ post v hs ∧ Sat w0 w' (hs ++ R)) .ret) := fun a w e s =>
  ⟨e.defers, _, by rw [results_tmp2 hr, e.slots t v h, e.slots u x k], _, hs, rfl, hp, hH.sat s⟩
/-- The body's end without a 'return'. -/
theorem Gs.fin_n {R' : Ending → World → Prop} (g : Gs w0 n env H (bodyPost P fn R' .ret)) : Gs w0 n env H (bodyPost P fn R' .normal) := g
end ends

end Go.Sl
