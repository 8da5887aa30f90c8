/- Posts: what they are, and how they read. -/
import Derived.Test.YtonilkceolbkmaaTy
import Derived.Test.YtonilkceolbkmaaSrt
import Derived.Test.YtonilkceolbkmaaSrk
import Derived.Test.YtonilkceolbkmaaOp2
import Derived.Test.YtonilkceolbkmaaMore
import Derived.Test.YtonilkceolbkmaaSlc
import Derived.Test.YtonilkceolbkmaaOpn
namespace Go.Po
open Go Go.Sl Go.Gv
/-- A post, as its cells have it. -/
structure PostV where
  k : Key
  t : SlV Int
abbrev postC (p : PostV) : List Value := [int p.k.o, int p.k.q, .slice p.t.a p.t.xs.length p.t.c]
abbrev postV (p : PostV) : Value := .agg (postC p).toArray
/-- A post, plain. -/
abbrev PostP : Type := Key × List Int
def PostV.p (p : PostV) : PostP := (p.k, p.t.xs)
def risesFrom : Int → List Int → Bool
  | _, [] => true
  | a, n :: l => decide (a < n) && risesFrom n l
def risesB (l : List Int) : Bool := risesFrom (-1) l && decide (l ≠ [])
def lastOr (a : Int) (l : List Int) : Int := l.getLast?.getD a
theorem risesFrom_snoc : ∀ (a : Int) (l : List Int) (x : Int), risesFrom a (l ++ [x]) = (risesFrom a l && decide (lastOr a l < x))
  | a, [], x => by simp only [List.nil_append, risesFrom, Bool.and_true, Bool.true_and]; rfl
  | a, n :: l, x => by
    have h := risesFrom_snoc n l x
    have e : lastOr a (n :: l) = lastOr n l := by
      cases l with
      | nil => rfl
      | cons m l => simp [lastOr, List.getLast?_cons]
    simp only [List.cons_append, risesFrom, h, e, Bool.and_assoc]
theorem lastOr_snoc (a : Int) (l : List Int) (x : Int) : lastOr a (l ++ [x]) = x := by simp [lastOr]
theorem rises_take {a : Int} {l : List Int} {i : Nat} {x : Int} (h : l[i]? = some x) : risesFrom a (l.take (i + 1)) = (risesFrom a (l.take i) && decide (lastOr a (l.take i) < x)) := by
  rw [List.take_add_one, h]; exact risesFrom_snoc ..
theorem last_take {a : Int} {l : List Int} {i : Nat} {x : Int} (h : l[i]? = some x) : lastOr a (l.take (i + 1)) = x := by
  rw [List.take_add_one, h]; exact lastOr_snoc ..
theorem rises_cut {a : Int} : ∀ {l m : List Int}, risesFrom a (l ++ m) = true → risesFrom a l = true
  | [], _, _ => rfl
  | n :: l, m, h => by
    simp only [List.cons_append, risesFrom, Bool.and_eq_true] at h ⊢
    exact ⟨h.1, rises_cut h.2⟩
theorem rises_not {l : List Int} {i : Nat} (h : risesFrom (-1) (l.take i) = false) : risesB l = false := by
  cases hr : risesFrom (-1) l with
  | false => simp [risesB, hr]
  | true =>
    rw [← List.take_append_drop i l] at hr
    rw [rises_cut hr] at h; cases h
/-- May a list be? -/
def ascFrom : Option Key → List PostP → Bool
  | _, [] => true
  | none, p :: l => ascFrom (some p.1) l
  | some k, p :: l => before k p.1 && ascFrom (some p.1) l
def mayFrom : Option Key → List PostP → Bool
  | _, [] => true
  | q, p :: l => risesB p.2 && ((match q with | none => true | some k => before k p.1) && mayFrom (some p.1) l)
def mayB (l : List PostP) : Bool := mayFrom none l
def lastK (q : Option Key) (l : List PostP) : Option Key := match l.getLast? with | none => q | some p => some p.1
theorem mayFrom_snoc : ∀ (q : Option Key) (l : List PostP) (x : PostP), mayFrom q (l ++ [x]) = (mayFrom q l && (risesB x.2 && (match lastK q l with | none => true | some k => before k x.1)))
  | q, [], x => by simp [mayFrom, lastK]
  | q, p :: l, x => by
    have h := mayFrom_snoc (some p.1) l x
    have e : lastK q (p :: l) = lastK (some p.1) l := by
      cases l with
      | nil => rfl
      | cons m l => simp [lastK, List.getLast?_cons]
    simp only [List.cons_append, mayFrom, h, e, Bool.and_assoc]
theorem mayFrom_cut : ∀ {q : Option Key} {l m : List PostP}, mayFrom q (l ++ m) = true → mayFrom q l = true
  | _, [], _, _ => rfl
  | q, p :: l, m, h => by
    simp only [List.cons_append, mayFrom, Bool.and_eq_true] at h ⊢
    exact ⟨h.1, h.2.1, mayFrom_cut h.2.2⟩
theorem may_not {l : List PostP} {i : Nat} (h : mayB (l.take i) = false) : mayB l = false := by
  cases hr : mayB l with
  | false => rfl
  | true =>
    rw [← List.take_append_drop i l] at hr
    rw [mayB, mayFrom_cut hr] at h; cases h
theorem lastK_take {l : List PostP} {i : Nat} {x : PostP} (h : l[i]? = some x) : lastK none (l.take (i + 1)) = some x.1 := by
  rw [List.take_add_one, h]; simp [lastK]
theorem may_take {l : List PostP} {i : Nat} {x : PostP} (h : l[i]? = some x) : mayB (l.take (i + 1)) = (mayB (l.take i) && (risesB x.2 && (match lastK none (l.take i) with | none => true | some k => before k x.1))) := by
  rw [List.take_add_one, h]; exact mayFrom_snoc ..
theorem not_t {b : Bool} (h : (!b) = true) : b = false := by cases b <;> first | rfl | cases h
theorem not_f {b : Bool} (h : (!b) = false) : b = true := by cases b <;> first | rfl | cases h
theorem may_step0 {P : List PostP} {x : PostP} {i : Nat} (hi : i = 0) (h : P[i]? = some x) : mayB (P.take (i + 1)) = risesB x.2 := by
  subst hi
  rw [may_take h]; simp [mayB, mayFrom, lastK]
theorem may_stepS {P : List PostP} {x y : PostP} {i : Nat} (hi : 0 < i) (h : P[i]? = some x) (hy : P[i - 1]? = some y) (hm : mayB (P.take i) = true) : mayB (P.take (i + 1)) = (risesB x.2 && before y.1 x.1) := by
  have := lastK_take hy
  rw [show i - 1 + 1 = i by omega] at this
  rw [may_take h, hm, this, Bool.true_and]
theorem may_step_no {P : List PostP} {x : PostP} {i : Nat} (h : P[i]? = some x) (hx : risesB x.2 = false) : mayB P = false :=
  may_not (i := i + 1) (by rw [may_take h, hx, Bool.false_and, Bool.and_false])
theorem lastOr_ge : ∀ {a : Int} {l : List Int}, risesFrom a l = true → a ≤ lastOr a l
  | a, [], _ => Int.le_refl _
  | a, n :: l, h => by
    simp only [risesFrom, Bool.and_eq_true, decide_eq_true_eq] at h
    have := lastOr_ge h.2
    have e : lastOr a (n :: l) = lastOr n l := by
      cases l with
      | nil => rfl
      | cons m l => simp [lastOr, List.getLast?_cons]
    rw [e]; omega
end Go.Po
namespace Go.Proofs.Ytonilkceolbkmaa
open Go Go.Sl Go.Gv Go.Po
set_option maxRecDepth 100000
abbrev ptr (b : Nat) : Value := .pointer (some ⟨b, 0, none⟩)
abbrev encC_3 : Int → List Value := intC
abbrev encC_34 : Key → List Value := keyC
abbrev encC_37 : PostV → List Value := postC
abbrev encC_30 : SlV PostV → List Value := slC
abbrev encC_35 : SlV Int → List Value := slC
theorem ek_3 : EncOk 1 intC := ⟨fun _ => rfl, fun x v hv => by
  simp only [intC, List.mem_cons, List.not_mem_nil, or_false] at hv
  rcases hv with rfl; rfl⟩
theorem ek_34 : EncOk 2 keyC := ⟨fun _ => rfl, fun x v hv => by
  simp only [keyC, List.mem_cons, List.not_mem_nil, or_false] at hv
  rcases hv with rfl | rfl <;> rfl⟩
theorem ek_37 : EncOk 3 postC := ⟨fun _ => rfl, fun x v hv => by
  simp only [postC, List.mem_cons, List.not_mem_nil, or_false] at hv
  rcases hv with rfl | rfl | rfl <;> rfl⟩
theorem ek_30 : EncOk 1 (slC : SlV PostV → List Value) := ⟨fun _ => rfl, fun x v hv => by
  simp only [slC, List.mem_cons, List.not_mem_nil, or_false] at hv
  rcases hv with rfl; rfl⟩
theorem ek_35 : EncOk 1 (slC : SlV Int → List Value) := ⟨fun _ => rfl, fun x v hv => by
  simp only [slC, List.mem_cons, List.not_mem_nil, or_false] at hv
  rcases hv with rfl; rfl⟩
theorem cmp_34 : CmpT Try.prog 34 keyV 2 :=
  CmpT.of (fun k : Key => (k.o, k.q)) (fun a b => by cases a; cases b; simp) (fun _ => rfl)
    (cmp_ii Try.underlying34 Try.stoodInHeld34 ⟨by decide, by decide⟩ ⟨⟨rfl, rfl⟩, rfl, rfl⟩ Try.underlying3 na_3)
/-- A part of the heap in which a list of posts reads so. -/
def PRd (S : HProp) (a : Option Addr) (ps : List PostV) : Prop := Srd S 3 postC a ps ∧ ∀ p ∈ ps, Srd S 1 intC p.t.a p.t.xs ∧ p.t.xs.length ≤ 1000
def LRd (S : HProp) (a : Option Addr) (ls : List (SlV PostV)) : Prop := Srd S 1 slC a ls ∧ ∀ l ∈ ls, PRd S l.a l.xs ∧ l.xs.length ≤ 1000
abbrev plain1 (ps : List PostV) : List PostP := ps.map PostV.p
abbrev plain2 (ls : List (SlV PostV)) : List (List PostP) := ls.map fun l => plain1 l.xs
theorem plain_at {ps : List PostV} {i : Nat} {p : PostV} (h : ps[i]? = some p) : (plain1 ps)[i]? = some p.p := by simp [h]
end Go.Proofs.Ytonilkceolbkmaa
