/- What the closing leans on: part 4. -/
import Derived.Test.YtklgiidfompdpaaGreatDoorZb
import Derived.Test.YtklgiidfompdpaaGreatDoorZc
import Derived.Test.YtklgiidfompdpaaGreatDoorZa
import Derived.ChangeArms
import Derived.Carry
namespace Go.Gv
open Go
structure Key where
  o : Int
  q : Int
  deriving DecidableEq
structure Rec where
  o : Int
  q : Int
  w : Int
  c : Int
  t : ByteArray
  deriving DecidableEq
def Rec.key (r : Rec) : Key := ⟨r.o, r.q⟩
def Rec.zero : Rec := ⟨0, 0, 0, 0, ⟨#[]⟩⟩
abbrev int (i : Int) : Value := .int .i64 i
abbrev intC (i : Int) : List Value := [.int .i64 i]
abbrev keyC (k : Key) : List Value := [.int .i64 k.o, .int .i64 k.q]
abbrev keyV (k : Key) : Value := .agg (keyC k).toArray
abbrev recC (r : Rec) : List Value := [.int .i64 r.o, .int .i64 r.q, .int .i64 r.w, .int .i64 r.c, .string r.t]
abbrev recV (r : Rec) : Value := .agg (recC r).toArray
def before (a b : Key) : Bool := if a.o = b.o then decide (a.q < b.q) else decide (a.o < b.o)
end Go.Gv
namespace Go.Gv
open Go
theorem before_iff {a b : Key} : before a b = true ↔ a.o < b.o ∨ (a.o = b.o ∧ a.q < b.q) := by
  unfold before; split <;> simp <;> omega
theorem before_not {a b : Key} : before a b = false ↔ b.o < a.o ∨ (a.o = b.o ∧ b.q ≤ a.q) := by
  unfold before; split <;> simp <;> omega
theorem before_trans {a b c : Key} (h : before a b = true) (k : before b c = true) : before a c = true := by
  rw [before_iff] at *; omega
theorem before_irr {a : Key} : before a a = false := by rw [before_not]; omega
theorem before_total {a b : Key} (h : a ≠ b) : before a b = true ∨ before b a = true := by
  rw [before_iff, before_iff]
  by_cases h1 : a.o = b.o
  · by_cases h2 : a.q = b.q
    · exact (h (by cases a; cases b; simp_all)).elim
    · omega
  · omega
def insK (k : Key) : List Key → List Key
  | [] => [k]
  | x :: l => if before x k then x :: insK k l else k :: x :: l
def sortK (l : List Key) : List Key := l.foldl (fun acc k => insK k acc) []
theorem insK_perm (k : Key) : ∀ l : List Key, List.Perm (insK k l) (k :: l)
  | [] => List.Perm.refl _
  | x :: l => by
    unfold insK; split
    · exact ((insK_perm k l).cons x).trans (List.Perm.swap ..)
    · exact List.Perm.refl _
theorem foldK_perm : ∀ (l acc : List Key), List.Perm (l.foldl (fun acc k => insK k acc) acc) (l ++ acc)
  | [], acc => List.Perm.refl _
  | k :: l, acc => by
    refine (foldK_perm l (insK k acc)).trans ?_
    refine ((insK_perm k acc).append_left l).trans ?_
    exact List.perm_middle
theorem sortK_perm (l : List Key) : List.Perm (sortK l) l := by have := foldK_perm l []; rwa [List.append_nil] at this
theorem sortK_mem {x : Key} {l : List Key} : x ∈ sortK l ↔ x ∈ l := (sortK_perm l).mem_iff
theorem sortK_length {l : List Key} : (sortK l).length = l.length := (sortK_perm l).length_eq
/-- In order: each before those behind it. -/
def Asc (l : List Key) : Prop := l.Pairwise fun a b => before a b = true
theorem insK_asc {k : Key} : ∀ {l : List Key}, Asc l → k ∉ l → Asc (insK k l)
  | [], _, _ => by simp [insK, Asc]
  | x :: l, h, hn => by
    have h' := List.pairwise_cons.1 h
    simp only [List.mem_cons, not_or] at hn
    unfold insK; split
    · rename_i hb
      refine List.pairwise_cons.2 ⟨fun y hy => ?_, insK_asc h'.2 hn.2⟩
      rcases List.mem_cons.1 ((insK_perm k l).mem_iff.1 hy) with rfl | hy
      · exact hb
      · exact h'.1 y hy
    · rename_i hb
      have hkx : before k x = true := (before_total hn.1).resolve_right hb
      refine List.pairwise_cons.2 ⟨fun y hy => ?_, h⟩
      rcases List.mem_cons.1 hy with rfl | hy
      · exact hkx
      · exact before_trans hkx (h'.1 y hy)
theorem foldK_asc : ∀ (l acc : List Key), Asc acc → (l ++ acc).Nodup → Asc (l.foldl (fun acc k => insK k acc) acc)
  | [], acc, h, _ => h
  | k :: l, acc, h, hn => by
    have hn1 : k ∉ l ++ acc := (List.nodup_cons.1 hn).1
    have hn2 : (l ++ acc).Nodup := (List.nodup_cons.1 hn).2
    refine foldK_asc l _ (insK_asc h fun hk => hn1 (List.mem_append_right _ hk)) ?_
    exact (((insK_perm k acc).append_left l).trans List.perm_middle).nodup_iff.2 hn
theorem sortK_asc {l : List Key} (h : l.Nodup) : Asc (sortK l) := foldK_asc l [] List.Pairwise.nil (by simpa using h)
theorem asc_uniq : ∀ {l m : List Key}, Asc l → Asc m → List.Perm l m → l = m
  | [], m, _, _, p => (List.nil_perm.1 p).symm ▸ rfl
  | a :: l, [], _, _, p => by have := p.length_eq; simp at this
  | a :: l, b :: m, h, k, p => by
    have h' := List.pairwise_cons.1 h
    have k' := List.pairwise_cons.1 k
    have hab : a = b := by
      apply Classical.byContradiction
      intro hne
      have h1 : a ∈ m := by
        have := p.mem_iff.1 (List.mem_cons_self (a := a) (l := l))
        rcases List.mem_cons.1 this with e | e
        · exact (hne e).elim
        · exact e
      have h2 : b ∈ l := by
        have := p.mem_iff.2 (List.mem_cons_self (a := b) (l := m))
        rcases List.mem_cons.1 this with e | e
        · exact (hne e.symm).elim
        · exact e
      have e1 := h'.1 b h2
      have e2 := k'.1 a h1
      have := before_trans e1 e2
      rw [before_irr] at this; cases this
    subst hab
    rw [asc_uniq h'.2 k'.2 p.cons_inv]
theorem sortK_of {l m : List Key} (hn : l.Nodup) (ha : Asc m) (p : List.Perm m l) : sortK l = m := asc_uniq (sortK_asc hn) ha ((sortK_perm l).trans p.symm)
theorem sort_merge (xs : List Key) (hn : xs.Nodup) : xs.mergeSort (fun x y => !before y x) = sortK xs := by
  refine (sortK_of hn ?_ (List.mergeSort_perm ..)).symm
  have hp := List.pairwise_mergeSort (le := fun x y : Key => !before y x) (fun a b c h1 h2 => by
    simp only [Bool.not_eq_true'] at *; rw [before_not] at *; omega) (fun a b => by
    cases h1 : before b a <;> cases h2 : before a b <;> simp
    rw [before_iff] at h1 h2; omega) xs
  have hn2 := ((List.mergeSort_perm xs (fun x y => !before y x)).nodup_iff).2 hn
  unfold Asc
  refine (hp.and hn2).imp fun {a b} h => ?_
  obtain ⟨h1, h2⟩ := h
  simp only [Bool.not_eq_true'] at h1
  rcases before_total h2 with h | h
  · exact h
  · rw [h] at h1; cases h1
/-- A key's place in a list, as the second copy looks for it. -/
def at_ (ks : List Key) (k : Key) : Nat := ks.findIdx fun x => !before x k
def intoL (ks : List Key) (k : Key) : List Key := if ks[at_ ks k]? = some k then ks else ks.take (at_ ks k) ++ [k] ++ ks.drop (at_ ks k)
end Go.Gv
namespace Go.Sl
open Go
section
variable {P : Program} {n : Nat} {w0 : World} {env : Env} {H : List HProp} {d : Option Tmp} {x y z : Operand} {T T' ty : TypeId} {pos : String} {af : Array Edge} {g : Option (Nat × Bool)}
def shrK (k : IntKind) (i j : Int) : Int := i.fdiv (2 ^ (min j.toNat k.bits))
theorem pu_shr {k k' : IntKind} {i j : Int} (h : ev env x = some (.int k i)) (h' : ev env y = some (.int k' j)) (hj : 0 ≤ j) : Pu P ⟨d, .binOp .shr T x y T', ty, pos, af, g⟩ env (.int k (shrK k i j)) := fun ρ w e => by
  refine run_v (s := do eqGuard .shr T x y (ρ x) (ρ y); binOp .shr T (ρ x) (ρ y)) ?_
  rw [e.eval h, e.eval h']
  have hg : (eqGuard .shr T x y (.int k i) (.int k' j)).run P w = .ok () w := by rfl
  have hn : ¬ j < 0 := by omega
  simp only [Sem.run_bind, hg, Result.andThen_ok]
  simp [binOp, Op.shift, hn, shrK]
end
end Go.Sl
namespace Go.Sl
open Go
section
variable {P : Program} {W : World} {t : TypeId}
/-- A slice that was there. -/
structure SlV (α : Type) where
  a : Option Addr
  xs : List α
  c : Nat
abbrev slC {α : Type} (s : SlV α) : List Value := [.slice s.a s.xs.length s.c]
end
end Go.Sl
