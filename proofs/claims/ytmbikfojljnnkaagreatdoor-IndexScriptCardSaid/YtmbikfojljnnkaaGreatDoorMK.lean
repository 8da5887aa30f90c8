/- Texts that stand in one. -/
import Derived.Test.YtmbikfojljnnkaaGreatDoorRg
import Derived.Test.YtmbikfojljnnkaaGreatDoorMD
/- The program's plain data, as Lean has them, and how they lie in cells. -/
namespace Go.Gv
open Go

structure Key where
  o : Int
  q : Int
  deriving DecidableEq
structure Rec where
  o : Int
  q : Int
  w : Int
  c : Int
  t : ByteArray
  deriving DecidableEq
def Rec.key (r : Rec) : Key := ⟨r.o, r.q⟩
def Rec.zero : Rec := ⟨0, 0, 0, 0, ⟨#[]⟩⟩
abbrev int (i : Int) : Value := .int .i64 i
abbrev intC (i : Int) : List Value := [.int .i64 i]
abbrev keyC (k : Key) : List Value := [.int .i64 k.o, .int .i64 k.q]
abbrev keyV (k : Key) : Value := .agg (keyC k).toArray
abbrev recC (r : Rec) : List Value := [.int .i64 r.o, .int .i64 r.q, .int .i64 r.w, .int .i64 r.c, .string r.t]
abbrev recV (r : Rec) : Value := .agg (recC r).toArray
def before (a b : Key) : Bool := if a.o = b.o then decide (a.q < b.q) else decide (a.o < b.o)
end Go.Gv

/- Keys in order: plain laws. -/
namespace Go.Gv
open Go
theorem before_iff {a b : Key} : before a b = true ↔ a.o < b.o ∨ (a.o = b.o ∧ a.q < b.q) := by
  unfold before; split <;> simp <;> omega
theorem before_not {a b : Key} : before a b = false ↔ b.o < a.o ∨ (a.o = b.o ∧ b.q ≤ a.q) := by
  unfold before; split <;> simp <;> omega
theorem before_trans {a b c : Key} (h : before a b = true) (k : before b c = true) : before a c = true := by
  rw [before_iff] at *; omega
theorem before_irr {a : Key} : before a a = false := by rw [before_not]; omega
theorem before_total {a b : Key} (h : a ≠ b) : before a b = true ∨ before b a = true := by
  rw [before_iff, before_iff]
  by_cases h1 : a.o = b.o
  · by_cases h2 : a.q = b.q
    · exact (h (by cases a; cases b; simp_all)).elim
    · omega
  · omega
def insK (k : Key) : List Key → List Key
  | [] => [k]
  | x :: l => if before x k then x :: insK k l else k :: x :: l
def sortK (l : List Key) : List Key := l.foldl (fun acc k => insK k acc) []
theorem insK_perm (k : Key) : ∀ l : List Key, List.Perm (insK k l) (k :: l)
  | [] => List.Perm.refl _
  | x :: l => by
    unfold insK; split
    · exact ((insK_perm k l).cons x).trans (List.Perm.swap ..)
    · exact List.Perm.refl _
theorem foldK_perm : ∀ (l acc : List Key), List.Perm (l.foldl (fun acc k => insK k acc) acc) (l ++ acc)
  | [], acc => List.Perm.refl _
  | k :: l, acc => by
    refine (foldK_perm l (insK k acc)).trans ?_
    refine ((insK_perm k acc).append_left l).trans ?_
    exact List.perm_middle
theorem sortK_perm (l : List Key) : List.Perm (sortK l) l := by have := foldK_perm l []; rwa [List.append_nil] at this
theorem sortK_mem {x : Key} {l : List Key} : x ∈ sortK l ↔ x ∈ l := (sortK_perm l).mem_iff
theorem sortK_length {l : List Key} : (sortK l).length = l.length := (sortK_perm l).length_eq
theorem sortK_snoc (l : List Key) (k : Key) : sortK (l ++ [k]) = insK k (sortK l) := by simp [sortK, List.foldl_append]
/-- In order: each before those behind it. -/
def Asc (l : List Key) : Prop := l.Pairwise fun a b => before a b = true
theorem insK_asc {k : Key} : ∀ {l : List Key}, Asc l → k ∉ l → Asc (insK k l)
  | [], _, _ => by simp [insK, Asc]
  | x :: l, h, hn => by
    have h' := List.pairwise_cons.1 h
    simp only [List.mem_cons, not_or] at hn
    unfold insK; split
    · rename_i hb
      refine List.pairwise_cons.2 ⟨fun y hy => ?_, insK_asc h'.2 hn.2⟩
      rcases List.mem_cons.1 ((insK_perm k l).mem_iff.1 hy) with rfl | hy
      · exact hb
      · exact h'.1 y hy
    · rename_i hb
      have hkx : before k x = true := (before_total hn.1).resolve_right hb
      refine List.pairwise_cons.2 ⟨fun y hy => ?_, h⟩
      rcases List.mem_cons.1 hy with rfl | hy
      · exact hkx
      · exact before_trans hkx (h'.1 y hy)
theorem foldK_asc : ∀ (l acc : List Key), Asc acc → (l ++ acc).Nodup → Asc (l.foldl (fun acc k => insK k acc) acc)
  | [], acc, h, _ => h
  | k :: l, acc, h, hn => by
    have hn1 : k ∉ l ++ acc := (List.nodup_cons.1 hn).1
    have hn2 : (l ++ acc).Nodup := (List.nodup_cons.1 hn).2
    refine foldK_asc l _ (insK_asc h fun hk => hn1 (List.mem_append_right _ hk)) ?_
    exact (((insK_perm k acc).append_left l).trans List.perm_middle).nodup_iff.2 hn
theorem sortK_asc {l : List Key} (h : l.Nodup) : Asc (sortK l) := foldK_asc l [] List.Pairwise.nil (by simpa using h)
theorem asc_uniq : ∀ {l m : List Key}, Asc l → Asc m → List.Perm l m → l = m
  | [], m, _, _, p => (List.nil_perm.1 p).symm ▸ rfl
  | a :: l, [], _, _, p => by have := p.length_eq; simp at this
  | a :: l, b :: m, h, k, p => by
    have h' := List.pairwise_cons.1 h
    have k' := List.pairwise_cons.1 k
    have hab : a = b := by
      apply Classical.byContradiction
      intro hne
      have h1 : a ∈ m := by
        have := p.mem_iff.1 (List.mem_cons_self (a := a) (l := l))
        rcases List.mem_cons.1 this with e | e
        · exact (hne e).elim
        · exact e
      have h2 : b ∈ l := by
        have := p.mem_iff.2 (List.mem_cons_self (a := b) (l := m))
        rcases List.mem_cons.1 this with e | e
        · exact (hne e.symm).elim
        · exact e
      have e1 := h'.1 b h2
      have e2 := k'.1 a h1
      have := before_trans e1 e2
      rw [before_irr] at this; cases this
    subst hab
    rw [asc_uniq h'.2 k'.2 p.cons_inv]
theorem sortK_of {l m : List Key} (hn : l.Nodup) (ha : Asc m) (p : List.Perm m l) : sortK l = m := asc_uniq (sortK_asc hn) ha ((sortK_perm l).trans p.symm)
theorem sort_merge (xs : List Key) (hn : xs.Nodup) : xs.mergeSort (fun x y => !before y x) = sortK xs := by
  refine (sortK_of hn ?_ (List.mergeSort_perm ..)).symm
  have hp := List.pairwise_mergeSort (le := fun x y : Key => !before y x) (fun a b c h1 h2 => by
    simp only [Bool.not_eq_true'] at *; rw [before_not] at *; omega) (fun a b => by
    cases h1 : before b a <;> cases h2 : before a b <;> simp
    rw [before_iff] at h1 h2; omega) xs
  have hn2 := ((List.mergeSort_perm xs (fun x y => !before y x)).nodup_iff).2 hn
  unfold Asc
  refine (hp.and hn2).imp fun {a b} h => ?_
  obtain ⟨h1, h2⟩ := h
  simp only [Bool.not_eq_true'] at h1
  rcases before_total h2 with h | h
  · exact h
  · rw [h] at h1; cases h1
/-- A key's place in a list, as the second copy looks for it. -/
def at_ (ks : List Key) (k : Key) : Nat := ks.findIdx fun x => !before x k
def intoL (ks : List Key) (k : Key) : List Key := if ks[at_ ks k]? = some k then ks else ks.take (at_ ks k) ++ [k] ++ ks.drop (at_ ks k)
theorem intoL_ins {k : Key} : ∀ {ks : List Key}, k ∉ ks → intoL ks k = insK k ks
  | [], _ => by simp [intoL, at_, insK]
  | x :: l, hn => by
    simp only [List.mem_cons, not_or] at hn
    have ih := intoL_ins (k := k) (ks := l) hn.2
    have hno : ∀ (ks : List Key) (i : Nat), k ∉ ks → ¬ ks[i]? = some k := fun ks i h e => h (List.mem_of_getElem? e)
    have hn' : k ∉ x :: l := by simp [hn.1, hn.2]
    unfold intoL at *
    rw [if_neg (hno _ _ hn')]
    rw [if_neg (hno _ _ hn.2)] at ih
    unfold insK
    by_cases hb : before x k = true
    · have : at_ (x :: l) k = at_ l k + 1 := by simp [at_, List.findIdx_cons, hb]
      rw [this, if_pos hb, ← ih]; simp
    · have hb' : before x k = false := by simpa using hb
      have : at_ (x :: l) k = 0 := by simp [at_, List.findIdx_cons, hb']
      rw [this, if_neg hb]; simp
end Go.Gv

/- Bits: exclusive or, shifts to the right; appends of a string's bytes. Nothing of the program stands here. -/
namespace Go.Sl
open Go
section
variable {P : Program} {n : Nat} {w0 : World} {env : Env} {H : List HProp} {d : Option Tmp} {x y z : Operand} {T T' ty : TypeId} {pos : String} {af : Array Edge} {g : Option (Nat × Bool)}
def xorK (k : IntKind) (i j : Int) : Int := k.wrap (BitVec.ofInt k.bits i ^^^ BitVec.ofInt k.bits j).toNat
theorem pu_xor {k : IntKind} {i j : Int} (h : ev env x = some (.int k i)) (h' : ev env y = some (.int k j)) : Pu P ⟨d, .binOp .xor T x y T', ty, pos, af, g⟩ env (.int k (xorK k i j)) := fun ρ w e => by
  refine run_v (s := do eqGuard .xor T x y (ρ x) (ρ y); binOp .xor T (ρ x) (ρ y)) ?_
  rw [e.eval h, e.eval h']
  simp only [Sem.run_bind, eqGuard_int, Result.andThen_ok]
  simp [binOp, Op.intBits, xorK]
def shrK (k : IntKind) (i j : Int) : Int := i.fdiv (2 ^ (min j.toNat k.bits))
theorem pu_shr {k k' : IntKind} {i j : Int} (h : ev env x = some (.int k i)) (h' : ev env y = some (.int k' j)) (hj : 0 ≤ j) : Pu P ⟨d, .binOp .shr T x y T', ty, pos, af, g⟩ env (.int k (shrK k i j)) := fun ρ w e => by
  refine run_v (s := do eqGuard .shr T x y (ρ x) (ρ y); binOp .shr T (ρ x) (ρ y)) ?_
  rw [e.eval h, e.eval h']
  have hg : (eqGuard .shr T x y (.int k i) (.int k' j)).run P w = .ok () w := by rfl
  have hn : ¬ j < 0 := by omega
  simp only [Sem.run_bind, hg, Result.andThen_ok]
  simp [binOp, Op.shift, hn, shrK]
/-- The byte that a number is cut to. -/
def cutB (z : Int) : UInt8 := UInt8.ofNat (IntKind.u8.wrap z).toNat
theorem cutB_eq (z : Int) : IntKind.u8.wrap z = (cutB z).toNat := by
  have h : 0 ≤ IntKind.u8.wrap z ∧ IntKind.u8.wrap z ≤ 255 := by simp [IntKind.wrap, IntKind.bits, IntKind.signed]; omega
  unfold cutB
  have e : (UInt8.ofNat (IntKind.u8.wrap z).toNat).toNat = (IntKind.u8.wrap z).toNat % 256 := UInt8.toNat_ofNat'
  rw [e]; omega
theorem SrcH.strB {tx : Nat} (hk : P.underlying tx = some .string) (s : ByteArray) : SrcH P w0 H 1 tx (.string s) s.data.toList.length (s.data.toList.flatMap fun c : UInt8 => [Value.int .u8 c.toNat]) := by
  have h := SrcH.str (w0 := w0) (H := H) hk s
  have e1 : byteCells s = s.data.toList.flatMap fun c : UInt8 => [Value.int .u8 c.toNat] := by
    unfold byteCells; generalize s.data.toList = l
    induction l with
    | nil => rfl
    | cons c l ih => simp [ih]
  rw [e1] at h
  have e2 : s.size = s.data.toList.length := by rw [Array.length_toList]; rfl
  rwa [e2] at h
end
end Go.Sl

