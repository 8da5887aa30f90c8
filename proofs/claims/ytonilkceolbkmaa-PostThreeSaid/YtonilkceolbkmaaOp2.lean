/- Yet more operations: cuts with three indexes, least and greatest, slices against nil, parts of strings. Nothing of the program stands here. -/
import Derived.Test.YtonilkceolbkmaaMore
import Derived.Laws.Small
namespace Go.Sl
open Go
section
variable {P : Program} {n : Nat} {w0 : World} {env : Env} {H : List HProp} {d : Option Tmp} {x y z : Operand} {T T' ty : TypeId} {pos : String} {af : Array Edge} {g : Option (Nat × Bool)}
theorem pu_slice3H {u : Operand} {E sz by_ : Nat} {a : Option Addr} {l c : Nat} {k k' : IntKind} {i j : Int} (et : ET P T E sz by_) (hx : ev env x = some (.slice a l c)) (hz : ev env z = some (.int k i)) (hu : ev env u = some (.int k' j))
    (h0 : 0 ≤ i) (h1 : i ≤ j) (h2 : j ≤ c) : Pu P ⟨d, .slice T x none (some z) (some u), ty, pos, af, g⟩ env (.slice a i.toNat j.toNat) := fun ρ w e => by
  obtain ⟨inf, zz, ht, hi, -, rfl, rfl, -⟩ := et.ex
  refine run_v (s := Instr.sliceAt T (ρ x) none (some (ρ z)) (some (ρ u))) ?_
  rw [e.eval hx, e.eval hz, e.eval hu]
  have hu : (underlying T).run P w = .ok (.slice E) w := by simp [underlying, ht, go_sem]
  have hq : (sizeOf E).run P w = .ok inf.size w := by simp [sizeOf, typeInfo, hi, go_sem]
  have hb : (Instr.sliceBounds true l c none (some (.int k i)) (some (.int k' j))).run P w = .ok (0, i.toNat, j.toNat) w := by
    simp only [Instr.sliceBounds, if_true, Sem.run_bind, Sem.run_pure, Result.andThen_ok, run_bound (P := P) (w := w) (k := k') (code := .slice3Acap) (show 0 ≤ j by omega) h2, run_bound (P := P) (w := w) (k := k) (code := .slice3B) h0 (show i ≤ (j.toNat : Int) by omega)]
  unfold Instr.sliceAt Instr.slice
  simp only [Sem.run_bind, hu, hb, hq, Result.andThen_ok, Nat.sub_zero, Nat.zero_mul]
  have ha : (if j.toNat = 0 then a else a.map (·.add 0)) = a := by
    split
    · rfl
    · cases a with
      | none => rfl
      | some p => rfl
  rw [ha]; rfl
theorem pu_max {k k' : IntKind} {i j : Int} {ts : Array TypeId} (h : ev env x = some (.int k i)) (h' : ev env y = some (.int k' j)) : Pu P ⟨d, .call ⟨.builtin .max, #[x, y], ts⟩, ty, pos, af, g⟩ env (.int k (max i j)) := fun ρ w e => by
  have hm : (if j > i then j else i) = max i j := by split <;> omega
  have := run_max_int2 (P := P) (w := w) ts ty k k' i j
  simp [execOp, resolve, invoke, builtin, e.eval h, e.eval h', this, go_sem, hm]
theorem pu_min {k k' : IntKind} {i j : Int} {ts : Array TypeId} (h : ev env x = some (.int k i)) (h' : ev env y = some (.int k' j)) : Pu P ⟨d, .call ⟨.builtin .min, #[x, y], ts⟩, ty, pos, af, g⟩ env (.int k (min i j)) := fun ρ w e => by
  have hm : (if j < i then j else i) = min i j := by split <;> omega
  have := run_min_int2 (P := P) (w := w) ts ty k k' i j
  simp [execOp, resolve, invoke, builtin, e.eval h, e.eval h', this, go_sem, hm]
theorem equal_slice_nil {t e : TypeId} (w : World) (a : Option Addr) (n c n' c' : Nat) (h : P.underlying t = some (.slice e)) : (Op.equal t (.slice a n c) (.slice none n' c')).run P w = .ok a.isNone w := by
  have : ∀ d : Nat, (Op.equalIn (d + 1) t (.slice a n c) (.slice none n' c')).run P w = .ok a.isNone w := fun d => by
    cases a <;> simp [Op.equalIn, run_underlying h]
  exact this 9999
theorem pu_eqL {E l c l' c' : Nat} {a : Option Addr} (ht : P.underlying T = some (.slice E)) (h : ev env x = some (.slice a l c)) (h' : ev env y = some (.slice none l' c')) : Pu P ⟨d, .binOp .eql T x y T', ty, pos, af, g⟩ env (.bool a.isNone) := fun ρ w e => by
  refine run_v (s := do eqGuard .eql T x y (ρ x) (ρ y); binOp .eql T (ρ x) (ρ y)) ?_
  rw [e.eval h, e.eval h']
  have : (do eqGuard .eql T x y (.slice a l c) (.slice none l' c'); binOp .eql T (.slice a l c) (.slice none l' c') : Sem Value) = (do pure (.bool (← Op.equal T (.slice a l c) (.slice none l' c')))) := by cases a <;> rfl
  rw [this]; simp only [Sem.run_bind, equal_slice_nil w a l c l' c' ht, Result.andThen_ok]; rfl
theorem pu_neL {E l c l' c' : Nat} {a : Option Addr} (ht : P.underlying T = some (.slice E)) (h : ev env x = some (.slice a l c)) (h' : ev env y = some (.slice none l' c')) : Pu P ⟨d, .binOp .neq T x y T', ty, pos, af, g⟩ env (.bool a.isSome) := fun ρ w e => by
  refine run_v (s := do eqGuard .neq T x y (ρ x) (ρ y); binOp .neq T (ρ x) (ρ y)) ?_
  rw [e.eval h, e.eval h']
  have : (do eqGuard .neq T x y (.slice a l c) (.slice none l' c'); binOp .neq T (.slice a l c) (.slice none l' c') : Sem Value) = (do pure (.bool (!(← Op.equal T (.slice a l c) (.slice none l' c'))))) := by cases a <;> rfl
  rw [this]; simp only [Sem.run_bind, equal_slice_nil w a l c l' c' ht, Result.andThen_ok]; cases a <;> rfl
end
section
variable {α : Type} {w0 : World} {n : Nat} {env : Env} {H : List HProp} {X : Act → World → Prop}
/-- A slice cut down, its room with it. -/
theorem sl_room {E sz : Nat} {enc : α → List Value} {a : Option Addr} {c : Nat} {xs : List α} (k : Nat) (hk : k ≤ xs.length) : ∀ h, sl E sz enc a c xs h → sl E sz enc a k (xs.take k) h := fun h x => by
  rcases x with ⟨rfl, rfl, rfl⟩ | ⟨b, off, cells, rfl, hp, h1, h2, h3⟩
  · obtain rfl : k = 0 := by simpa using hk
    exact .inl ⟨rfl, rfl, rfl⟩
  · refine .inr ⟨b, off, cells, rfl, hp, by simp; omega, ?_, fun i y hi j v hj => h3 i y ?_ j v hj⟩
    · have := Nat.mul_le_mul_right sz (Nat.le_trans hk h1); omega
    · rw [List.getElem?_take] at hi; split at hi
      · exact hi
      · cases hi
theorem Srd.cutH {sz : Nat} {enc : α → List Value} {A : HProp} {a : Option Addr} {xs : List α} (S : Srd A sz enc a xs) (k c : Nat) (hc : xs.length ≤ c) : Srd A sz enc (suba a 0 c sz) (xs.take k) := fun w1 _ _ t => (S w1 _ _ t).cutH k c hc
theorem Srd.cutL {sz : Nat} {enc : α → List Value} {A : HProp} {a : Option Addr} {xs : List α} (S : Srd A sz enc a xs) (k c : Nat) (hc : xs.length ≤ c) : Srd A sz enc (suba a k c sz) (xs.drop k) := fun w1 _ _ t => (S w1 _ _ t).cutL k c hc
theorem Srd.pre {sz : Nat} {enc : α → List Value} {A : HProp} {a : Option Addr} {xs ys : List α} (S : Srd A sz enc a (xs ++ ys)) : Srd A sz enc a xs := fun w1 _ _ t => (S w1 _ _ t).pre
theorem Gs.slRoom {E sz : Nat} {enc : α → List Value} {a : Option Addr} {c : Nat} {xs : List α} {H' : List HProp} (k : Nat) (hk : k ≤ xs.length) (t : Take (sl E sz enc a c xs) H H') (g : Gs w0 n env (sl E sz enc a k (xs.take k) :: H') X) : Gs w0 n env H X :=
  fun ac w e s => g ac w e ((s.take t).ent (sl_room k hk))
end
end Go.Sl
