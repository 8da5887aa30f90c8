/- One rule for each kind of operation, over the layer of XSl: what it gives, what it does to the assertion. Nothing of the program stands here. -/
import Derived.Test.YtjaafkakeccniaaGreatDoorSl
namespace Go.Sl
open Go

section
variable {P : Program} {n : Nat} {w0 : World} {env : Env} {H : List HProp}

/-- What an operand stands for. -/
structure Rho (env : Env) (ρ : Operand → Value) : Prop where
  eval : ∀ {x : Operand} {v : Value}, ev env x = some v → ρ x = v
theorem EnvOk.rho {a : Act} (h : EnvOk n env a) : Rho env a.eval := ⟨h.eval⟩
theorem Evs.rho {ρ : Operand → Value} (h : Rho env ρ) {xs : List Operand} {vs : List Value} (e : Evs env xs vs) : xs.map ρ = vs := by
  induction e with
  | nil => rfl
  | cons e _ ih => simp [h.eval e, ih]
/-- The operation gives v, whatever the world. -/
def Pu (P : Program) (o : Oper) (env : Env) (v : Value) : Prop := ∀ ρ w, Rho env ρ → (execOp ρ o).run P w = .ok (.value v) w
/-- The operation reads v. -/
def Rd (P : Program) (o : Oper) (w0 : World) (env : Env) (H : List HProp) (v : Value) : Prop := ∀ ρ w, Rho env ρ → Sat w0 w H → (execOp ρ o).run P w = .ok (.value v) w
/-- What comes of an operation: a value, or what a call hands back. -/
def Outc (P : Program) (R : Value → World → Prop) : Result Next → Prop
  | .ok (.value v) w => R v w
  | .ok .skip w => R undef w
  | .ok (.enter f args) w => Calls P f args w fun e w' => ∃ v, e = .returned v ∧ R v w'
  | _ => False
/-- The operation acts. -/
def Ac (P : Program) (o : Oper) (w0 : World) (env : Env) (H : List HProp) (post : Value → List HProp → Prop) : Prop :=
  ∀ ρ w, Rho env ρ → Sat w0 w H → Outc P (fun v w' => ∃ H', post v H' ∧ Sat w0 w' H') ((execOp ρ o).run P w)
theorem Outc.wp {R : Value → World → Prop} {o : Oper} {a : Act} {w : World} {K : Act → World → Prop} {Q : Exit → Act → World → Prop} (h : Outc P R ((execOp a.eval o).run P w)) (k : ∀ v w', R v w' → K (a.put o.dst v) w') : o.wp P a w K Q := by
  unfold Oper.wp
  generalize (execOp a.eval o).run P w = r at h
  cases r with
  | ok x w' =>
    cases x <;> simp only [Outc] at h <;> first
      | exact k _ _ h
      | exact h.mono (fun e w'' ⟨v, he, hv⟩ => by subst he; exact k _ _ hv)
      | exact h.elim
  | halt x w' => exact h.elim

theorem Pu.rd {o : Oper} {v : Value} (h : Pu P o env v) : Rd P o w0 env H v := fun ρ w e _ => h ρ w e
theorem Rd.ac {o : Oper} {v : Value} (h : Rd P o w0 env H v) : Ac P o w0 env H (fun u H' => u = v ∧ H' = H) := fun ρ w e s => by
  rw [h ρ w e s]; exact ⟨H, ⟨rfl, rfl⟩, s⟩
theorem Ac.of_run {o : Oper} {post : Value → List HProp → Prop}
    (h : ∀ ρ w, Rho env ρ → Sat w0 w H → ∃ v H' w', (execOp ρ o).run P w = .ok (.value v) w' ∧ post v H' ∧ Sat w0 w' H') : Ac P o w0 env H post := fun ρ w e s => by
  obtain ⟨v, H', w', hr, hp, hs⟩ := h ρ w e s
  rw [hr]; exact ⟨H', hp, hs⟩
theorem Ac.of_skip {o : Oper} {post : Value → List HProp → Prop}
    (h : ∀ ρ w, Rho env ρ → Sat w0 w H → ∃ H' w', (execOp ρ o).run P w = .ok .skip w' ∧ post undef H' ∧ Sat w0 w' H') : Ac P o w0 env H post := fun ρ w e s => by
  obtain ⟨H', w', hr, hp, hs⟩ := h ρ w e s
  rw [hr]; exact ⟨H', hp, hs⟩
theorem Outc.mono {R R' : Value → World → Prop} {r : Result Next} (h : Outc P R r) (i : ∀ v w, R v w → R' v w) : Outc P R' r := by
  cases r with
  | ok x w' =>
    cases x <;> simp only [Outc] at h ⊢ <;> first
      | exact i _ _ h
      | exact h.mono (fun e w'' ⟨v, he, hv⟩ => ⟨v, he, i _ _ hv⟩)
  | halt x w' => exact h
theorem Ac.mono {o : Oper} {post post' : Value → List HProp → Prop} (h : Ac P o w0 env H post) (i : ∀ v H', post v H' → post' v H') : Ac P o w0 env H post' :=
  fun ρ w e s => (h ρ w e s).mono fun v w' ⟨H', p, s'⟩ => ⟨H', i v H' p, s'⟩
theorem Ac.take {o : Oper} {post : Value → List HProp → Prop} {H' : List HProp} (i : ∀ w, Sat w0 w H → Sat w0 w H') (h : Ac P o w0 env H' post) : Ac P o w0 env H post :=
  fun ρ w e s => h ρ w e (i w s)

/-! ### A region whose order is the text's -/
variable {Q : Exit → Act → World → Prop} {ops : Array Oper} {rest : List Oper}
theorem Gs.reg {id : Nat} {l : List Oper} (g : Gs w0 n env H (wpList P l.toArray Q l)) : Gs w0 n env H ((Code.region id l.toArray false).wp P Q) :=
  fun a w e s => wp_region_lit (g a w e s)
/-! ### Operations that hang on no memory -/
theorem pu_move {d : Option Tmp} {x : Operand} {ty : TypeId} {pos : String} {af : Array Edge} {g : Option (Nat × Bool)} {v : Value} (h : ev env x = some v) : Pu P ⟨d, .move x, ty, pos, af, g⟩ env v :=
  fun ρ w e => by simp [execOp, e.eval h, Sem.run, pure]
theorem pu_assign {d : Option Tmp} {x : Operand} {ty : TypeId} {pos : String} {af : Array Edge} {g : Option (Nat × Bool)} {v : Value} (h : ev env x = some v) : Pu P ⟨d, .assign x, ty, pos, af, g⟩ env v :=
  fun ρ w e => by simp [execOp, e.eval h, Sem.run, pure]
theorem pu_pick_t {d : Option Tmp} {c x y : Operand} {ty : TypeId} {pos : String} {af : Array Edge} {g : Option (Nat × Bool)} {v : Value} (hc : ev env c = some (.bool true)) (h : ev env x = some v) : Pu P ⟨d, .pick c x y, ty, pos, af, g⟩ env v :=
  fun ρ w e => by simp [execOp, e.eval hc, e.eval h, asBool, go_sem]
theorem pu_pick_f {d : Option Tmp} {c x y : Operand} {ty : TypeId} {pos : String} {af : Array Edge} {g : Option (Nat × Bool)} {v : Value} (hc : ev env c = some (.bool false)) (h : ev env y = some v) : Pu P ⟨d, .pick c x y, ty, pos, af, g⟩ env v :=
  fun ρ w e => by simp [execOp, e.eval hc, e.eval h, asBool, go_sem]
theorem pu_nil {d : Option Tmp} {x : Operand} {ty : TypeId} {pos : String} {af : Array Edge} {g : Option (Nat × Bool)} {p : Addr} (h : ev env x = some (.pointer (some p))) : Pu P ⟨d, .nilCheck x, ty, pos, af, g⟩ env (.pointer (some p)) :=
  fun ρ w e => by simp [execOp, e.eval h, Sem.run, pure]
theorem pu_nilF {d : Option Tmp} {x : Operand} {ty : TypeId} {pos : String} {af : Array Edge} {g : Option (Nat × Bool)} {f : FuncId} {u c : Array Value} (h : ev env x = some (.func (.func f) u c)) : Pu P ⟨d, .nilCheck x, ty, pos, af, g⟩ env (.func (.func f) u c) :=
  fun ρ w e => by simp [execOp, e.eval h, Sem.run, pure]
theorem pu_func {d : Option Tmp} {fn : Fn} {fs cs : List Operand} {ty : TypeId} {pos : String} {af : Array Edge} {g : Option (Nat × Bool)} {us vs : List Value} (h : Evs env fs us) (k : Evs env cs vs) :
    Pu P ⟨d, .makeFunc fn fs.toArray cs.toArray, ty, pos, af, g⟩ env (.func fn us.toArray vs.toArray) :=
  fun ρ w e => by simp [execOp, Instr.makeFunc, h.rho e, k.rho e, go_sem]
theorem pu_extract {d : Option Tmp} {x : Operand} {i : Nat} {ty : TypeId} {pos : String} {af : Array Edge} {g : Option (Nat × Bool)} {vs : List Value} {v : Value} (h : ev env x = some (.tuple vs.toArray)) (hv : vs[i]? = some v) :
    Pu P ⟨d, .extract x i, ty, pos, af, g⟩ env v :=
  fun ρ w e => by simp [execOp, e.eval h, Instr.extract, hv, go_sem]
theorem pu_not {d : Option Tmp} {x : Operand} {T ty : TypeId} {pos : String} {af : Array Edge} {g : Option (Nat × Bool)} {b : Bool} (h : ev env x = some (.bool b)) : Pu P ⟨d, .unOp .not T x, ty, pos, af, g⟩ env (.bool (!b)) :=
  fun ρ w e => by simp [execOp, e.eval h, Op.unary, go_sem]
section binary
variable {d : Option Tmp} {x y : Operand} {T T' ty : TypeId} {pos : String} {af : Array Edge} {g : Option (Nat × Bool)} {k : IntKind} {i j : Int}
theorem eqGuard_int (op : BinOp) (T : TypeId) (x y : Operand) (k : IntKind) (i j : Int) (w : World) : (eqGuard op T x y (.int k i) (.int k j)).run P w = .ok () w := by
  cases op <;> simp [eqGuard, go_sem]
theorem pu_add (h : ev env x = some (.int k i)) (h' : ev env y = some (.int k j)) : Pu P ⟨d, .binOp .add T x y T', ty, pos, af, g⟩ env (.int k (k.wrap (i + j))) :=
  fun ρ w e => by simp [execOp, e.eval h, e.eval h', eqGuard, binOp, Op.intArith, go_sem]
theorem pu_sub (h : ev env x = some (.int k i)) (h' : ev env y = some (.int k j)) : Pu P ⟨d, .binOp .sub T x y T', ty, pos, af, g⟩ env (.int k (k.wrap (i - j))) :=
  fun ρ w e => by simp [execOp, e.eval h, e.eval h', eqGuard, binOp, Op.intArith, go_sem]
theorem pu_mul (h : ev env x = some (.int k i)) (h' : ev env y = some (.int k j)) : Pu P ⟨d, .binOp .mul T x y T', ty, pos, af, g⟩ env (.int k (k.wrap (i * j))) :=
  fun ρ w e => by simp [execOp, e.eval h, e.eval h', eqGuard, binOp, Op.intArith, go_sem]
theorem wrap_in {z : Int} (h1 : -9223372036854775808 ≤ z) (h2 : z < 9223372036854775808) : IntKind.i64.wrap z = z := by
  simp only [IntKind.wrap, IntKind.bits, IntKind.signed]; simp; omega
theorem pu_addI {z : Int} (h : ev env x = some (.int .i64 i)) (h' : ev env y = some (.int .i64 j)) (hz : z = i + j) (h1 : -9223372036854775808 ≤ i + j) (h2 : i + j < 9223372036854775808) : Pu P ⟨d, .binOp .add T x y T', ty, pos, af, g⟩ env (.int .i64 z) := by
  have := pu_add (P := P) (d := d) (T := T) (T' := T') (ty := ty) (pos := pos) (af := af) (g := g) h h'; rwa [wrap_in h1 h2, ← hz] at this
theorem pu_subI {z : Int} (h : ev env x = some (.int .i64 i)) (h' : ev env y = some (.int .i64 j)) (hz : z = i - j) (h1 : -9223372036854775808 ≤ i - j) (h2 : i - j < 9223372036854775808) : Pu P ⟨d, .binOp .sub T x y T', ty, pos, af, g⟩ env (.int .i64 z) := by
  have := pu_sub (P := P) (d := d) (T := T) (T' := T') (ty := ty) (pos := pos) (af := af) (g := g) h h'; rwa [wrap_in h1 h2, ← hz] at this
theorem pu_mulI {z : Int} (h : ev env x = some (.int .i64 i)) (h' : ev env y = some (.int .i64 j)) (hz : z = i * j) (h1 : -9223372036854775808 ≤ i * j) (h2 : i * j < 9223372036854775808) : Pu P ⟨d, .binOp .mul T x y T', ty, pos, af, g⟩ env (.int .i64 z) := by
  have := pu_mul (P := P) (d := d) (T := T) (T' := T') (ty := ty) (pos := pos) (af := af) (g := g) h h'; rwa [wrap_in h1 h2, ← hz] at this
theorem pu_eq (h : ev env x = some (.int k i)) (h' : ev env y = some (.int k j)) : Pu P ⟨d, .binOp .eql T x y T', ty, pos, af, g⟩ env (.bool (decide (i = j))) :=
  fun ρ w e => by simp [execOp, e.eval h, e.eval h', eqGuard, binOp, Op.intCmp, go_sem]; rfl
theorem pu_ne (h : ev env x = some (.int k i)) (h' : ev env y = some (.int k j)) : Pu P ⟨d, .binOp .neq T x y T', ty, pos, af, g⟩ env (.bool (decide (i ≠ j))) :=
  fun ρ w e => by simp [execOp, e.eval h, e.eval h', eqGuard, binOp, Op.intCmp, go_sem]; by_cases hij : i = j <;> simp [hij]
theorem pu_lt (h : ev env x = some (.int k i)) (h' : ev env y = some (.int k j)) : Pu P ⟨d, .binOp .lss T x y T', ty, pos, af, g⟩ env (.bool (decide (i < j))) :=
  fun ρ w e => by simp [execOp, e.eval h, e.eval h', eqGuard, binOp, Op.intCmp, go_sem]
theorem pu_le (h : ev env x = some (.int k i)) (h' : ev env y = some (.int k j)) : Pu P ⟨d, .binOp .leq T x y T', ty, pos, af, g⟩ env (.bool (decide (i ≤ j))) :=
  fun ρ w e => by simp [execOp, e.eval h, e.eval h', eqGuard, binOp, Op.intCmp, go_sem]
theorem pu_gt (h : ev env x = some (.int k i)) (h' : ev env y = some (.int k j)) : Pu P ⟨d, .binOp .gtr T x y T', ty, pos, af, g⟩ env (.bool (decide (j < i))) :=
  fun ρ w e => by simp [execOp, e.eval h, e.eval h', eqGuard, binOp, Op.intCmp, go_sem]
theorem pu_ge (h : ev env x = some (.int k i)) (h' : ev env y = some (.int k j)) : Pu P ⟨d, .binOp .geq T x y T', ty, pos, af, g⟩ env (.bool (decide (j ≤ i))) :=
  fun ρ w e => by simp [execOp, e.eval h, e.eval h', eqGuard, binOp, Op.intCmp, go_sem]
theorem run_v {s : Sem Value} {v : Value} {w w' : World} (h : s.run P w = .ok v w') : (do pure (Next.value (← s)) : Sem Next).run P w = .ok (.value v) w' := by
  simp only [Sem.run_bind, h, Result.andThen_ok]; rfl
theorem equal_nil {T e' : TypeId} {p : Option Addr} (ht : P.underlying T = some (.pointer e')) (w : World) : (Op.equal T (.pointer p) (.pointer none)).run P w = .ok p.isNone w := by
  have h0 : (underlying T).run P w = .ok (.pointer e') w := by simp [underlying, ht, go_sem]
  show (Op.equalIn (9999 + 1) T (.pointer p) (.pointer none)).run P w = _
  unfold Op.equalIn
  simp only [Sem.run_bind, h0, Result.andThen_ok]
  cases p <;> rfl
/-- A pointer against nil. -/
theorem pu_eqN {e' : TypeId} {p : Option Addr} (ht : P.underlying T = some (.pointer e')) (h : ev env x = some (.pointer p)) (h' : ev env y = some (.pointer none)) : Pu P ⟨d, .binOp .eql T x y T', ty, pos, af, g⟩ env (.bool p.isNone) :=
  fun ρ w e => by
    refine run_v (s := do eqGuard .eql T x y (ρ x) (ρ y); binOp .eql T (ρ x) (ρ y)) ?_
    rw [e.eval h, e.eval h']
    have : (do eqGuard .eql T x y (.pointer p) (.pointer none); binOp .eql T (.pointer p) (.pointer none) : Sem Value) = (do pure (.bool (← Op.equal T (.pointer p) (.pointer none)))) := by cases p <;> rfl
    rw [this]; simp only [Sem.run_bind, equal_nil ht, Result.andThen_ok]; rfl
theorem pu_neN {e' : TypeId} {p : Option Addr} (ht : P.underlying T = some (.pointer e')) (h : ev env x = some (.pointer p)) (h' : ev env y = some (.pointer none)) : Pu P ⟨d, .binOp .neq T x y T', ty, pos, af, g⟩ env (.bool p.isSome) :=
  fun ρ w e => by
    refine run_v (s := do eqGuard .neq T x y (ρ x) (ρ y); binOp .neq T (ρ x) (ρ y)) ?_
    rw [e.eval h, e.eval h']
    have : (do eqGuard .neq T x y (.pointer p) (.pointer none); binOp .neq T (.pointer p) (.pointer none) : Sem Value) = (do pure (.bool (!(← Op.equal T (.pointer p) (.pointer none))))) := by cases p <;> rfl
    rw [this]; simp only [Sem.run_bind, equal_nil ht, Result.andThen_ok]; cases p <;> rfl
theorem toList_eq (s t : ByteArray) : (s.toList == t.toList) = decide (s = t) := by
  rw [ByteArray.toList_eq, ByteArray.toList_eq]
  by_cases h : s = t
  · subst h; simp
  · rw [decide_eq_false h, beq_eq_false_iff_ne]
    intro e; apply h
    cases s; cases t; exact congrArg _ (Array.toList_inj.1 e)
theorem pu_eqS {s t : ByteArray} (h : ev env x = some (.string s)) (h' : ev env y = some (.string t)) : Pu P ⟨d, .binOp .eql T x y T', ty, pos, af, g⟩ env (.bool (decide (s = t))) :=
  fun ρ w e => by
    refine run_v (s := do eqGuard .eql T x y (ρ x) (ρ y); binOp .eql T (ρ x) (ρ y)) ?_
    rw [e.eval h, e.eval h', ← toList_eq]; rfl
theorem pu_neS {s t : ByteArray} (h : ev env x = some (.string s)) (h' : ev env y = some (.string t)) : Pu P ⟨d, .binOp .neq T x y T', ty, pos, af, g⟩ env (.bool (decide (s ≠ t))) :=
  fun ρ w e => by
    refine run_v (s := do eqGuard .neq T x y (ρ x) (ρ y); binOp .neq T (ρ x) (ρ y)) ?_
    have hd : decide (s ≠ t) = !(s.toList == t.toList) := by rw [toList_eq]; by_cases hst : s = t <;> simp [hst]
    rw [e.eval h, e.eval h', hd]; rfl
/-- == on values of a type, by a fact on the type. -/
def EqT (P : Program) (T : TypeId) (u v : Value) (b : Bool) : Prop := ∀ w, (do eqGuard .eql T default default u v; Op.equal T u v : Sem Bool).run P w = .ok b w
end binary
/-- Where a struct's field lies. -/
structure FA (P : Program) (T i off : Nat) : Prop where
  run : ∀ (b o : Nat) (w : World), (Instr.fieldAt T (.pointer (some ⟨b, o, none⟩)) i).run P w = .ok (.pointer (some ⟨b, o + off, none⟩)) w
theorem FA.mk' {T i off sz : Nat} {fs : Array Field} {f : Field} (ht : P.underlying T = some (.struct fs)) (hf : fs[i]? = some f) (ho : f.offset = off) (hs : ∀ w, (sizeOf f.type).run P w = .ok (sz + 1) w) : FA P T i off :=
  ⟨fun b o w => by
    have h0 : (underlying T).run P w = .ok (.struct fs) w := by simp [underlying, ht, go_sem]
    simp only [Instr.fieldAt, Sem.run_bind, h0, hf, Instr.sureAddr, fieldPlace, hs, go_sem]
    simp [Addr.add, ho, go_sem]
    split <;> simp_all⟩
theorem pu_fa {d : Option Tmp} {x : Operand} {T i off : Nat} {ty : TypeId} {pos : String} {af : Array Edge} {g : Option (Nat × Bool)} {b o : Nat} (f : FA P T i off) (h : ev env x = some (.pointer (some ⟨b, o, none⟩))) :
    Pu P ⟨d, .fieldAddr T x i, ty, pos, af, g⟩ env (.pointer (some ⟨b, o + off, none⟩)) :=
  fun ρ w e => by refine run_v (s := Instr.fieldAt T (ρ x) i) ?_; rw [e.eval h]; exact f.run b o w
end
end Go.Sl
