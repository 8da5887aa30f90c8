/- Rounds of a range over a function: the code rules within a fence. Nothing of the program stands here. -/
import Derived.Test.YtjaafkakeccniaaGreatDoorMore
import Derived.RangeFuncRecord
import Derived.RangeFuncIn
import Derived.RangeFuncLeaves
import Derived.RangeFuncCalls
namespace Go.Sl
open Go

/-- A fence that lets everything in. -/
structure Fw (F : Fence) : Prop where
  fn : ∀ f, F.fn f
  depth : F.depth = none
  calls : ∀ (n : Nat) (P : Program) (f : FuncId) (args : Array Value) (w : World) (R : Ending → World → Prop), Calls P f args w R → CallsIn F n P f args w R
theorem Fw.wide : Fw Fence.wide := ⟨fun _ => trivial, rfl, fun _ _ _ _ _ _ h => callsIn_wide.2 h⟩
theorem Fw.round (l : Nat) : Fw (Fence.wide.inRound l) := ⟨fun _ => trivial, rfl, fun n P f args w R h => CallsIn.inRound l (callsIn_wide (n := n).2 h)⟩
def notDefer : Op → Bool
  | .defer _ => false
  | _ => true
section
variable {P : Program} {n m : Nat} {w0 : World} {env : Env} {H : List HProp} {F : Fence}
theorem Outc.wpIn (fw : Fw F) {R : Value → World → Prop} {o : Oper} {a : Act} {w : World} {K : Act → World → Prop} {Q : Exit → Act → World → Prop} (hd : notDefer o.op = true) (h : Outc P R ((execOp a.eval o).run P w)) (k : ∀ v w', R v w' → K (a.put o.dst v) w') : o.wpIn F m P a w K Q := by
  unfold Oper.wpIn
  refine ⟨fun f _ => fw.fn f, ?_⟩
  rw [Oper.semAt_eq _ _ _ (fun c e => by rw [e] at hd; cases hd)]
  generalize (execOp a.eval o).run P w = r at h
  cases r with
  | ok x w' =>
    cases x <;> simp only [Outc] at h <;> first
      | exact k _ _ h
      | (refine ⟨fun hs => (by rw [fw.depth] at hs; cases hs), fw.calls _ _ _ _ _ _ (h.mono ?_)⟩
         rintro e w'' ⟨v, rfl, hr⟩
         exact k _ _ hr)
  | _ => exact h.elim
variable {Q : Exit → Act → World → Prop}
theorem GI.seq {x y : Code} (g : Gs w0 n env H (x.wpIn F m P (Exit.then (y.wpIn F m P Q) Q))) : Gs w0 n env H ((Code.seq x y).wpIn F m P Q) := fun a w e s => wpIn_seq (g a w e s)
theorem GI.block {i : Nat} {c : Code} (g : Gs w0 n env H (c.wpIn F m P (Exit.inBlock i Q))) : Gs w0 n env H ((Code.block i c).wpIn F m P Q) := fun a w e s => wpIn_block (g a w e s)
theorem GI.reg {id : Nat} {l : List Oper} (ks : List Nat) (hk : List.range l.length = ks) (g : Gs w0 n env H (wpOpsIn F m P l.toArray Q ks)) : Gs w0 n env H ((Code.region id l.toArray false).wpIn F m P Q) := fun a w e s => wpIn_region (by subst hk; simpa using g a w e s)
variable {ops : Array Oper} {rest : List Nat}
theorem GI.ac {k d : Nat} {o : Oper} {post : Value → List HProp → Prop} (fw : Fw F) (ho : ops[k]? = some o) (hd : o.dst = some d) (hdn : Nat.blt d n = true) (hg : o.guard = none) (hnd : notDefer o.op = true) (s : Ac P o w0 env H post)
    (g : ∀ v H', post v H' → Gs w0 n ((d, v) :: env) H' (wpOpsIn F m P ops Q rest)) : Gs w0 n env H (wpOpsIn F m P ops Q (k :: rest)) := fun a w e t => by
  have hw : Region.wanted o (yielded ops a.tmps) = true := by simp [Region.wanted, hg]
  simp only [wpOpsIn, ho, hw, if_true]
  refine (s a.eval w e.rho t).wpIn fw hnd fun v w' ⟨H', p, t'⟩ => ?_
  rw [hd]; exact g v H' p _ _ (e.put (by simpa [Nat.blt_eq] using hdn) v) t'
theorem GI.ac0 {k : Nat} {o : Oper} {post : Value → List HProp → Prop} (fw : Fw F) (ho : ops[k]? = some o) (hd : o.dst = none) (hg : o.guard = none) (hnd : notDefer o.op = true) (s : Ac P o w0 env H post)
    (g : ∀ v H', post v H' → Gs w0 n env H' (wpOpsIn F m P ops Q rest)) : Gs w0 n env H (wpOpsIn F m P ops Q (k :: rest)) := fun a w e t => by
  have hw : Region.wanted o (yielded ops a.tmps) = true := by simp [Region.wanted, hg]
  simp only [wpOpsIn, ho, hw, if_true]
  refine (s a.eval w e.rho t).wpIn fw hnd fun v w' ⟨H', p, t'⟩ => ?_
  rw [hd]; exact g v H' p _ _ e t'
theorem GI.rd {k d : Nat} {o : Oper} {v : Value} (fw : Fw F) (ho : ops[k]? = some o) (hd : o.dst = some d) (hdn : Nat.blt d n = true) (hg : o.guard = none) (hnd : notDefer o.op = true) (s : Rd P o w0 env H v)
    (g : Gs w0 n ((d, v) :: env) H (wpOpsIn F m P ops Q rest)) : Gs w0 n env H (wpOpsIn F m P ops Q (k :: rest)) :=
  GI.ac fw ho hd hdn hg hnd s.ac fun _ _ ⟨h1, h2⟩ => by subst h1; subst h2; exact g
theorem GI.nil (g : Gs w0 n env H (Q .normal)) : Gs w0 n env H (wpOpsIn F m P ops Q []) := g
/-- Code within the widest fence is code. -/
theorem Gs.wide {c : Code} (g : Gs w0 n env H (c.wpIn Fence.wide m P Q)) : Gs w0 n env H (c.wp P Q) := fun a w e s => wpIn_wide.1 (g a w e s)
theorem Gs.begin {l : Nat} {r : Loop} (hr : r.state = .ready) {X : Act → World → Prop} (g : Gs w0 n env (pt l (.loop { r with state := .busy }) :: H) X) :
    Gs w0 n env (pt l (.loop r) :: H) (fun a w => ∃ w₂, (Instr.beginRound l).run P w = .ok () w₂ ∧ X a w₂) := fun a w e s => ⟨_, run_beginRound s.pt hr, g a _ e s.setMap⟩
theorem Gs.endRound {l : Nat} {r : Loop} {R : Ending → World → Prop} (k : ∀ w', Sat w0 w' (pt l (.loop { r with state := .ready, pending := none }) :: H) → R (.returned (.bool true)) w') :
    Gs w0 n env (pt l (.loop r) :: H) (roundPost P l R .normal) := fun a w e s => ⟨_, _, run_endRound none s.pt, k _ s.setMap⟩
/-- A body that holds a range over a function. -/
theorem Ct.introM {f : FuncId} {fn : Func} {c : Code} {args : List Value} {pre : List HProp} {post : Value → List HProp → Prop}
    (hf : P.funcs[f]? = some fn) (hb : fn.body = some c) (hname : (fn.name == "runtime.NumGoroutine") = false) (n : Nat) (hn : fn.ntmps = n) (hle : args.length ≤ n)
    (g : ∀ w0 R, Gs w0 n (envOf args 0) (pre ++ R) (c.wp P (bodyPostM Fence.wide 0 P fn fun e w' => ∃ v hs, e = .returned v ∧ post v hs ∧ Sat w0 w' (hs ++ R)))) :
    Ct P f args pre post := by
  refine ⟨Go.Proofs.enters_of hf hname hb args.toArray, fun w0 w R s => (callsIn_wide (n := 0)).1 (callsIn_of_wp_marks hf hb trivial (wpIn_wide.2 (g w0 R _ _ ⟨?_, rfl, ?_⟩ s)))⟩
  · simp [hn]; omega
  · intro t v h
    obtain ⟨-, h⟩ := lk_envOf args 0 t v h
    have hl := (List.getElem?_eq_some_iff.1 h).1
    simp only [Nat.sub_zero] at h hl
    simp [Array.getD_eq_getD_getElem?, Array.getElem?_append, hl, (List.getElem?_eq_some_iff.1 h).2]
theorem Sat.alloc2 {w : World} {L : List HProp} (s : Sat w0 w L) (o o' : Obj) : Sat w0 ((w.alloc o).alloc o') (Sl.pt (w.heap.size + 1) o' :: Sl.pt w.heap.size o :: L) := by
  have h := Sat.alloc (s.alloc o) o'
  have hsz : ({ w with heap := w.heap.push o } : World).heap.size = w.heap.size + 1 := by simp
  rw [hsz] at h; exact h
/-- Behind such a statement, where calls are deferred. -/
theorem tail_rd {l : List Oper} {o : Oper} {rest : List Oper} {d : Nat} {v : Value} {a : Act} {w : World} (ho : o.dst = some d) (hg : o.guard = none) (s : Rd P o w0 env H v) (rho : Rho env a.eval) (t : Sat w0 w H)
    (g : ∀ w', Sat w0 w' H → wpList P l.toArray Q rest (a.put (some d) v) w') : wpList P l.toArray Q (o :: rest) a w := by
  refine wpList_step fun K hK => ?_
  rw [if_pos (by simp [Region.wanted, hg])]
  refine (s.ac a.eval w rho t).wp fun v' w' ⟨H', ⟨hv, hH⟩, t'⟩ => hK _ _ ?_
  subst hv; subst hH; rw [ho]; exact g w' t'
/-- A range over a function, at an outermost loop. -/
theorem wp_rangeCall {x : Operand} {ps : Array Tmp} {assign body : Code} {a : Act} {w : World} {gf : FuncId} {cs : Array Value} (hg : a.eval x = .func (.func gf) #[] cs) (hen : ∀ args w, (callFunc gf args).run P w = .ok (.enter gf args) w)
    (h : ∀ fn r, r = ({ state := .ready, pending := none, fn, tmps := a.tmps, params := ps, assign, body, defers := w.heap.size } : Loop) → Calls P gf (#[.func (.yield (w.heap.size + 1)) #[] #[]] ++ cs) ((w.alloc (.deferred (some []))).alloc (.loop r)) fun e w' =>
      ∃ v w4, e = .returned v ∧ (Instr.endLoop (w.heap.size + 1)).run P w' = .ok none w4 ∧ Q .normal { a with defers := [{ target := .collected w.heap.size, args := #[] }] ++ a.defers } w4) :
    (Code.rangeFunc x ps assign body).wp P Q a w := by
  refine (wpIn_wide (n := 0)).1 (wpIn_rangeFunc (F := Fence.wide) (n := 0) fun fn _ => ?_)
  refine ⟨w.heap.size + 1, [{ target := .collected w.heap.size, args := #[] }], (w.alloc (.deferred (some []))).alloc (.loop { state := .ready, pending := none, fn, tmps := a.tmps, params := ps, assign, body, defers := w.heap.size }),
    { target := .fn (.func gf) cs, args := #[.func (.yield (w.heap.size + 1)) #[] #[]] }, (w.alloc (.deferred (some []))).alloc (.loop { state := .ready, pending := none, fn, tmps := a.tmps, params := ps, assign, body, defers := w.heap.size }), gf,
    #[.func (.yield (w.heap.size + 1)) #[] #[]] ++ cs, (w.alloc (.deferred (some []))).alloc (.loop { state := .ready, pending := none, fn, tmps := a.tmps, params := ps, assign, body, defers := w.heap.size }), run_enterLoop_outer _ _ _ _ _, ?_, fun _ _ => trivial, ?_, (fun h => by cases h), ?_⟩
  · simp only [resolve, hg]
    simp [go_sem]
  · simp [invoke, go_sem, hen]
  · refine callsIn_wide.2 ((h fn _ rfl).mono ?_)
    rintro e w' ⟨v, w4, rfl, h1, h2⟩
    exact ⟨none, w4, h1, h2⟩
/-- A call of yield: one round. -/
theorem GI.yield {k d l : Nat} {o : Oper} {f : FuncId} {tmps : Array Value} {assign body : Code} {post : Value → List HProp → Prop} (ho : ops[k]? = some o) (hd : o.dst = some d) (hdn : Nat.blt d n = true) (hg : o.guard = none)
    (s : ∀ ρ w, Rho env ρ → Sat w0 w H → (execOp ρ o).run P w = .ok (.round l f tmps assign body) w)
    (r : ∀ w, Sat w0 w H → RoundIn Fence.wide (m - 1) P l f tmps assign body w fun e w' => ∃ v H', e = .returned v ∧ post v H' ∧ Sat w0 w' H')
    (g : ∀ v H', post v H' → Gs w0 n ((d, v) :: env) H' (wpOpsIn Fence.wide m P ops Q rest)) : Gs w0 n env H (wpOpsIn Fence.wide m P ops Q (k :: rest)) := fun a w e t => by
  have hw : Region.wanted o (yielded ops a.tmps) = true := by simp [Region.wanted, hg]
  simp only [wpOpsIn, ho, hw, if_true]
  unfold Oper.wpIn
  refine ⟨fun _ _ => trivial, ?_⟩
  rw [show Fence.wide.round = none from rfl, Oper.semAt_none, s a.eval w e.rho t]
  refine ⟨(fun hs => by cases hs), (r w t).mono ?_⟩
  rintro e' w' ⟨v, H', rfl, hp, t'⟩
  show wpOpsIn Fence.wide m P ops Q rest (a.put o.dst v) w'
  rw [hd]; exact g v H' hp _ _ (e.put (by simpa [Nat.blt_eq] using hdn) v) t'
end
end Go.Sl
