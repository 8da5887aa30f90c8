/- What the closings share; how posts read. -/
import Derived.Test.YtonilkceolbkmaaRows
import Derived.Test.YtonilkceolbkmaaOpn
import Derived.Test.YtonilkceolbkmaaPoV
import Derived.Carry
import Derived.Lib.LaidIn
import Derived.Deep.DeepHandedRow
import Derived.Deep.DeepWitnessRowRef
import Derived.ProofKit
import Derived.SizedLaws
import Derived.OpenShut
namespace Go.Proofs.Ytonilkceolbkmaa
open Go Go.Sl Go.ChangeShapes Go.WideShapes Go.ChangeAt Go.RowKit Go.Gv Go.Po
set_option maxRecDepth 100000
theorem own : ownKnob Try.prog.godebug = none := by kernel_rfl
theorem laidOut : laidOutB Try.prog = true := by kernel_rfl
noncomputable abbrev laidWorld (os : Os) : World := World.holding Try.prog os ⟨#[], #[], []⟩
theorem laidMet_nil (P : Program) (w : World) : laidMet P [] w := ⟨[], rfl, List.nodup_nil, fun _ _ h => by cases h⟩
/-- What a walk's contract over the whole of a world gives: nothing that was there turns. -/
theorem calls_of {P : Program} {f : FuncId} {args : List Value} {W : World} (c : Ct P f args [ro (whole W)] (fun v hs => v = .bool true ∧ hs = [ro (whole W)])) :
    Calls P f args.toArray W fun e W' => e = .returned (.bool true) ∧ Below W.heap.size W W' :=
  (c.calls W W [] (Sat.start W)).mono fun e W' ⟨v, hs, he, ⟨hv, hhs⟩, hsat⟩ => by
    subst hv; subst hhs
    exact ⟨he, Sat.below hsat⟩
/-- A contract that asks for nothing, with a part of the heap beside it. -/
theorem Ct.beside {P : Program} {f : FuncId} {args : List Value} {A : HProp} {v0 : Value} (c : Ct P f args [] (fun v hs => v = v0 ∧ hs = [])) : Ct P f args [A] (fun v hs => v = v0 ∧ hs = [A]) :=
  ⟨c.enters, fun w0 w R s => (c.calls w0 w (A :: R) s).mono fun e w' ⟨v, hs, he, ⟨hv, hhs⟩, hsat⟩ => ⟨v, [A], he, ⟨hv, rfl⟩, by subst hhs; exact hsat⟩⟩
theorem Opn.mapG {P : Program} {W : World} {t : TypeId} {α β : Type} {enc : α → List Value} {good : α → Prop} {enc' : β → List Value} {good' : β → Prop} (f : α → β) (h : Opn P W t enc good) (he : ∀ a, good a → enc a = enc' (f a)) (hg : ∀ a, good a → good' (f a)) : Opn P W t enc' good' := fun H e fuel cs x hx => by
  obtain ⟨a, h1, h2⟩ := h H e fuel cs x hx; exact ⟨f a, by rw [h1, he a h2], hg a h2⟩
theorem opn_int (W : World) : Opn Try.prog W 3 intC (fun i => (Lit.int .i64 i).wf = true) := Opn.int Try.underlying3
theorem opn_key (W : World) : Opn Try.prog W 34 keyC (fun k => (Lit.int .i64 k.o).wf = true ∧ (Lit.int .i64 k.q).wf = true) :=
  (Opn.struct Try.underlying34 (by kernel_rfl) (OpnF.cons (s := 1) rfl (by kernel_rfl) (opn_int W) (OpnF.cons (s := 1) rfl (by kernel_rfl) (opn_int W) OpnF.nil))).map (fun p => ⟨p.1, p.2.1⟩) (fun _ => rfl) (fun _ h => ⟨h.1, h.2.1⟩)
abbrev wfI (i : Int) : Prop := (Lit.int .i64 i).wf = true
abbrev goodPost (W : World) (p : PostV) : Prop := SlGood W 1 intC wfI p.t
theorem opn_ints (W : World) : Opn Try.prog W 35 slC (SlGood W 1 intC wfI) := Opn.slice Try.underlying35 (by kernel_rfl) (by decide) (opn_int W)
theorem opn_post (W : World) : Opn Try.prog W 37 postC (goodPost W) :=
  (Opn.struct Try.underlying37 (by kernel_rfl) (OpnF.cons (s := 2) rfl (by kernel_rfl) (opn_key W) (OpnF.cons (s := 1) rfl (by kernel_rfl) (opn_ints W) OpnF.nil))).map (fun p => ⟨p.1, p.2.1⟩) (fun _ => rfl) (fun _ h => h.2.1)
theorem opn_posts (W : World) : Opn Try.prog W 30 slC (SlGood W 3 postC (goodPost W)) := Opn.slice Try.underlying30 (by kernel_rfl) (by decide) (opn_post W)
theorem opn_postss (W : World) : Opn Try.prog W 22 slC (SlGood W 1 slC (SlGood W 3 postC (goodPost W))) := Opn.slice Try.underlying22 (by kernel_rfl) (by decide) (opn_posts W)
theorem opn_keys (W : World) : Opn Try.prog W 25 slC (SlGood W 2 keyC (fun _ => True)) := Opn.slice Try.underlying25 (by kernel_rfl) (by decide) ((opn_key W).map id (fun _ => rfl) (fun _ _ => trivial))
theorem lr0_of {W : World} {s : SlV (SlV PostV)} (h : SlGood W 1 slC (SlGood W 3 postC (goodPost W)) s) : LR0 (ro (whole W)) s.a s.xs :=
  ⟨Srd.ro h.1, h.2.1, fun l hl => ⟨Srd.ro (h.2.2.2.2 l hl).1, (h.2.2.2.2 l hl).2.1, fun p hp => ⟨Srd.ro ((h.2.2.2.2 l hl).2.2.2.2 p hp).1, ((h.2.2.2.2 l hl).2.2.2.2 p hp).2.1⟩⟩⟩
theorem int_in {i : Int} (h : (Lit.int .i64 i).wf = true) : -9223372036854775808 ≤ i ∧ i < 9223372036854775808 := by
  have h' := h
  simp [Lit.wf, IntKind.min, IntKind.max, IntKind.bits, IntKind.signed] at h'
  omega
section
variable {H : Type} {enc : TypeId × Value → H} {P : Program} {w : World} {base : Nat} {spare : Nat → Bool} {held : Bool}
theorem trodAll_five {t t' t'' t3 t4 : TypeId} {args : Array Value} {ds : List (DataW H)} {ps : List MemPlace} (h : DataW.TrodAll enc P w base spare held [t, t', t'', t3, t4] args.toList ds ps) :
    ∃ v v' v'' v3 v4 d d' d'' d3 d4 p p' p'' p3 p4, args = #[v, v', v'', v3, v4] ∧ ds = [d, d', d'', d3, d4] ∧ ps = p ++ p' ++ p'' ++ p3 ++ p4 ∧ DataW.Trod enc P w base spare held t v d p ∧ DataW.Trod enc P w base spare held t' v' d' p' ∧ DataW.Trod enc P w base spare held t'' v'' d'' p'' ∧ DataW.Trod enc P w base spare held t3 v3 d3 p3 ∧ DataW.Trod enc P w base spare held t4 v4 d4 p4 := by
  obtain ⟨v, vs, d, ds', p, q, hargs, rfl, rfl, hd, hrest⟩ := trodAll_cons h
  obtain ⟨v', vs', d', ds'', p', q', rfl, rfl, rfl, hd', hrest'⟩ := trodAll_cons hrest
  obtain ⟨v'', vs'', d'', ds''', p'', q'', rfl, rfl, rfl, hd'', hrest''⟩ := trodAll_cons hrest'
  obtain ⟨v3, vs3, d3, ds3, p3, q3, rfl, rfl, rfl, hd3, hrest3⟩ := trodAll_cons hrest''
  obtain ⟨v4, vs4, d4, ds4, p4, q4, rfl, rfl, rfl, hd4, hrest4⟩ := trodAll_cons hrest3
  obtain ⟨rfl, rfl, rfl⟩ := trodAll_nil hrest4
  exact ⟨v, v', v'', v3, v4, d, d', d'', d3, d4, p, p', p'', p3, p4, by cases args; simp_all, rfl, by simp, hd, hd', hd'', hd3, hd4⟩
theorem trodAll_mk5 {t t' t'' t3 t4 : TypeId} {v v' v'' v3 v4 : Value} {d d' d'' d3 d4 : DataW H} {p p' p'' p3 p4 : List MemPlace} (h : DataW.Trod enc P w base spare held t v d p) (h' : DataW.Trod enc P w base spare held t' v' d' p')
    (h'' : DataW.Trod enc P w base spare held t'' v'' d'' p'') (h3 : DataW.Trod enc P w base spare held t3 v3 d3 p3) (h4 : DataW.Trod enc P w base spare held t4 v4 d4 p4) : DataW.TrodAll enc P w base spare held [t, t', t'', t3, t4] [v, v', v'', v3, v4] [d, d', d'', d3, d4] (p ++ (p' ++ (p'' ++ (p3 ++ p4)))) := ⟨p, p' ++ (p'' ++ (p3 ++ p4)), h, trodAll_mk4 h' h'' h3 h4, rfl⟩
end
theorem wrap_of {W : World} {s : SlV PostV} (h : SlGood W 3 postC (goodPost W) s) : ∀ p ∈ s.xs, ∀ i ∈ p.t.xs, IntKind.i64.wrap i = i := fun p hp i hi => by
  have := int_in ((h.2.2.2.2 p hp).2.2.2.2 i hi)
  exact wrap_in this.1 this.2
theorem pr0_of {W : World} {s : SlV PostV} (h : SlGood W 3 postC (goodPost W) s) : Srd (ro (whole W)) 3 postC s.a s.xs ∧ s.xs.length ≤ maxLen ∧ ∀ p ∈ s.xs, Srd (ro (whole W)) 1 intC p.t.a p.t.xs ∧ p.t.xs.length ≤ maxLen :=
  ⟨Srd.ro h.1, h.2.1, fun p hp => ⟨Srd.ro (h.2.2.2.2 p hp).1, (h.2.2.2.2 p hp).2.1⟩⟩
end Go.Proofs.Ytonilkceolbkmaa
