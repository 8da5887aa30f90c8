/- Where the orders of a drawn region meet again. Nothing of the program stands here. -/
import Derived.Test.YtonilkceolbkmaaBigs
namespace Go.Sl
open Go
section
variable {P : Program} {n : Nat} {w0 : World} {ops : List Oper} {Q : Exit → Act → World → Prop} {D pp rp : List Nat} {env : Env} {H : List HProp}
theorem Rg.cutAt {σ : Type} (D0 : List Nat) (E : σ → Env) (I : σ → List HProp) (rest : ∀ s, Rg P n w0 ops Q D0 [] [] (E s) (I s))
    (way : (∀ s, Rg P n w0 ops Q D0 [] [] (E s) (I s)) → Rg P n w0 ops Q D pp rp env H) : Rg P n w0 ops Q D pp rp env H := way rest
theorem Rg.join {D0 : List Nat} {env0 : Env} {H0 : List HProp} (hD : (D.all (memb · D0) && D0.all (memb · D)) = true) (hp : (pp.isEmpty && rp.isEmpty) = true) (hE : Sub env env0) (hH : Ent H H0)
    (g : Rg P n w0 ops Q D0 [] [] env0 H0) : Rg P n w0 ops Q D pp rp env H := fun ht _ _ _ => by
  rw [Bool.and_eq_true, List.all_eq_true, List.all_eq_true] at hD
  rw [Bool.and_eq_true, List.isEmpty_iff, List.isEmpty_iff] at hp
  obtain ⟨rfl, rfl⟩ := hp
  have h0 : Good n ops ([] ++ []) := ⟨fun k hk => (List.not_mem_nil hk).elim, fun k hk => (List.not_mem_nil hk).elim⟩
  have r := g ht h0 (fun k hk => (List.not_mem_nil hk).elim) (fun k hk => (List.not_mem_nil hk).elim)
  exact fun fuel listed a w h1 h2 h3 h4 h5 h6 h7 h8 => r fuel listed a w h1 (fun i hi => memb_iff.1 (hD.1 i (h2 i hi))) (fun i hi _ => h3 i (memb_iff.1 (hD.2 i hi)) (fun h => List.not_mem_nil h)) h4 h5
    (fun t v hv hm => h6 t v (hE.lk hv) hm) (hH.sat h7) h8
end
theorem Gs.cutS {P : Program} {n : Nat} {w0 : World} {env : Env} {H : List HProp} {Q : Exit → Act → World → Prop} {σ : Type} (E : σ → Env) (I : σ → List HProp) {c : Code} {K : Act → World → Prop} (g : Gs w0 n env H (c.wp P (Exit.then (fun a w => ∃ s, EnvOk n (E s) a ∧ Sat w0 w (I s)) Q))) (k : ∀ s, Gs w0 n (E s) (I s) K) :
    Gs w0 n env H (c.wp P (Exit.then K Q)) := fun a w e s => Code.wp_mono (fun ex a' w' h => by
      cases ex with
      | normal => obtain ⟨x, h1, h2⟩ := h; exact k x a' w' h1 h2
      | _ => exact h) (g a w e s)
theorem Gs.cutEndS {n : Nat} {w0 : World} {env : Env} {H : List HProp} {σ : Type} {E : σ → Env} {I : σ → List HProp} (s : σ) (hE : Sub env (E s)) (hH : Ent H (I s)) : Gs w0 n env H (fun a w => ∃ s, EnvOk n (E s) a ∧ Sat w0 w (I s)) :=
  fun _ w e t => ⟨s, e.sub hE, hH.sat t⟩
/-- What a call leaves may be less. -/
theorem Ct.less {P : Program} {f : FuncId} {args : List Value} {pre : List HProp} {post post' : Value → List HProp → Prop} (S : Ct P f args pre post) (i : ∀ v hs, post v hs → ∃ hs', post' v hs' ∧ Ent hs hs') : Ct P f args pre post' :=
  ⟨S.enters, fun w0 w R s => (S.calls w0 w R s).mono fun _ _ ⟨v, hs, e, p, t⟩ => by
    obtain ⟨hs', p', en⟩ := i v hs p
    refine ⟨v, hs', e, p', t.imp fun h x => ?_⟩
    obtain ⟨h1, h2, d, rfl, l, m⟩ := big_append.1 x
    exact big_append.2 ⟨h1, h2, d, rfl, en.big l, m⟩⟩
theorem Ct.bigs {P : Program} {f : FuncId} {args : List Value} {L : List HProp} {post : Value → List HProp → Prop} (c : Ct P f args [Sl.big L] post) (h : ∀ v hs, post v hs → ∃ r, hs = Sl.big L :: r) : Ct P f args L (fun v hs => ∃ r, post v (Sl.big L :: r) ∧ hs = L ++ r) :=
  ⟨c.enters, fun w0 w R s => (c.calls w0 w R (Sat.big.2 s)).mono fun _ _ ⟨v, hs, he, hp, hsat⟩ => by
    obtain ⟨r, rfl⟩ := h v hs hp
    exact ⟨v, _, he, ⟨r, hp, rfl⟩, by rw [List.append_assoc]; exact Sat.big.1 hsat⟩⟩
end Go.Sl
