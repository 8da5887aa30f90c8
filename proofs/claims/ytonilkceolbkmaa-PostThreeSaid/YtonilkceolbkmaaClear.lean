/- clear of a slice's end; contracts beside more. -/
import Derived.Test.YtonilkceolbkmaaSlc
import Derived.Test.YtonilkceolbkmaaSrk
import Derived.Test.YtonilkceolbkmaaMore
namespace Go.Sl
open Go
variable {P : Program} {w0 : World} {n : Nat} {env : Env} {H : List HProp}
theorem zeroCells_spec {z : Value} {zc : List Value} (hz : z.cells = zc.toArray) (hne : zc ≠ []) (m : Nat) : (Builtin.zeroCells z.cells m).toList.length = m * zc.length ∧ ∀ v ∈ (Builtin.zeroCells z.cells m).toList, v ∈ zc := by
  have hpos : 0 < zc.length := List.length_pos_iff.2 hne
  constructor
  · simp [Builtin.zeroCells, hz]
  · intro v hv
    simp only [Builtin.zeroCells, hz, Array.toList_map, List.mem_map] at hv
    obtain ⟨i, -, rfl⟩ := hv
    have hlt : i % zc.length < zc.length := Nat.mod_lt _ hpos
    simp only [List.size_toArray]
    rw [getElem!_pos zc.toArray (i % zc.length) (by simpa using hlt)]
    simp
theorem ac_clear {α : Type} {d : Option Tmp} {x : Operand} {T E sz ty c m cc : Nat} {pos : String} {af : Array Edge} {g : Option (Nat × Bool)} {enc : α → List Value} {a : Option Addr} {xs zs : List α} {z : Value} {zc : List Value} {H' : List HProp}
    (ht : P.underlying T = some (.slice E)) (zv : ZV P E z) (hz : z.cells = zc.toArray) (hp : zc.all plain = true) (hk : zc.length = sz) (h0 : 0 < sz)
    (hx : ev env x = some (.slice (suba a xs.length c sz) m cc)) (hm : m = zs.length) (e : EncOk sz enc) (t : Take (sl E sz enc a c (xs ++ zs)) H H') :
    Ac P ⟨d, .call ⟨.builtin .clear, #[x], #[T]⟩, ty, pos, af, g⟩ w0 env H (fun _ H'' => H'' = sl E sz enc a c xs :: H') := Ac.of_run fun ρ w r s => by
  have st := s.take t
  have hu : (underlying T).run P w = .ok (.slice E) w := by simp [underlying, ht, go_sem]
  have fin : ∀ w', (Builtin.clear_ #[T] ty #[.slice (suba a xs.length c sz) m cc]).run P w = .ok (.tuple #[]) w' → Sat w0 w' (sl E sz enc a c xs :: H') →
      ∃ v H'' w', (do Pure.pure (Next.value (← Builtin.clear_ #[T] ty (#[x].map ρ))) : Sem Next).run P w = .ok (.value v) w' ∧ H'' = sl E sz enc a c xs :: H' ∧ Sat w0 w' H'' := fun w' h1 h2 => by
    refine ⟨.tuple #[], _, w', ?_, rfl, h2⟩
    rw [show #[x].map ρ = #[ρ x] by simp, r.eval hx]
    exact run_v h1
  cases m with
  | zero =>
    refine fin w ?_ (st.ent sl_pre)
    simp only [Builtin.clear_, List.getElem?_toArray, List.getElem?_cons_zero, Sem.run_bind, hu, Result.andThen_ok]
    cases hsu : suba a xs.length c sz <;> simp [go_sem]
  | succ m =>
    obtain ⟨h, le, h1, h2, dd, rfl, hs, hl'⟩ := st.heap
    rcases hs with ⟨-, h0, -⟩ | ⟨b, off, cells, rfl, hpt, hlen, hroom, hxs⟩
    · have := (List.append_eq_nil_iff.1 h0).2; subst this; simp at hm
    · rw [List.length_append] at hlen
      have hsub : suba (some ⟨b, off, none⟩) xs.length c sz = some ⟨b, off + xs.length * sz, none⟩ := suba_some (by omega)
      have hne : zc ≠ [] := by rintro rfl; simp at hk; omega
      obtain ⟨z1, z2⟩ := zeroCells_spec hz hne (m + 1)
      have hfit : off + xs.length * sz + (Builtin.zeroCells z.cells (m + 1)).toList.length ≤ cells.toList.length := by
        rw [z1, hk, Nat.add_assoc, ← Nat.add_mul, Array.length_toList (xs := cells)]
        exact Nat.le_trans (Nat.add_le_add_left (Nat.mul_le_mul_right _ (by omega)) _) hroom
      have s1 : Sat w0 w (cl b E cells.toList :: H') := ⟨st.os, st.tape, st.output, st.size, _, le, h1, h2, dd, rfl, by simpa [cl] using hpt, hl'⟩
      obtain ⟨ds, g1, g2, g3, g4⟩ := lay_ex cells.toList (off + xs.length * sz) _ hfit
      obtain ⟨w', hw, s'⟩ := run_stores (P := P) _ 0 (off + xs.length * sz) cells.toList ds w s1 (fun v hv => List.all_eq_true.1 hp v (z2 v hv)) (by simpa using g1)
      refine fin w' ?_ (s'.ent fun hh hc => .inr ⟨b, off, ds.toArray, rfl, hc, by omega, by simp [g2]; exact hroom, fun j u hj q v hv => ?_⟩)
      · rw [hsub]
        simp only [Builtin.clear_, List.getElem?_toArray, List.getElem?_cons_zero, Sem.run_bind, hu, Result.andThen_ok, zv.run, hw, Sem.run_pure]
      · have hjl : j < xs.length := (List.getElem?_eq_some_iff.1 hj).1
        have hq : q < sz := by rw [← e.len u]; exact (List.getElem?_eq_some_iff.1 hv).1
        have := hxs j u (by rw [List.getElem?_append_left hjl]; exact hj) q v hv
        simp only [List.getElem?_toArray]
        have hmul : j * sz + sz ≤ xs.length * sz := by rw [← Nat.succ_mul]; exact Nat.mul_le_mul_right _ (by omega)
        rw [g4 _ (.inl (by omega))]; simpa using this
theorem Ct.left {f : FuncId} {args : List Value} {A B : HProp} {u : Value} (c : Ct P f args [A] (fun v hs => v = u ∧ hs = [A])) : Ct P f args [two A B] (fun v hs => v = u ∧ hs = [two A B]) :=
  ⟨c.enters, fun w0 w R s => (c.calls w0 w (B :: R) (Sat.two.1 s)).mono fun _ _ ⟨v, hs, he, ⟨h1, h2⟩, hsat⟩ => ⟨v, _, he, ⟨h1, rfl⟩, by subst h2; exact Sat.two.2 hsat⟩⟩
theorem Ct.right {f : FuncId} {args : List Value} {A B : HProp} {u : Value} (c : Ct P f args [B] (fun v hs => v = u ∧ hs = [B])) : Ct P f args [two A B] (fun v hs => v = u ∧ hs = [two A B]) :=
  ⟨c.enters, fun w0 w R s => (c.calls w0 w (A :: R) ((Sat.two.1 s).takes (As := [B, A]) (L' := R) (by repeat constructor))).mono fun _ _ ⟨v, hs, he, ⟨h1, h2⟩, hsat⟩ => ⟨v, _, he, ⟨h1, rfl⟩, by subst h2; exact Sat.two.2 (hsat.take (.tl .hd))⟩⟩
end Go.Sl
