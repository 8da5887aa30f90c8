/- Walks: And, Into, Or (grapevineref10). -/
import Derived.Test.YtonilkceolbkmaaPoF
namespace Go.Sl
open Go
/-- What is pure, as an act: what it waits for is done by then. -/
theorem Pu.ac {P : Program} {w0 : World} {env : Env} {H : List HProp} {o : Oper} {v : Value} (h : Pu P o env v) : Ac P o w0 env H (fun u H'' => u = v ∧ H'' = H) := Ac.of_run fun ρ w r s => ⟨v, H, w, h ρ w r, ⟨rfl, rfl⟩, s⟩
end Go.Sl
namespace Go.Po
open Go Go.Sl Go.Gv
def hasAll (ls : List (SlV PostV)) (k : Key) : Bool := ls.all fun l => (lookP l.xs k).isSome
def andV (ls : List (SlV PostV)) : List Key :=
  match ls with
  | [] => []
  | l0 :: r => if mayAll (ls.map fun l => l.xs.map PostV.p) then (l0.xs.filter fun p => hasAll (l0 :: r) p.k).map PostV.k else []
theorem found_all (k : Key) : ∀ ls : List (SlV PostV), decide ((foundV ls k).length = ls.length) = hasAll ls k
  | [] => rfl
  | l :: ls => by
    have ih := found_all k ls
    have hle := found_length ls k
    unfold foundV hasAll at *
    cases hl : lookP l.xs k with
    | none =>
      rw [List.filterMap_cons_none (f := fun l : SlV PostV => lookP l.xs k) hl, List.all_cons, hl, List.length_cons]
      simp only [Option.isSome_none, Bool.false_and]
      exact decide_eq_false (by omega)
    | some p =>
      rw [List.filterMap_cons_some (f := fun l : SlV PostV => lookP l.xs k) hl, List.all_cons, hl, List.length_cons, List.length_cons, Option.isSome_some, Bool.true_and, ← ih]
      exact decide_eq_decide.2 ⟨fun h => by omega, fun h => by omega⟩
theorem look_self {l : List PostV} (h : ((l.map PostV.p).map Prod.fst).Pairwise (fun a b => before a b = true)) {p : PostV} (hp : p ∈ l) : lookP l p.k = some p := by
  induction l with
  | nil => cases hp
  | cons x l ih =>
    simp only [List.map_cons, List.pairwise_cons] at h
    unfold lookP
    rw [List.find?_cons]
    rcases List.mem_cons.1 hp with rfl | hp
    · simp
    · have hb := h.1 p.k (List.mem_map.2 ⟨p.p, List.mem_map.2 ⟨p, hp, rfl⟩, rfl⟩)
      have hne : ¬ x.k = p.k := fun e => by
        have hb' : before x.k p.k = true := hb
        rw [e, before_irr] at hb'; cases hb'
      simp only [hne, decide_false]; exact ih h.2 hp
theorem andV_eq (ls : List (SlV PostV)) : eachV (fun _ => true) ls = andV ls := by
  unfold eachV andV
  split
  · rfl
  · rename_i l0 r
    split
    · rename_i hm
      congr 1
      refine List.filter_congr fun p hp => ?_
      have h0 : mayB (l0.xs.map PostV.p) = true := List.all_eq_true.1 hm _ (by simp)
      have hl := look_self (may_asc h0) hp
      rw [Bool.and_true, ← found_all]
      unfold foundV
      rw [List.filterMap_cons_some (f := fun l : SlV PostV => lookP l.xs p.k) hl]
    · rfl
theorem int_if_ge {p : Bool} {i : Nat} : decide (0 ≤ (if p = true then (i : Int) else -1)) = p := by
  cases p <;> simp
end Go.Po
namespace Go.Proofs.Ytonilkceolbkmaa
open Go Go.Sl Go.Gv Go.Po
set_option maxRecDepth 100000
theorem and10_spec {S : HProp} {a : Option Addr} {c : Nat} {ls : List (SlV PostV)} (hS : LRd S a ls) (hl : ls.length ≤ 900) :
    Ct Try.prog 14 [.slice a ls.length c] [S] (fun v hs => ∃ a' c', v = .slice a' (andV ls).length c' ∧ hs = [S, sl 34 2 keyC a' c' (andV ls)]) := by
  refine Ct.intro Try.func14 rfl (by kernel_rfl) 57 Try.ntmps14 (Nat.le_of_ble_eq_true rfl) fun w0 R => ?_
  refine Gs.slAddr (hS.1.h (by repeat constructor)) fun lb lo hla => ?_
  refine Gs.seq ?_
  refine Gs.reg ?_
  refine Go.Sl.L.pu rfl rfl trivial (pu_assign rfl) ?_
  refine Go.Sl.L.nil ?_
  refine Gs.then_n ?_
  refine Gs.seq ?_
  refine Gs.reg ?_
  refine Go.Sl.L.pu rfl rfl trivial (pu_assign rfl) ?_
  refine Go.Sl.L.nil ?_
  refine Gs.then_n ?_
  refine Gs.seq ?_
  refine Gs.seq ?_
  refine Gs.reg ?_
  refine Go.Sl.L.pu rfl rfl trivial (pu_move rfl) ?_
  refine Go.Sl.L.pu rfl rfl trivial (pu_len Try.underlying22 rfl) ?_
  refine Go.Sl.L.pu rfl rfl trivial (pu_eq rfl rfl) ?_
  refine Go.Sl.L.puB rfl rfl trivial (pu_move rfl) (fun hg3 => ?_) (fun hg3 => ?_)
  · skip
    have hno : andV ls = [] := by
      have h0 : ls.length = 0 := by have := of_decide_eq_true hg3; omega
      rw [List.length_eq_zero_iff.1 h0]; rfl
    refine Go.Sl.L.off rfl rfl rfl rfl rfl rfl ?_
    refine Go.Sl.L.off rfl rfl rfl rfl rfl rfl ?_
    refine Go.Sl.L.off rfl rfl rfl rfl rfl rfl ?_
    refine Go.Sl.L.pu rfl rfl trivial (by first | exact pu_pick_t rfl rfl | exact pu_pick_f rfl rfl) ?_
    refine Go.Sl.L.nil ?_
    refine Gs.then_n ?_
    refine Gs.cond_t rfl ?_
    refine Gs.seq ?_
    refine Gs.slNil 34 2 keyC ?_
    refine Gs.reg ?_
    refine Go.Sl.L.pu rfl rfl trivial (pu_assign rfl) ?_
    refine Go.Sl.L.nil ?_
    refine Gs.then_n ?_
    refine Gs.ret ?_
    refine Gs.then_r ?_
    exact Gs.fin1 Try.results14 rfl _ (⟨none, 0, by rw [hno]; rfl, by rw [hno]⟩) (by repeat constructor)
  · skip
    refine Go.Sl.L.pu rfl rfl ⟨_, rfl, rfl⟩ (pu_move rfl) ?_
    refine Go.Sl.L.ac rfl rfl ⟨_, rfl, rfl⟩ (as_call (all10_spec hS (by omega)) (by repeat constructor) (by repeat constructor)) ?_
    rintro _ _ ⟨_, ⟨rfl, rfl⟩, rfl⟩
    refine Go.Sl.L.pu rfl rfl ⟨_, rfl, rfl⟩ (pu_not rfl) ?_
    refine Go.Sl.L.pu rfl rfl trivial (by first | exact pu_pick_t rfl rfl | exact pu_pick_f rfl rfl) ?_
    refine Go.Sl.L.nil ?_
    refine Gs.then_n ?_
    refine Gs.cond rfl (fun hc0 => ?_) (fun hc0 => ?_)
    · skip
      have hno : andV ls = [] := by
        unfold andV; split
        · rfl
        · rename_i l0 r; exact if_neg (by rw [not_t hc0]; simp)
      refine Gs.seq ?_
      refine Gs.slNil 34 2 keyC ?_
      refine Gs.reg ?_
      refine Go.Sl.L.pu rfl rfl trivial (pu_assign rfl) ?_
      refine Go.Sl.L.nil ?_
      refine Gs.then_n ?_
      refine Gs.ret ?_
      refine Gs.then_r ?_
      exact Gs.fin1 Try.results14 rfl _ (⟨none, 0, by rw [hno]; rfl, by rw [hno]⟩) (by repeat constructor)
    · skip
      have hmay := not_f hc0
      obtain ⟨l0, r, rfl⟩ : ∃ l0 r, ls = l0 :: r := by cases ls with
        | nil => exact absurd rfl (of_decide_eq_false hg3)
        | cons l0 r => exact ⟨l0, r, rfl⟩
      obtain ⟨la, lx, lc⟩ := l0
      obtain rfl := hla (by simp)
      have hl0 : PRd S la lx ∧ lx.length ≤ 1000 := hS.2 ⟨la, lx, lc⟩ (by simp)
      have hrl : r.length ≤ 900 := by rw [List.length_cons] at hl; omega
      refine Gs.slAddr (hl0.1.1.h (by repeat constructor)) fun ab ao ha => ?_
      refine Gs.slNil 34 2 keyC ?_
      refine Gs.skip ?_
      refine Gs.then_n ?_
      refine Gs.seq ?_
      refine Gs.seq ?_
      refine Gs.reg ?_
      refine Go.Sl.L.pu rfl rfl trivial (pu_assign rfl) ?_
      refine Go.Sl.L.nil ?_
      refine Gs.then_n ?_
      refine Gs.block ?_
      refine Gs.loop1 (fun s : Nat × (Option Addr × Nat) × List Key => s.1 ≤ lx.length ∧ s.2.2 = ((lx.take s.1).filter fun p => hasAll (⟨la, lx, lc⟩ :: r) p.k).map PostV.k) (fun s => [(0, .slice (some ⟨lb, lo, none⟩) ((⟨la, lx, lc⟩ : SlV PostV) :: r).length c), (3, .slice s.2.1.1 s.2.2.length s.2.1.2), (4, int s.1)]) (fun s => [S, sl 34 2 keyC s.2.1.1 s.2.1.2 s.2.2] ++ R) (fun s => lx.length - s.1) (0, (none, 0), []) (⟨Nat.zero_le _, rfl⟩) (by repeat constructor) (by repeat constructor) (fun s hs => ?_)
      obtain ⟨i, ⟨ka, kc⟩, K⟩ := s
      obtain ⟨hi, hK⟩ := hs
      dsimp only at hi hK ⊢
      have hKl : K.length ≤ 1000 := by rw [hK, List.length_map]; refine Nat.le_trans (List.length_filter_le ..) ?_; rw [List.length_take]; have := hl0.2; omega
      refine Gs.seq ?_
      refine Gs.seq ?_
      refine Gs.reg ?_
      refine Go.Sl.L.pu rfl rfl trivial (pu_move rfl) ?_
      refine Go.Sl.L.pu rfl rfl trivial (pu_move rfl) ?_
      refine Go.Sl.L.pu rfl rfl trivial (pu_ia se_22 rfl rfl (by decide) (by rw [List.length_cons]; omega)) ?_
      refine Go.Sl.L.rd rfl rfl trivial (rd_ld na_30 rfl (Rdc.el0 (i := 0) (x := ⟨la, lx, lc⟩) (xs := ⟨la, lx, lc⟩ :: r) (enc := slC) (sz := 1) (hS.1.h (by repeat constructor)) rfl rfl rfl)) ?_
      refine Go.Sl.L.pu rfl rfl trivial (pu_len Try.underlying30 rfl) ?_
      refine Go.Sl.L.pu rfl rfl trivial (pu_lt rfl rfl) ?_
      refine Go.Sl.L.nil ?_
      refine Gs.then_n ?_
      refine Gs.cond rfl (fun hc1 => ?_) (fun hc1 => ?_)
      · skip
        have hlt : i < lx.length := by have h := of_decide_eq_true hc1; dsimp only at h; omega
        obtain ⟨p, hp⟩ : ∃ x, lx[i]? = some x := ⟨lx[i], by simp [hlt]⟩
        obtain rfl := ha (by intro e; rw [e] at hp; simp at hp)
        refine Gs.skip ?_
        refine Gs.then_n ?_
        refine Gs.seq ?_
        refine Gs.block ?_
        refine Gs.seq ?_
        refine Gs.reg ?_
        refine Go.Sl.L.pu rfl rfl trivial (pu_assign rfl) ?_
        refine Go.Sl.L.nil ?_
        refine Gs.then_n ?_
        refine Gs.seq ?_
        refine Gs.seq ?_
        refine Gs.reg ?_
        refine Go.Sl.L.pu rfl rfl trivial (pu_assign rfl) ?_
        refine Go.Sl.L.nil ?_
        refine Gs.then_n ?_
        refine Gs.block ?_
        refine Gs.loop1 (fun s : Nat × Bool => s.1 ≤ r.length + 1 ∧ s.2 = hasAll (((⟨some ⟨ab, ao, none⟩, lx, lc⟩ : SlV PostV) :: r).take s.1) p.k) (fun s => [(0, .slice (some ⟨lb, lo, none⟩) ((⟨some ⟨ab, ao, none⟩, lx, lc⟩ : SlV PostV) :: r).length c), (3, .slice ka K.length kc), (4, int i), (5, .bool s.2), (6, int s.1)]) (fun s => [S, sl 34 2 keyC ka kc K] ++ R) (fun s => r.length + 1 - s.1) (0, true) (⟨Nat.zero_le _, rfl⟩) (by repeat constructor) (by repeat constructor) (fun s hs1 => ?_)
        obtain ⟨j, b⟩ := s
        obtain ⟨hj, hb⟩ := hs1
        dsimp only at hj hb ⊢
        have hcl : ((⟨some ⟨ab, ao, none⟩, lx, lc⟩ : SlV PostV) :: r).length = r.length + 1 := rfl
        refine Gs.seq ?_
        refine Gs.seq ?_
        refine Gs.reg ?_
        refine Go.Sl.L.pu rfl rfl trivial (pu_move rfl) ?_
        refine Go.Sl.L.pu rfl rfl trivial (pu_move rfl) ?_
        refine Go.Sl.L.pu rfl rfl trivial (pu_len Try.underlying22 rfl) ?_
        refine Go.Sl.L.pu rfl rfl trivial (pu_lt rfl rfl) ?_
        refine Go.Sl.L.nil ?_
        refine Gs.then_n ?_
        refine Gs.cond rfl (fun hc2 => ?_) (fun hc2 => ?_)
        · skip
          have hlt1 : j < r.length + 1 := by have := of_decide_eq_true hc2; rw [hcl] at this; omega
          obtain ⟨y, hy⟩ : ∃ x, ((⟨some ⟨ab, ao, none⟩, lx, lc⟩ : SlV PostV) :: r)[j]? = some x := ⟨((⟨some ⟨ab, ao, none⟩, lx, lc⟩ : SlV PostV) :: r)[j]'(by omega), by simp⟩
          have hyl := hS.2 y (List.mem_of_getElem? hy)
          have hstep : hasAll (((⟨some ⟨ab, ao, none⟩, lx, lc⟩ : SlV PostV) :: r).take (j + 1)) p.k = (b && (lookP y.xs p.k).isSome) := by rw [hb]; exact all_take hy
          refine Gs.skip ?_
          refine Gs.then_n ?_
          refine Gs.seq ?_
          refine Gs.block ?_
          refine Gs.regD mixed (by kernel_rfl) ?_
          refine Rg.pu 0 rfl rfl (by kernel_rfl) trivial (pu_move rfl) ?_
          refine Rg.puB 1 rfl rfl (by kernel_rfl) trivial (pu_move rfl) (fun hg1 => ?_) (fun hg1 => ?_)
          · skip
            have hsb : hasAll (((⟨some ⟨ab, ao, none⟩, lx, lc⟩ : SlV PostV) :: r).take (j + 1)) p.k = (lookP y.xs p.k).isSome := by rw [hstep, hg1]; rfl
            refine Rg.pu 2 rfl rfl (by kernel_rfl) ⟨_, rfl, rfl⟩ (pu_move rfl) ?_
            refine Rg.pu 3 rfl rfl (by kernel_rfl) ⟨_, rfl, rfl⟩ (pu_move rfl) ?_
            refine Rg.pu 4 rfl rfl (by kernel_rfl) ⟨_, rfl, rfl⟩ (pu_ia se_22 rfl rfl (by omega) (by rw [hcl]; omega)) ?_
            refine Rg.rd 5 rfl rfl (by kernel_rfl) ⟨_, rfl, rfl⟩ (rd_ld na_30 rfl (Rdc.el0 (xs := (⟨some ⟨ab, ao, none⟩, lx, lc⟩ : SlV PostV) :: r) (enc := slC) (sz := 1) (hS.1.h (by repeat constructor)) hy rfl rfl)) ?_
            refine Rg.pu 6 rfl rfl (by kernel_rfl) ⟨_, rfl, rfl⟩ (pu_move rfl) ?_
            refine Rg.pu 7 rfl rfl (by kernel_rfl) ⟨_, rfl, rfl⟩ (pu_ia se_22 rfl rfl (by decide) (by rw [hcl]; omega)) ?_
            refine Rg.rd 8 rfl rfl (by kernel_rfl) ⟨_, rfl, rfl⟩ (rd_ld na_30 rfl (Rdc.el0 (i := 0) (x := ⟨some ⟨ab, ao, none⟩, lx, lc⟩) (xs := (⟨some ⟨ab, ao, none⟩, lx, lc⟩ : SlV PostV) :: r) (enc := slC) (sz := 1) (hS.1.h (by repeat constructor)) rfl rfl rfl)) ?_
            refine Rg.pu 9 rfl rfl (by kernel_rfl) ⟨_, rfl, rfl⟩ (pu_move rfl) ?_
            refine Rg.pu 10 rfl rfl (by kernel_rfl) ⟨_, rfl, rfl⟩ (pu_ia se_30 rfl rfl (by omega) (by dsimp only; omega)) ?_
            refine Rg.pu 11 rfl rfl (by kernel_rfl) ⟨_, rfl, rfl⟩ (pu_fa fa_37_0 rfl) ?_
            refine Rg.rd 12 rfl rfl (by kernel_rfl) ⟨_, rfl, rfl⟩ (rd_lda ag_34 rfl (Rdc.elp 2 (hl0.1.1.h (by repeat constructor)) hp rfl rfl) rfl) ?_
            refine Rg.one (by kernel_rfl) (Stp.ac 13 rfl rfl (by kernel_rfl) ⟨_, rfl, rfl⟩ (as_call (find10_spec hyl.1.1 hyl.2 p.k) (by repeat constructor) (by repeat constructor))  ?_)
            rintro _ _ ⟨_, ⟨rfl, rfl⟩, rfl⟩
            refine Rg.pu 14 rfl rfl (by kernel_rfl) ⟨_, rfl, rfl⟩ (pu_ge rfl rfl) ?_
            rw [int_if_ge]
            refine Rg.pu 15 rfl rfl (by kernel_rfl) trivial (by first | exact pu_pick_t rfl rfl | exact pu_pick_f rfl rfl) ?_
            refine Rg.one (by kernel_rfl) (Stp.ac 16 rfl rfl (by kernel_rfl) trivial (Pu.ac (pu_assign rfl))  ?_)
            rintro _ _ ⟨rfl, rfl⟩
            refine Rg.end (by kernel_rfl) ?_
            refine Gs.blk_n ?_
            refine Gs.then_n ?_
            refine Gs.reg ?_
            refine Go.Sl.L.pu rfl rfl trivial (pu_move rfl) ?_
            refine Go.Sl.L.pu rfl rfl trivial (by first | exact pu_addI rfl rfl rfl (by omega) (by omega) | exact pu_add rfl rfl) ?_
            refine Go.Sl.L.pu rfl rfl trivial (pu_assign rfl) ?_
            refine Go.Sl.L.nil ?_
            refine Gs.then_n ?_
            first | exact Gs.again1 (j + 1, (lookP y.xs p.k).isSome) ⟨by show j + 1 ≤ r.length + 1; omega, hsb.symm⟩ (by show r.length + 1 - (j + 1) < r.length + 1 - j; omega) (by repeat constructor) (by repeat constructor) | exact Gs.again1 (j + 1, false) ⟨by show j + 1 ≤ r.length + 1; omega, hsb.symm⟩ (by show r.length + 1 - (j + 1) < r.length + 1 - j; omega) (by repeat constructor) (by repeat constructor)
          · skip
            have hsb : hasAll (((⟨some ⟨ab, ao, none⟩, lx, lc⟩ : SlV PostV) :: r).take (j + 1)) p.k = false := by rw [hstep, hg1]; rfl
            refine Rg.off 2 rfl rfl (by kernel_rfl) rfl rfl rfl rfl ?_
            refine Rg.off 3 rfl rfl (by kernel_rfl) rfl rfl rfl rfl ?_
            refine Rg.off 4 rfl rfl (by kernel_rfl) rfl rfl rfl rfl ?_
            refine Rg.off 5 rfl rfl (by kernel_rfl) rfl rfl rfl rfl ?_
            refine Rg.off 6 rfl rfl (by kernel_rfl) rfl rfl rfl rfl ?_
            refine Rg.off 7 rfl rfl (by kernel_rfl) rfl rfl rfl rfl ?_
            refine Rg.off 8 rfl rfl (by kernel_rfl) rfl rfl rfl rfl ?_
            refine Rg.off 9 rfl rfl (by kernel_rfl) rfl rfl rfl rfl ?_
            refine Rg.off 10 rfl rfl (by kernel_rfl) rfl rfl rfl rfl ?_
            refine Rg.off 11 rfl rfl (by kernel_rfl) rfl rfl rfl rfl ?_
            refine Rg.off 12 rfl rfl (by kernel_rfl) rfl rfl rfl rfl ?_
            refine Rg.off 13 rfl rfl (by kernel_rfl) rfl rfl rfl rfl ?_
            refine Rg.off 14 rfl rfl (by kernel_rfl) rfl rfl rfl rfl ?_
            refine Rg.pu 15 rfl rfl (by kernel_rfl) trivial (by first | exact pu_pick_t rfl rfl | exact pu_pick_f rfl rfl) ?_
            refine Rg.one (by kernel_rfl) (Stp.ac 16 rfl rfl (by kernel_rfl) trivial (Pu.ac (pu_assign rfl))  ?_)
            rintro _ _ ⟨rfl, rfl⟩
            refine Rg.end (by kernel_rfl) ?_
            refine Gs.blk_n ?_
            refine Gs.then_n ?_
            refine Gs.reg ?_
            refine Go.Sl.L.pu rfl rfl trivial (pu_move rfl) ?_
            refine Go.Sl.L.pu rfl rfl trivial (by first | exact pu_addI rfl rfl rfl (by omega) (by omega) | exact pu_add rfl rfl) ?_
            refine Go.Sl.L.pu rfl rfl trivial (pu_assign rfl) ?_
            refine Go.Sl.L.nil ?_
            refine Gs.then_n ?_
            first | exact Gs.again1 (j + 1, (lookP y.xs p.k).isSome) ⟨by show j + 1 ≤ r.length + 1; omega, hsb.symm⟩ (by show r.length + 1 - (j + 1) < r.length + 1 - j; omega) (by repeat constructor) (by repeat constructor) | exact Gs.again1 (j + 1, false) ⟨by show j + 1 ≤ r.length + 1; omega, hsb.symm⟩ (by show r.length + 1 - (j + 1) < r.length + 1 - j; omega) (by repeat constructor) (by repeat constructor)
        · skip
          have hge1 : j = r.length + 1 := by have := of_decide_eq_false hc2; rw [hcl] at this; omega
          rw [hge1, List.take_of_length_le (by rw [hcl]; exact Nat.le_refl _)] at hb
          refine Gs.exit ?_
          refine Gs.then_x ?_
          refine Gs.then_x ?_
          refine Gs.blk_hit ?_
          refine Gs.then_n ?_
          refine Gs.seq ?_
          refine Gs.reg ?_
          refine Go.Sl.L.pu rfl rfl trivial (pu_move rfl) ?_
          refine Go.Sl.L.nil ?_
          refine Gs.then_n ?_
          refine Gs.cond rfl (fun hc3 => ?_) (fun hc3 => ?_)
          · skip
            have hup := filt_t (g := PostV.k) (f := fun p => hasAll ((⟨some ⟨ab, ao, none⟩, lx, lc⟩ : SlV PostV) :: r) p.k) hp (hb.symm.trans hc3)
            rw [← hK] at hup
            refine Gs.reg ?_
            refine Go.Sl.L.pu rfl rfl trivial (pu_move rfl) ?_
            refine Go.Sl.L.pu rfl rfl trivial (pu_move rfl) ?_
            refine Go.Sl.L.pu rfl rfl trivial (pu_ia se_22 rfl rfl (by decide) (by rw [hcl]; omega)) ?_
            refine Go.Sl.L.rd rfl rfl trivial (rd_ld na_30 rfl (Rdc.el0 (i := 0) (x := ⟨some ⟨ab, ao, none⟩, lx, lc⟩) (xs := (⟨some ⟨ab, ao, none⟩, lx, lc⟩ : SlV PostV) :: r) (enc := slC) (sz := 1) (hS.1.h (by repeat constructor)) rfl rfl rfl)) ?_
            refine Go.Sl.L.pu rfl rfl trivial (pu_move rfl) ?_
            refine Go.Sl.L.pu rfl rfl trivial (pu_ia se_30 rfl rfl (by omega) (by dsimp only; omega)) ?_
            refine Go.Sl.L.pu rfl rfl trivial (pu_fa fa_37_0 rfl) ?_
            refine Go.Sl.L.rd rfl rfl trivial (rd_lda ag_34 rfl (Rdc.elp 2 (hl0.1.1.h (by repeat constructor)) hp rfl rfl) rfl) ?_
            refine Go.Sl.L.ac rfl rfl trivial (ac_lit encC_34 ([p.k]) et_25 ek_34 rfl (by repeat constructor) rfl rfl (by decide)) ?_
            rintro _ _ ⟨a54, rfl, rfl⟩
            refine Go.Sl.L.ac rfl rfl trivial (ac_append et_25 ek_34 rfl rfl (by repeat constructor) (SrcH.sl Try.underlying25 ek_34 (SlH.own (by repeat constructor))) (by first | omega | (simp; omega)) (by first | omega | (simp; omega))) ?_
            rintro _ _ ⟨a55, c55, rfl, rfl⟩
            refine Go.Sl.L.pu rfl rfl trivial (pu_assign rfl) ?_
            refine Go.Sl.L.nil ?_
            refine Gs.blk_n ?_
            refine Gs.then_n ?_
            refine Gs.reg ?_
            refine Go.Sl.L.pu rfl rfl trivial (pu_move rfl) ?_
            refine Go.Sl.L.pu rfl rfl trivial (by first | exact pu_addI rfl rfl rfl (by omega) (by omega) | exact pu_add rfl rfl) ?_
            refine Go.Sl.L.pu rfl rfl trivial (pu_assign rfl) ?_
            refine Go.Sl.L.nil ?_
            refine Gs.then_n ?_
            first | exact Gs.again1 (i + 1, (a55, c55), K ++ [p.k]) ⟨by show i + 1 ≤ lx.length; omega, hup.symm⟩ (by show lx.length - (i + 1) < lx.length - i; omega) (by repeat constructor) (by repeat constructor) | exact Gs.again1 (i + 1, (ka, kc), K) ⟨by show i + 1 ≤ lx.length; omega, hup.symm⟩ (by show lx.length - (i + 1) < lx.length - i; omega) (by repeat constructor) (by repeat constructor)
          · skip
            have hup := filt_f (g := PostV.k) (f := fun p => hasAll ((⟨some ⟨ab, ao, none⟩, lx, lc⟩ : SlV PostV) :: r) p.k) hp (hb.symm.trans hc3)
            rw [← hK] at hup
            refine Gs.skip ?_
            refine Gs.blk_n ?_
            refine Gs.then_n ?_
            refine Gs.reg ?_
            refine Go.Sl.L.pu rfl rfl trivial (pu_move rfl) ?_
            refine Go.Sl.L.pu rfl rfl trivial (by first | exact pu_addI rfl rfl rfl (by omega) (by omega) | exact pu_add rfl rfl) ?_
            refine Go.Sl.L.pu rfl rfl trivial (pu_assign rfl) ?_
            refine Go.Sl.L.nil ?_
            refine Gs.then_n ?_
            first | exact Gs.again1 (i + 1, (a55, c55), K ++ [p.k]) ⟨by show i + 1 ≤ lx.length; omega, hup.symm⟩ (by show lx.length - (i + 1) < lx.length - i; omega) (by repeat constructor) (by repeat constructor) | exact Gs.again1 (i + 1, (ka, kc), K) ⟨by show i + 1 ≤ lx.length; omega, hup.symm⟩ (by show lx.length - (i + 1) < lx.length - i; omega) (by repeat constructor) (by repeat constructor)
      · skip
        have hge : i = lx.length := by have h := of_decide_eq_false hc1; dsimp only at h; omega
        have hfin : K = andV ((⟨la, lx, lc⟩ : SlV PostV) :: r) := by rw [hK, hge, List.take_length]; exact (if_pos hmay).symm
        refine Gs.exit ?_
        refine Gs.then_x ?_
        refine Gs.then_x ?_
        refine Gs.blk_hit ?_
        refine Gs.then_n ?_
        refine Gs.seq ?_
        rw [hfin]
        refine Gs.reg ?_
        refine Go.Sl.L.pu rfl rfl trivial (pu_move rfl) ?_
        refine Go.Sl.L.pu rfl rfl trivial (pu_assign rfl) ?_
        refine Go.Sl.L.nil ?_
        refine Gs.then_n ?_
        refine Gs.ret ?_
        exact Gs.fin1 Try.results14 rfl _ (⟨ka, kc, rfl, rfl⟩) (by repeat constructor)
theorem at_le (ks : List Key) (k : Key) : at_ ks k ≤ ks.length := List.findIdx_le_length
theorem at_step {ks : List Key} {k x : Key} {i : Nat} (hi : i ≤ at_ ks k) (hx : ks[i]? = some x) : if before x k then i + 1 ≤ at_ ks k else i = at_ ks k := by
  obtain ⟨hl, rfl⟩ := List.getElem?_eq_some_iff.1 hx
  split
  · rename_i hb
    rcases Nat.lt_or_eq_of_le hi with h | h
    · exact h
    · have h2 : at_ ks k < ks.length := by omega
      have := List.findIdx_getElem (p := fun x => !before x k) (xs := ks) (w := h2)
      have e : ks[List.findIdx (fun x => !before x k) ks] = ks[i] := by congr 1; exact h.symm
      rw [e, hb] at this; cases this
  · rename_i hb
    rcases Nat.lt_or_eq_of_le hi with h | h
    · have := List.not_of_lt_findIdx (p := fun x => !before x k) (xs := ks) h
      simp at this; exact (hb this).elim
    · exact h
theorem into_spec (a : Option Addr) (c : Nat) (ks : List Key) (hl : ks.length ≤ 100000) (k : Key) :
    Ct Try.prog 40 [.slice a ks.length c, keyV k] [sl 34 2 keyC a c ks] (fun v hs => ∃ a' c', v = .slice a' (intoL ks k).length c' ∧ hs = [sl 34 2 keyC a' c' (intoL ks k)]) := by
  have hle := at_le ks k
  refine Ct.intro Try.func40 rfl (by kernel_rfl) 44 Try.ntmps40 (Nat.le_of_ble_eq_true rfl) fun w0 R => ?_
  refine Gs.slAddr (SlH.own (by repeat constructor) : SlH _ _ 2 keyC a ks) fun ab ao ha => ?_
  refine Gs.slLen (E := 34) (sz := 2) (enc := keyC) (a := a) (c := c) (xs := ks) (by repeat constructor) fun hlc => ?_
  refine Gs.seq ?_
  refine Gs.reg ?_
  refine Go.Sl.L.ac rfl rfl trivial (ac_box rfl rfl) ?_
  rintro _ _ ⟨b3, rfl, rfl⟩
  refine Go.Sl.L.pu rfl rfl trivial (pu_assign rfl) ?_
  refine Go.Sl.L.nil ?_
  refine Gs.then_n ?_
  refine Gs.seq ?_
  refine Gs.reg ?_
  refine Go.Sl.L.pu rfl rfl trivial (pu_assign rfl) ?_
  refine Go.Sl.L.nil ?_
  refine Gs.then_n ?_
  refine Gs.seq ?_
  refine Gs.block ?_
  refine Gs.loop1 (fun i : Nat => i ≤ at_ ks k) (fun i => [(0, .slice a ks.length c), (3, ptr b3), (5, int i)]) (fun i => [cl b3 34 (keyC k), sl 34 2 keyC a c ks] ++ R) (fun i => ks.length - i) 0 (Nat.zero_le _) (by repeat constructor) (by repeat constructor) (fun i hi => ?_)
  refine Gs.seq ?_
  refine Gs.seq ?_
  refine Gs.regD mixed (by kernel_rfl) ?_
  refine Rg.pu 0 rfl rfl (by kernel_rfl) trivial (pu_move rfl) ?_
  refine Rg.pu 1 rfl rfl (by kernel_rfl) trivial (pu_move rfl) ?_
  refine Rg.pu 2 rfl rfl (by kernel_rfl) trivial (pu_len Try.underlying25 rfl) ?_
  refine Rg.pu 3 rfl rfl (by kernel_rfl) trivial (pu_lt rfl rfl) ?_
  refine Rg.puB 4 rfl rfl (by kernel_rfl) trivial (pu_move rfl) (fun hg4 => ?_) (fun hg4 => ?_)
  · skip
    have hlt : i < ks.length := by have := of_decide_eq_true hg4; omega
    obtain ⟨x, hx⟩ : ∃ x, ks[i]? = some x := ⟨ks[i], by simp [hlt]⟩
    have hst := at_step hi hx
    obtain rfl := ha (by rintro rfl; simp at hlt)
    refine Rg.pu 5 rfl rfl (by kernel_rfl) ⟨_, rfl, rfl⟩ (pu_move rfl) ?_
    refine Rg.pu 6 rfl rfl (by kernel_rfl) ⟨_, rfl, rfl⟩ (pu_move rfl) ?_
    refine Rg.pu 7 rfl rfl (by kernel_rfl) ⟨_, rfl, rfl⟩ (pu_ia se_25 rfl rfl (by omega) (by omega)) ?_
    refine Rg.rd 8 rfl rfl (by kernel_rfl) ⟨_, rfl, rfl⟩ (rd_lda ag_34 rfl (Rdc.el0 (SlH.own (by repeat constructor)) hx rfl rfl) rfl) ?_
    refine Rg.rd 9 rfl rfl (by kernel_rfl) ⟨_, rfl, rfl⟩ (rd_lda ag_34 rfl (Rdc.cl 2 (by repeat constructor) rfl) rfl) ?_
    refine Rg.one (by kernel_rfl) (Stp.ac 10 rfl rfl (by kernel_rfl) ⟨_, rfl, rfl⟩ (as_call (before4_spec x k) (by repeat constructor) (by repeat constructor))  ?_)
    rintro _ _ ⟨_, ⟨rfl, rfl⟩, rfl⟩
    refine Rg.pu 11 rfl rfl (by kernel_rfl) trivial (by first | exact pu_pick_t rfl rfl | exact pu_pick_f rfl rfl) ?_
    refine Rg.end (by kernel_rfl) ?_
    refine Gs.then_n ?_
    refine Gs.cond rfl (fun hc0 => ?_) (fun hc0 => ?_)
    · skip
      rw [if_pos hc0] at hst
      refine Gs.skip ?_
      refine Gs.then_n ?_
      refine Gs.block ?_
      refine Gs.reg ?_
      refine Go.Sl.L.pu rfl rfl trivial (pu_move rfl) ?_
      refine Go.Sl.L.pu rfl rfl trivial (by first | exact pu_addI rfl rfl rfl (by omega) (by omega) | exact pu_add rfl rfl) ?_
      refine Go.Sl.L.pu rfl rfl trivial (pu_assign rfl) ?_
      refine Go.Sl.L.nil ?_
      refine Gs.blk_n ?_
      refine Gs.then_n ?_
      exact Gs.again1 (i + 1) (by omega) (by omega) (by repeat constructor) (by repeat constructor)
    · skip
      rw [if_neg (by rw [hc0]; decide)] at hst
      have he := hst
      refine Gs.exit ?_
      refine Gs.then_x ?_
      refine Gs.then_x ?_
      refine Gs.blk_hit ?_
      refine Gs.then_n ?_
      refine Gs.seq ?_
      refine Gs.seq ?_
      refine Gs.regD mixed (by kernel_rfl) ?_
      refine Rg.pu 0 rfl rfl (by kernel_rfl) trivial (pu_move rfl) ?_
      refine Rg.pu 1 rfl rfl (by kernel_rfl) trivial (pu_move rfl) ?_
      refine Rg.pu 2 rfl rfl (by kernel_rfl) trivial (pu_len Try.underlying25 rfl) ?_
      refine Rg.pu 3 rfl rfl (by kernel_rfl) trivial (pu_lt rfl rfl) ?_
      refine Rg.puB 4 rfl rfl (by kernel_rfl) trivial (pu_move rfl) (fun hg4 => ?_) (fun hg4 => ?_)
      · skip
        have hlt2 : i < ks.length := by have := of_decide_eq_true hg4; omega
        obtain ⟨x2, hx2⟩ : ∃ x, ks[i]? = some x := ⟨ks[i], by simp [hlt2]⟩
        try obtain rfl := ha (by rintro rfl; simp at hlt2)
        refine Rg.pu 5 rfl rfl (by kernel_rfl) ⟨_, rfl, rfl⟩ (pu_move rfl) ?_
        refine Rg.pu 6 rfl rfl (by kernel_rfl) ⟨_, rfl, rfl⟩ (pu_move rfl) ?_
        refine Rg.pu 7 rfl rfl (by kernel_rfl) ⟨_, rfl, rfl⟩ (pu_ia se_25 rfl rfl (by omega) (by omega)) ?_
        refine Rg.rd 8 rfl rfl (by kernel_rfl) ⟨_, rfl, rfl⟩ (rd_lda ag_34 rfl (Rdc.el0 (SlH.own (by repeat constructor)) hx2 rfl rfl) rfl) ?_
        refine Rg.rd 9 rfl rfl (by kernel_rfl) ⟨_, rfl, rfl⟩ (rd_lda ag_34 rfl (Rdc.cl 2 (by repeat constructor) rfl) rfl) ?_
        refine Rg.pu 10 rfl rfl (by kernel_rfl) ⟨_, rfl, rfl⟩ (pu_eqT (a := x2) (b := k) cmp_34 (by decide) Try.eqGuardType34 rfl rfl) ?_
        refine Rg.pu 11 rfl rfl (by kernel_rfl) trivial (by first | exact pu_pick_t rfl rfl | exact pu_pick_f rfl rfl) ?_
        refine Rg.end (by kernel_rfl) ?_
        refine Gs.then_n ?_
        refine Gs.cond rfl (fun hc1 => ?_) (fun hc1 => ?_)
        · skip
          have hin : intoL ks k = ks := by
            have h1 : x2 = k := of_decide_eq_true hc1
            unfold intoL; rw [if_pos (by rw [← he, hx2, h1])]
          refine Gs.seq ?_
          refine Gs.reg ?_
          refine Go.Sl.L.pu rfl rfl trivial (pu_move rfl) ?_
          refine Go.Sl.L.pu rfl rfl trivial (pu_assign rfl) ?_
          refine Go.Sl.L.nil ?_
          refine Gs.then_n ?_
          refine Gs.ret ?_
          refine Gs.then_r ?_
          exact Gs.fin1 Try.results40 rfl _ (⟨_, _, by rw [hin], by rw [hin]⟩) (by repeat constructor)
        · skip
          have hne : ¬ ks[at_ ks k]? = some k := fun e => by
            have h1 : x2 ≠ k := of_decide_eq_false hc1
            rw [← he, hx2] at e; exact h1 (Option.some.inj e)
          refine Gs.skip ?_
          refine Gs.then_n ?_
          refine Gs.seq ?_
          have hin : ks.take i ++ [k] ++ ks.drop i = intoL ks k := by unfold intoL; rw [if_neg hne, he]
          refine Gs.regD mixed (by kernel_rfl) ?_
          refine Rg.pu 0 rfl rfl (by kernel_rfl) trivial (pu_move rfl) ?_
          refine Rg.pu 1 rfl rfl (by kernel_rfl) trivial (pu_move rfl) ?_
          refine Rg.pu 2 rfl rfl (by kernel_rfl) trivial (pu_sliceH et_25 rfl rfl (by omega) (by omega)) ?_
          refine Rg.rd 4 rfl rfl (by kernel_rfl) trivial (rd_lda ag_34 rfl (Rdc.cl 2 (by repeat constructor) rfl) rfl) ?_
          refine Rg.pu 7 rfl rfl (by kernel_rfl) trivial (pu_move rfl) ?_
          refine Rg.pu 8 rfl rfl (by kernel_rfl) trivial (pu_move rfl) ?_
          refine Rg.pu 9 rfl rfl (by kernel_rfl) trivial (pu_sliceL et_25 rfl rfl (by omega) (by omega)) ?_
          refine Rg.two (by kernel_rfl) (Stp.acK 3 rfl rfl (by kernel_rfl) trivial (ac_copy et_25 ek_34 rfl rfl (SrcH.sl' (ys := ks.take i) Try.underlying25 ek_34 (by simp <;> omega) (SlH.cutH (SlH.own (by repeat constructor)) _ _ hlc)) (by first | omega | (simp; omega)) (by first | omega | (simp; omega))) (by rintro _ _ ⟨a36, c36, rfl, rfl⟩ w s; first | exact s.drop | exact s | exact Ent.sat (by repeat constructor) s) ?_) (Stp.ac 5 rfl rfl (by kernel_rfl) trivial (ac_lit encC_34 ([k]) et_25 ek_34 rfl (by repeat constructor) rfl rfl (by decide))  ?_)
          · skip
            rintro _ _ ⟨a36, c36, rfl, rfl⟩
            refine Rg.one (by kernel_rfl) (Stp.ac 5 rfl rfl (by kernel_rfl) trivial (ac_lit encC_34 ([k]) et_25 ek_34 rfl (by repeat constructor) rfl rfl (by decide))  ?_)
            rintro _ _ ⟨a38, rfl, rfl⟩
            refine Rg.one (by kernel_rfl) (Stp.ac 6 rfl rfl (by kernel_rfl) trivial (ac_append et_25 ek_34 rfl rfl (by repeat constructor) (SrcH.sl Try.underlying25 ek_34 (SlH.own (by repeat constructor))) (by first | omega | (simp; omega)) (by first | omega | (simp; omega)))  ?_)
            rintro _ _ ⟨a39, c39, rfl, rfl⟩
            refine Rg.one (by kernel_rfl) (Stp.ac 10 rfl rfl (by kernel_rfl) trivial (ac_append et_25 ek_34 rfl rfl (by repeat constructor) (SrcH.sl' (ys := ks.drop i) Try.underlying25 ek_34 (by simp <;> omega) (SlH.cutL (SlH.own (by repeat constructor)) _ _ hlc)) (by first | omega | (simp; omega)) (by first | omega | (simp; omega)))  ?_)
            rintro _ _ ⟨a43, c43, rfl, rfl⟩
            rw [hin]
            refine Rg.pu 11 rfl rfl (by kernel_rfl) trivial (pu_assign rfl) ?_
            refine Rg.end (by kernel_rfl) ?_
            refine Gs.then_n ?_
            refine Gs.ret ?_
            exact Gs.fin1 Try.results40 rfl _ (⟨_, _, rfl, rfl⟩) (by repeat constructor)
          · skip
            rintro _ _ ⟨a38, rfl, rfl⟩
            refine Rg.one (by kernel_rfl) (Stp.ac 3 rfl rfl (by kernel_rfl) trivial (ac_copy et_25 ek_34 rfl rfl (SrcH.sl' (ys := ks.take i) Try.underlying25 ek_34 (by simp <;> omega) (SlH.cutH (SlH.own (by repeat constructor)) _ _ hlc)) (by first | omega | (simp; omega)) (by first | omega | (simp; omega)))  ?_)
            rintro _ _ ⟨a36, c36, rfl, rfl⟩
            refine Rg.one (by kernel_rfl) (Stp.ac 6 rfl rfl (by kernel_rfl) trivial (ac_append et_25 ek_34 rfl rfl (by repeat constructor) (SrcH.sl Try.underlying25 ek_34 (SlH.own (by repeat constructor))) (by first | omega | (simp; omega)) (by first | omega | (simp; omega)))  ?_)
            rintro _ _ ⟨a39, c39, rfl, rfl⟩
            refine Rg.one (by kernel_rfl) (Stp.ac 10 rfl rfl (by kernel_rfl) trivial (ac_append et_25 ek_34 rfl rfl (by repeat constructor) (SrcH.sl' (ys := ks.drop i) Try.underlying25 ek_34 (by simp <;> omega) (SlH.cutL (SlH.own (by repeat constructor)) _ _ hlc)) (by first | omega | (simp; omega)) (by first | omega | (simp; omega)))  ?_)
            rintro _ _ ⟨a43, c43, rfl, rfl⟩
            rw [hin]
            refine Rg.pu 11 rfl rfl (by kernel_rfl) trivial (pu_assign rfl) ?_
            refine Rg.end (by kernel_rfl) ?_
            refine Gs.then_n ?_
            refine Gs.ret ?_
            exact Gs.fin1 Try.results40 rfl _ (⟨_, _, rfl, rfl⟩) (by repeat constructor)
      · skip
        have hne : ¬ ks[at_ ks k]? = some k := fun e => by
          have h1 := of_decide_eq_false hg4
          have h2 := (List.getElem?_eq_some_iff.1 e).1
          omega
        refine Rg.off 5 rfl rfl (by kernel_rfl) rfl rfl rfl rfl ?_
        refine Rg.off 6 rfl rfl (by kernel_rfl) rfl rfl rfl rfl ?_
        refine Rg.off 7 rfl rfl (by kernel_rfl) rfl rfl rfl rfl ?_
        refine Rg.off 8 rfl rfl (by kernel_rfl) rfl rfl rfl rfl ?_
        refine Rg.off 9 rfl rfl (by kernel_rfl) rfl rfl rfl rfl ?_
        refine Rg.off 10 rfl rfl (by kernel_rfl) rfl rfl rfl rfl ?_
        refine Rg.pu 11 rfl rfl (by kernel_rfl) trivial (by first | exact pu_pick_t rfl rfl | exact pu_pick_f rfl rfl) ?_
        refine Rg.end (by kernel_rfl) ?_
        refine Gs.then_n ?_
        refine Gs.cond_f rfl ?_
        refine Gs.skip ?_
        refine Gs.then_n ?_
        refine Gs.seq ?_
        have hin : ks.take i ++ [k] ++ ks.drop i = intoL ks k := by unfold intoL; rw [if_neg hne, he]
        refine Gs.regD mixed (by kernel_rfl) ?_
        refine Rg.pu 0 rfl rfl (by kernel_rfl) trivial (pu_move rfl) ?_
        refine Rg.pu 1 rfl rfl (by kernel_rfl) trivial (pu_move rfl) ?_
        refine Rg.pu 2 rfl rfl (by kernel_rfl) trivial (pu_sliceH et_25 rfl rfl (by omega) (by omega)) ?_
        refine Rg.rd 4 rfl rfl (by kernel_rfl) trivial (rd_lda ag_34 rfl (Rdc.cl 2 (by repeat constructor) rfl) rfl) ?_
        refine Rg.pu 7 rfl rfl (by kernel_rfl) trivial (pu_move rfl) ?_
        refine Rg.pu 8 rfl rfl (by kernel_rfl) trivial (pu_move rfl) ?_
        refine Rg.pu 9 rfl rfl (by kernel_rfl) trivial (pu_sliceL et_25 rfl rfl (by omega) (by omega)) ?_
        refine Rg.two (by kernel_rfl) (Stp.acK 3 rfl rfl (by kernel_rfl) trivial (ac_copy et_25 ek_34 rfl rfl (SrcH.sl' (ys := ks.take i) Try.underlying25 ek_34 (by simp <;> omega) (SlH.cutH (SlH.own (by repeat constructor)) _ _ hlc)) (by first | omega | (simp; omega)) (by first | omega | (simp; omega))) (by rintro _ _ ⟨a36, c36, rfl, rfl⟩ w s; first | exact s.drop | exact s | exact Ent.sat (by repeat constructor) s) ?_) (Stp.ac 5 rfl rfl (by kernel_rfl) trivial (ac_lit encC_34 ([k]) et_25 ek_34 rfl (by repeat constructor) rfl rfl (by decide))  ?_)
        · skip
          rintro _ _ ⟨a36, c36, rfl, rfl⟩
          refine Rg.one (by kernel_rfl) (Stp.ac 5 rfl rfl (by kernel_rfl) trivial (ac_lit encC_34 ([k]) et_25 ek_34 rfl (by repeat constructor) rfl rfl (by decide))  ?_)
          rintro _ _ ⟨a38, rfl, rfl⟩
          refine Rg.one (by kernel_rfl) (Stp.ac 6 rfl rfl (by kernel_rfl) trivial (ac_append et_25 ek_34 rfl rfl (by repeat constructor) (SrcH.sl Try.underlying25 ek_34 (SlH.own (by repeat constructor))) (by first | omega | (simp; omega)) (by first | omega | (simp; omega)))  ?_)
          rintro _ _ ⟨a39, c39, rfl, rfl⟩
          refine Rg.one (by kernel_rfl) (Stp.ac 10 rfl rfl (by kernel_rfl) trivial (ac_append et_25 ek_34 rfl rfl (by repeat constructor) (SrcH.sl' (ys := ks.drop i) Try.underlying25 ek_34 (by simp <;> omega) (SlH.cutL (SlH.own (by repeat constructor)) _ _ hlc)) (by first | omega | (simp; omega)) (by first | omega | (simp; omega)))  ?_)
          rintro _ _ ⟨a43, c43, rfl, rfl⟩
          rw [hin]
          refine Rg.pu 11 rfl rfl (by kernel_rfl) trivial (pu_assign rfl) ?_
          refine Rg.end (by kernel_rfl) ?_
          refine Gs.then_n ?_
          refine Gs.ret ?_
          exact Gs.fin1 Try.results40 rfl _ (⟨_, _, rfl, rfl⟩) (by repeat constructor)
        · skip
          rintro _ _ ⟨a38, rfl, rfl⟩
          refine Rg.one (by kernel_rfl) (Stp.ac 3 rfl rfl (by kernel_rfl) trivial (ac_copy et_25 ek_34 rfl rfl (SrcH.sl' (ys := ks.take i) Try.underlying25 ek_34 (by simp <;> omega) (SlH.cutH (SlH.own (by repeat constructor)) _ _ hlc)) (by first | omega | (simp; omega)) (by first | omega | (simp; omega)))  ?_)
          rintro _ _ ⟨a36, c36, rfl, rfl⟩
          refine Rg.one (by kernel_rfl) (Stp.ac 6 rfl rfl (by kernel_rfl) trivial (ac_append et_25 ek_34 rfl rfl (by repeat constructor) (SrcH.sl Try.underlying25 ek_34 (SlH.own (by repeat constructor))) (by first | omega | (simp; omega)) (by first | omega | (simp; omega)))  ?_)
          rintro _ _ ⟨a39, c39, rfl, rfl⟩
          refine Rg.one (by kernel_rfl) (Stp.ac 10 rfl rfl (by kernel_rfl) trivial (ac_append et_25 ek_34 rfl rfl (by repeat constructor) (SrcH.sl' (ys := ks.drop i) Try.underlying25 ek_34 (by simp <;> omega) (SlH.cutL (SlH.own (by repeat constructor)) _ _ hlc)) (by first | omega | (simp; omega)) (by first | omega | (simp; omega)))  ?_)
          rintro _ _ ⟨a43, c43, rfl, rfl⟩
          rw [hin]
          refine Rg.pu 11 rfl rfl (by kernel_rfl) trivial (pu_assign rfl) ?_
          refine Rg.end (by kernel_rfl) ?_
          refine Gs.then_n ?_
          refine Gs.ret ?_
          exact Gs.fin1 Try.results40 rfl _ (⟨_, _, rfl, rfl⟩) (by repeat constructor)
  · skip
    have he : i = at_ ks k := by have := of_decide_eq_false hg4; omega
    refine Rg.off 5 rfl rfl (by kernel_rfl) rfl rfl rfl rfl ?_
    refine Rg.off 6 rfl rfl (by kernel_rfl) rfl rfl rfl rfl ?_
    refine Rg.off 7 rfl rfl (by kernel_rfl) rfl rfl rfl rfl ?_
    refine Rg.off 8 rfl rfl (by kernel_rfl) rfl rfl rfl rfl ?_
    refine Rg.off 9 rfl rfl (by kernel_rfl) rfl rfl rfl rfl ?_
    refine Rg.off 10 rfl rfl (by kernel_rfl) rfl rfl rfl rfl ?_
    refine Rg.pu 11 rfl rfl (by kernel_rfl) trivial (by first | exact pu_pick_t rfl rfl | exact pu_pick_f rfl rfl) ?_
    refine Rg.end (by kernel_rfl) ?_
    refine Gs.then_n ?_
    refine Gs.cond_f rfl ?_
    refine Gs.exit ?_
    refine Gs.then_x ?_
    refine Gs.then_x ?_
    refine Gs.blk_hit ?_
    refine Gs.then_n ?_
    refine Gs.seq ?_
    refine Gs.seq ?_
    refine Gs.regD mixed (by kernel_rfl) ?_
    refine Rg.pu 0 rfl rfl (by kernel_rfl) trivial (pu_move rfl) ?_
    refine Rg.pu 1 rfl rfl (by kernel_rfl) trivial (pu_move rfl) ?_
    refine Rg.pu 2 rfl rfl (by kernel_rfl) trivial (pu_len Try.underlying25 rfl) ?_
    refine Rg.pu 3 rfl rfl (by kernel_rfl) trivial (pu_lt rfl rfl) ?_
    refine Rg.puB 4 rfl rfl (by kernel_rfl) trivial (pu_move rfl) (fun hg4 => ?_) (fun hg4 => ?_)
    · skip
      have hlt2 : i < ks.length := by have := of_decide_eq_true hg4; omega
      obtain ⟨x2, hx2⟩ : ∃ x, ks[i]? = some x := ⟨ks[i], by simp [hlt2]⟩
      try obtain rfl := ha (by rintro rfl; simp at hlt2)
      refine Rg.pu 5 rfl rfl (by kernel_rfl) ⟨_, rfl, rfl⟩ (pu_move rfl) ?_
      refine Rg.pu 6 rfl rfl (by kernel_rfl) ⟨_, rfl, rfl⟩ (pu_move rfl) ?_
      refine Rg.pu 7 rfl rfl (by kernel_rfl) ⟨_, rfl, rfl⟩ (pu_ia se_25 rfl rfl (by omega) (by omega)) ?_
      refine Rg.rd 8 rfl rfl (by kernel_rfl) ⟨_, rfl, rfl⟩ (rd_lda ag_34 rfl (Rdc.el0 (SlH.own (by repeat constructor)) hx2 rfl rfl) rfl) ?_
      refine Rg.rd 9 rfl rfl (by kernel_rfl) ⟨_, rfl, rfl⟩ (rd_lda ag_34 rfl (Rdc.cl 2 (by repeat constructor) rfl) rfl) ?_
      refine Rg.pu 10 rfl rfl (by kernel_rfl) ⟨_, rfl, rfl⟩ (pu_eqT (a := x2) (b := k) cmp_34 (by decide) Try.eqGuardType34 rfl rfl) ?_
      refine Rg.pu 11 rfl rfl (by kernel_rfl) trivial (by first | exact pu_pick_t rfl rfl | exact pu_pick_f rfl rfl) ?_
      refine Rg.end (by kernel_rfl) ?_
      refine Gs.then_n ?_
      refine Gs.cond rfl (fun hc1 => ?_) (fun hc1 => ?_)
      · skip
        have hin : intoL ks k = ks := by
          have h1 : x2 = k := of_decide_eq_true hc1
          unfold intoL; rw [if_pos (by rw [← he, hx2, h1])]
        refine Gs.seq ?_
        refine Gs.reg ?_
        refine Go.Sl.L.pu rfl rfl trivial (pu_move rfl) ?_
        refine Go.Sl.L.pu rfl rfl trivial (pu_assign rfl) ?_
        refine Go.Sl.L.nil ?_
        refine Gs.then_n ?_
        refine Gs.ret ?_
        refine Gs.then_r ?_
        exact Gs.fin1 Try.results40 rfl _ (⟨_, _, by rw [hin], by rw [hin]⟩) (by repeat constructor)
      · skip
        have hne : ¬ ks[at_ ks k]? = some k := fun e => by
          have h1 : x2 ≠ k := of_decide_eq_false hc1
          rw [← he, hx2] at e; exact h1 (Option.some.inj e)
        refine Gs.skip ?_
        refine Gs.then_n ?_
        refine Gs.seq ?_
        have hin : ks.take i ++ [k] ++ ks.drop i = intoL ks k := by unfold intoL; rw [if_neg hne, he]
        refine Gs.regD mixed (by kernel_rfl) ?_
        refine Rg.pu 0 rfl rfl (by kernel_rfl) trivial (pu_move rfl) ?_
        refine Rg.pu 1 rfl rfl (by kernel_rfl) trivial (pu_move rfl) ?_
        refine Rg.pu 2 rfl rfl (by kernel_rfl) trivial (pu_sliceH et_25 rfl rfl (by omega) (by omega)) ?_
        refine Rg.rd 4 rfl rfl (by kernel_rfl) trivial (rd_lda ag_34 rfl (Rdc.cl 2 (by repeat constructor) rfl) rfl) ?_
        refine Rg.pu 7 rfl rfl (by kernel_rfl) trivial (pu_move rfl) ?_
        refine Rg.pu 8 rfl rfl (by kernel_rfl) trivial (pu_move rfl) ?_
        refine Rg.pu 9 rfl rfl (by kernel_rfl) trivial (pu_sliceL et_25 rfl rfl (by omega) (by omega)) ?_
        refine Rg.two (by kernel_rfl) (Stp.acK 3 rfl rfl (by kernel_rfl) trivial (ac_copy et_25 ek_34 rfl rfl (SrcH.sl' (ys := ks.take i) Try.underlying25 ek_34 (by simp <;> omega) (SlH.cutH (SlH.own (by repeat constructor)) _ _ hlc)) (by first | omega | (simp; omega)) (by first | omega | (simp; omega))) (by rintro _ _ ⟨a36, c36, rfl, rfl⟩ w s; first | exact s.drop | exact s | exact Ent.sat (by repeat constructor) s) ?_) (Stp.ac 5 rfl rfl (by kernel_rfl) trivial (ac_lit encC_34 ([k]) et_25 ek_34 rfl (by repeat constructor) rfl rfl (by decide))  ?_)
        · skip
          rintro _ _ ⟨a36, c36, rfl, rfl⟩
          refine Rg.one (by kernel_rfl) (Stp.ac 5 rfl rfl (by kernel_rfl) trivial (ac_lit encC_34 ([k]) et_25 ek_34 rfl (by repeat constructor) rfl rfl (by decide))  ?_)
          rintro _ _ ⟨a38, rfl, rfl⟩
          refine Rg.one (by kernel_rfl) (Stp.ac 6 rfl rfl (by kernel_rfl) trivial (ac_append et_25 ek_34 rfl rfl (by repeat constructor) (SrcH.sl Try.underlying25 ek_34 (SlH.own (by repeat constructor))) (by first | omega | (simp; omega)) (by first | omega | (simp; omega)))  ?_)
          rintro _ _ ⟨a39, c39, rfl, rfl⟩
          refine Rg.one (by kernel_rfl) (Stp.ac 10 rfl rfl (by kernel_rfl) trivial (ac_append et_25 ek_34 rfl rfl (by repeat constructor) (SrcH.sl' (ys := ks.drop i) Try.underlying25 ek_34 (by simp <;> omega) (SlH.cutL (SlH.own (by repeat constructor)) _ _ hlc)) (by first | omega | (simp; omega)) (by first | omega | (simp; omega)))  ?_)
          rintro _ _ ⟨a43, c43, rfl, rfl⟩
          rw [hin]
          refine Rg.pu 11 rfl rfl (by kernel_rfl) trivial (pu_assign rfl) ?_
          refine Rg.end (by kernel_rfl) ?_
          refine Gs.then_n ?_
          refine Gs.ret ?_
          exact Gs.fin1 Try.results40 rfl _ (⟨_, _, rfl, rfl⟩) (by repeat constructor)
        · skip
          rintro _ _ ⟨a38, rfl, rfl⟩
          refine Rg.one (by kernel_rfl) (Stp.ac 3 rfl rfl (by kernel_rfl) trivial (ac_copy et_25 ek_34 rfl rfl (SrcH.sl' (ys := ks.take i) Try.underlying25 ek_34 (by simp <;> omega) (SlH.cutH (SlH.own (by repeat constructor)) _ _ hlc)) (by first | omega | (simp; omega)) (by first | omega | (simp; omega)))  ?_)
          rintro _ _ ⟨a36, c36, rfl, rfl⟩
          refine Rg.one (by kernel_rfl) (Stp.ac 6 rfl rfl (by kernel_rfl) trivial (ac_append et_25 ek_34 rfl rfl (by repeat constructor) (SrcH.sl Try.underlying25 ek_34 (SlH.own (by repeat constructor))) (by first | omega | (simp; omega)) (by first | omega | (simp; omega)))  ?_)
          rintro _ _ ⟨a39, c39, rfl, rfl⟩
          refine Rg.one (by kernel_rfl) (Stp.ac 10 rfl rfl (by kernel_rfl) trivial (ac_append et_25 ek_34 rfl rfl (by repeat constructor) (SrcH.sl' (ys := ks.drop i) Try.underlying25 ek_34 (by simp <;> omega) (SlH.cutL (SlH.own (by repeat constructor)) _ _ hlc)) (by first | omega | (simp; omega)) (by first | omega | (simp; omega)))  ?_)
          rintro _ _ ⟨a43, c43, rfl, rfl⟩
          rw [hin]
          refine Rg.pu 11 rfl rfl (by kernel_rfl) trivial (pu_assign rfl) ?_
          refine Rg.end (by kernel_rfl) ?_
          refine Gs.then_n ?_
          refine Gs.ret ?_
          exact Gs.fin1 Try.results40 rfl _ (⟨_, _, rfl, rfl⟩) (by repeat constructor)
    · skip
      have hne : ¬ ks[at_ ks k]? = some k := fun e => by
        have h1 := of_decide_eq_false hg4
        have h2 := (List.getElem?_eq_some_iff.1 e).1
        omega
      refine Rg.off 5 rfl rfl (by kernel_rfl) rfl rfl rfl rfl ?_
      refine Rg.off 6 rfl rfl (by kernel_rfl) rfl rfl rfl rfl ?_
      refine Rg.off 7 rfl rfl (by kernel_rfl) rfl rfl rfl rfl ?_
      refine Rg.off 8 rfl rfl (by kernel_rfl) rfl rfl rfl rfl ?_
      refine Rg.off 9 rfl rfl (by kernel_rfl) rfl rfl rfl rfl ?_
      refine Rg.off 10 rfl rfl (by kernel_rfl) rfl rfl rfl rfl ?_
      refine Rg.pu 11 rfl rfl (by kernel_rfl) trivial (by first | exact pu_pick_t rfl rfl | exact pu_pick_f rfl rfl) ?_
      refine Rg.end (by kernel_rfl) ?_
      refine Gs.then_n ?_
      refine Gs.cond_f rfl ?_
      refine Gs.skip ?_
      refine Gs.then_n ?_
      refine Gs.seq ?_
      have hin : ks.take i ++ [k] ++ ks.drop i = intoL ks k := by unfold intoL; rw [if_neg hne, he]
      refine Gs.regD mixed (by kernel_rfl) ?_
      refine Rg.pu 0 rfl rfl (by kernel_rfl) trivial (pu_move rfl) ?_
      refine Rg.pu 1 rfl rfl (by kernel_rfl) trivial (pu_move rfl) ?_
      refine Rg.pu 2 rfl rfl (by kernel_rfl) trivial (pu_sliceH et_25 rfl rfl (by omega) (by omega)) ?_
      refine Rg.rd 4 rfl rfl (by kernel_rfl) trivial (rd_lda ag_34 rfl (Rdc.cl 2 (by repeat constructor) rfl) rfl) ?_
      refine Rg.pu 7 rfl rfl (by kernel_rfl) trivial (pu_move rfl) ?_
      refine Rg.pu 8 rfl rfl (by kernel_rfl) trivial (pu_move rfl) ?_
      refine Rg.pu 9 rfl rfl (by kernel_rfl) trivial (pu_sliceL et_25 rfl rfl (by omega) (by omega)) ?_
      refine Rg.two (by kernel_rfl) (Stp.acK 3 rfl rfl (by kernel_rfl) trivial (ac_copy et_25 ek_34 rfl rfl (SrcH.sl' (ys := ks.take i) Try.underlying25 ek_34 (by simp <;> omega) (SlH.cutH (SlH.own (by repeat constructor)) _ _ hlc)) (by first | omega | (simp; omega)) (by first | omega | (simp; omega))) (by rintro _ _ ⟨a36, c36, rfl, rfl⟩ w s; first | exact s.drop | exact s | exact Ent.sat (by repeat constructor) s) ?_) (Stp.ac 5 rfl rfl (by kernel_rfl) trivial (ac_lit encC_34 ([k]) et_25 ek_34 rfl (by repeat constructor) rfl rfl (by decide))  ?_)
      · skip
        rintro _ _ ⟨a36, c36, rfl, rfl⟩
        refine Rg.one (by kernel_rfl) (Stp.ac 5 rfl rfl (by kernel_rfl) trivial (ac_lit encC_34 ([k]) et_25 ek_34 rfl (by repeat constructor) rfl rfl (by decide))  ?_)
        rintro _ _ ⟨a38, rfl, rfl⟩
        refine Rg.one (by kernel_rfl) (Stp.ac 6 rfl rfl (by kernel_rfl) trivial (ac_append et_25 ek_34 rfl rfl (by repeat constructor) (SrcH.sl Try.underlying25 ek_34 (SlH.own (by repeat constructor))) (by first | omega | (simp; omega)) (by first | omega | (simp; omega)))  ?_)
        rintro _ _ ⟨a39, c39, rfl, rfl⟩
        refine Rg.one (by kernel_rfl) (Stp.ac 10 rfl rfl (by kernel_rfl) trivial (ac_append et_25 ek_34 rfl rfl (by repeat constructor) (SrcH.sl' (ys := ks.drop i) Try.underlying25 ek_34 (by simp <;> omega) (SlH.cutL (SlH.own (by repeat constructor)) _ _ hlc)) (by first | omega | (simp; omega)) (by first | omega | (simp; omega)))  ?_)
        rintro _ _ ⟨a43, c43, rfl, rfl⟩
        rw [hin]
        refine Rg.pu 11 rfl rfl (by kernel_rfl) trivial (pu_assign rfl) ?_
        refine Rg.end (by kernel_rfl) ?_
        refine Gs.then_n ?_
        refine Gs.ret ?_
        exact Gs.fin1 Try.results40 rfl _ (⟨_, _, rfl, rfl⟩) (by repeat constructor)
      · skip
        rintro _ _ ⟨a38, rfl, rfl⟩
        refine Rg.one (by kernel_rfl) (Stp.ac 3 rfl rfl (by kernel_rfl) trivial (ac_copy et_25 ek_34 rfl rfl (SrcH.sl' (ys := ks.take i) Try.underlying25 ek_34 (by simp <;> omega) (SlH.cutH (SlH.own (by repeat constructor)) _ _ hlc)) (by first | omega | (simp; omega)) (by first | omega | (simp; omega)))  ?_)
        rintro _ _ ⟨a36, c36, rfl, rfl⟩
        refine Rg.one (by kernel_rfl) (Stp.ac 6 rfl rfl (by kernel_rfl) trivial (ac_append et_25 ek_34 rfl rfl (by repeat constructor) (SrcH.sl Try.underlying25 ek_34 (SlH.own (by repeat constructor))) (by first | omega | (simp; omega)) (by first | omega | (simp; omega)))  ?_)
        rintro _ _ ⟨a39, c39, rfl, rfl⟩
        refine Rg.one (by kernel_rfl) (Stp.ac 10 rfl rfl (by kernel_rfl) trivial (ac_append et_25 ek_34 rfl rfl (by repeat constructor) (SrcH.sl' (ys := ks.drop i) Try.underlying25 ek_34 (by simp <;> omega) (SlH.cutL (SlH.own (by repeat constructor)) _ _ hlc)) (by first | omega | (simp; omega)) (by first | omega | (simp; omega)))  ?_)
        rintro _ _ ⟨a43, c43, rfl, rfl⟩
        rw [hin]
        refine Rg.pu 11 rfl rfl (by kernel_rfl) trivial (pu_assign rfl) ?_
        refine Rg.end (by kernel_rfl) ?_
        refine Gs.then_n ?_
        refine Gs.ret ?_
        exact Gs.fin1 Try.results40 rfl _ (⟨_, _, rfl, rfl⟩) (by repeat constructor)
end Go.Proofs.Ytonilkceolbkmaa
