/- Walks: post.Or. -/
import Derived.Test.YtonilkceolbkmaaPoL
namespace Go.Proofs.Ytonilkceolbkmaa
open Go Go.Sl Go.Gv Go.Po
set_option maxRecDepth 100000
def porV (ls : List (SlV PostV)) : List Key := if mayAll (ls.map fun l => l.xs.map PostV.p) then dd (sortM (keysL ls)) else []
theorem por_spec {S : HProp} {a : Option Addr} {c : Nat} {ls : List (SlV PostV)} (hS : LRd S a ls) (hl : ls.length ≤ 900) (hk : (keysL ls).length ≤ 90000) :
    Ct Try.prog 11 [.slice a ls.length c] [S] (fun v hs => ∃ a' c', v = .slice a' (porV ls).length c' ∧ hs = [S, sl 34 2 keyC a' c' (porV ls)]) := by
  refine Ct.intro Try.func11 rfl (by kernel_rfl) 33 Try.ntmps11 (Nat.le_of_ble_eq_true rfl) fun w0 R => ?_
  refine Gs.slAddr (hS.1.h (by repeat constructor)) fun lb lo hla => ?_
  refine Gs.seq ?_
  refine Gs.reg ?_
  refine Go.Sl.L.pu rfl rfl trivial (pu_assign rfl) ?_
  refine Go.Sl.L.nil ?_
  refine Gs.then_n ?_
  refine Gs.seq ?_
  refine Gs.seq ?_
  refine Gs.reg ?_
  refine Go.Sl.L.pu rfl rfl trivial (pu_move rfl) ?_
  refine Go.Sl.L.ac rfl rfl trivial (as_call (odd_spec hS (by omega)) (by repeat constructor) (by repeat constructor)) ?_
  rintro _ _ ⟨_, ⟨rfl, rfl⟩, rfl⟩
  refine Go.Sl.L.nil ?_
  refine Gs.then_n ?_
  refine Gs.cond rfl (fun hc0 => ?_) (fun hc0 => ?_)
  · skip
    have hno : porV ls = [] := if_neg (by intro h; have h2 : mayAll (plain2 ls) = true := h; rw [not_t hc0] at h2; cases h2)
    refine Gs.seq ?_
    refine Gs.reg ?_
    refine Go.Sl.L.pu rfl rfl trivial (pu_assign rfl) ?_
    refine Go.Sl.L.nil ?_
    refine Gs.then_n ?_
    refine Gs.ret ?_
    refine Gs.then_r ?_
    refine Gs.slNil 34 2 keyC ?_
    exact Gs.fin1 Try.results11 rfl _ (⟨none, 0, by rw [hno]; rfl, by rw [hno]⟩) (by repeat constructor)
  · skip
    have hmay : mayAll (plain2 ls) = true := not_f hc0
    refine Gs.skip ?_
    refine Gs.then_n ?_
    refine Gs.seq ?_
    refine Gs.reg ?_
    refine Go.Sl.L.pu rfl rfl trivial (pu_assign rfl) ?_
    refine Go.Sl.L.nil ?_
    refine Gs.slNil 34 2 keyC ?_
    refine Gs.then_n ?_
    refine Gs.seq ?_
    refine Gs.seq ?_
    refine Gs.reg ?_
    refine Go.Sl.L.pu rfl rfl trivial (pu_move rfl) ?_
    refine Go.Sl.L.pu rfl rfl trivial (pu_len Try.underlying22 rfl) ?_
    refine Go.Sl.L.pu rfl rfl trivial (pu_move rfl) ?_
    refine Go.Sl.L.nil ?_
    refine Gs.then_n ?_
    refine Gs.block ?_
    refine Gs.loop1 (fun s : Nat × (Option Addr × Nat) × List Key => s.1 ≤ ls.length ∧ s.2.2 = keysL (ls.take s.1)) (fun s => [(3, .slice s.2.1.1 s.2.2.length s.2.1.2), (10, .slice a ls.length c), (11, int ls.length), (12, int s.1)]) (fun s => [S, sl 34 2 keyC s.2.1.1 s.2.1.2 s.2.2] ++ R) (fun s => ls.length - s.1) (0, (none, 0), []) (⟨Nat.zero_le _, rfl⟩) (by repeat constructor) (by repeat constructor) (fun s hs => ?_)
    obtain ⟨i, ⟨ka, kc⟩, K⟩ := s
    obtain ⟨hi, hK⟩ := hs
    dsimp only at hi hK ⊢
    refine Gs.seq ?_
    refine Gs.reg ?_
    refine Go.Sl.L.pu rfl rfl trivial (pu_lt rfl rfl) ?_
    refine Go.Sl.L.nil ?_
    refine Gs.then_n ?_
    refine Gs.seq ?_
    refine Gs.cond rfl (fun hc1 => ?_) (fun hc1 => ?_)
    · skip
      have hlt : i < ls.length := by have := of_decide_eq_true hc1; omega
      obtain ⟨⟨ya, yx, yc⟩, hy⟩ : ∃ x, ls[i]? = some x := ⟨ls[i], by simp [hlt]⟩
      obtain rfl := hla (by rintro rfl; simp at hlt)
      have hyS : PRd S ya yx ∧ yx.length ≤ 1000 := hS.2 _ (List.mem_of_getElem? hy)
      have hkt : keysL (ls.take (i + 1)) = keysL (ls.take i) ++ yx.map PostV.k := keysL_take hy
      have hkl := keysL_le ls (i + 1)
      rw [hkt, List.length_append, List.length_map] at hkl
      refine Gs.slAddr (hyS.1.1.h (by repeat constructor)) fun yb yo hya => ?_
      refine Gs.skip ?_
      refine Gs.then_n ?_
      refine Gs.seq ?_
      refine Gs.block ?_
      refine Gs.seq ?_
      refine Gs.reg ?_
      refine Go.Sl.L.pu rfl rfl trivial (pu_ia se_22 rfl rfl (by omega) (by omega)) ?_
      refine Go.Sl.L.rd rfl rfl trivial (rd_ld na_30 rfl (Rdc.el0 (enc := slC) (sz := 1) (hS.1.h (by repeat constructor)) hy rfl rfl)) ?_
      refine Go.Sl.L.pu rfl rfl trivial (pu_assign rfl) ?_
      refine Go.Sl.L.nil ?_
      refine Gs.then_n ?_
      refine Gs.seq ?_
      refine Gs.reg ?_
      refine Go.Sl.L.pu rfl rfl trivial (pu_move rfl) ?_
      refine Go.Sl.L.pu rfl rfl trivial (pu_len Try.underlying30 rfl) ?_
      refine Go.Sl.L.pu rfl rfl trivial (pu_move rfl) ?_
      refine Go.Sl.L.nil ?_
      refine Gs.then_n ?_
      refine Gs.block ?_
      refine Gs.loop1 (fun s : Nat × (Option Addr × Nat) × List Key => s.1 ≤ yx.length ∧ s.2.2 = keysL (ls.take i) ++ (yx.take s.1).map PostV.k) (fun s => [(3, .slice s.2.1.1 s.2.2.length s.2.1.2), (10, .slice (some ⟨lb, lo, none⟩) ls.length c), (11, int ls.length), (12, int i), (16, .slice ya yx.length yc), (17, int yx.length), (18, int s.1)]) (fun s => [S, sl 34 2 keyC s.2.1.1 s.2.1.2 s.2.2] ++ R) (fun s => yx.length - s.1) (0, (ka, kc), K) (⟨Nat.zero_le _, by show K = _; rw [hK]; simp⟩) (by repeat constructor) (by repeat constructor) (fun s hs1 => ?_)
      obtain ⟨j, ⟨ka, kc⟩, K⟩ := s
      obtain ⟨hj, hK⟩ := hs1
      dsimp only at hj hK ⊢
      have hKl : K.length ≤ 90000 := by rw [hK, List.length_append, List.length_map, List.length_take]; omega
      refine Gs.seq ?_
      refine Gs.reg ?_
      refine Go.Sl.L.pu rfl rfl trivial (pu_lt rfl rfl) ?_
      refine Go.Sl.L.nil ?_
      refine Gs.then_n ?_
      refine Gs.seq ?_
      refine Gs.cond rfl (fun hc2 => ?_) (fun hc2 => ?_)
      · skip
        have hlt1 : j < yx.length := by have := of_decide_eq_true hc2; omega
        obtain ⟨p, hp⟩ : ∃ x, yx[j]? = some x := ⟨yx[j], by simp [hlt1]⟩
        obtain rfl := hya (by intro e; rw [e] at hp; simp at hp)
        have hin : K ++ [p.k] = keysL (ls.take i) ++ (yx.take (j + 1)).map PostV.k := by rw [hK, mapk_take hp, List.append_assoc]
        refine Gs.skip ?_
        refine Gs.then_n ?_
        refine Gs.seq ?_
        refine Gs.block ?_
        refine Gs.seq ?_
        refine Gs.reg ?_
        refine Go.Sl.L.pu rfl rfl trivial (pu_ia se_30 rfl rfl (by omega) (by omega)) ?_
        refine Go.Sl.L.rd rfl rfl trivial (rd_lda ag_37 rfl (Rdc.el0 (hyS.1.1.h (by repeat constructor)) hp rfl rfl) rfl) ?_
        refine Go.Sl.L.ac rfl rfl trivial (ac_alloc zv_37 rfl) ?_
        rintro _ _ ⟨pb, rfl, rfl⟩
        refine Go.Sl.L.ac0 rfl trivial (ac_st sz_37 rfl rfl (by repeat constructor) rfl rfl rfl rfl) ?_
        rintro _ _ rfl
        refine Go.Sl.L.nil ?_
        refine Gs.then_n ?_
        refine Gs.reg ?_
        refine Go.Sl.L.pu rfl rfl trivial (pu_move rfl) ?_
        refine Go.Sl.L.pu rfl rfl trivial (pu_fa fa_37_0 rfl) ?_
        refine Go.Sl.L.rd rfl rfl trivial (rd_lda ag_34 rfl (Rdc.cl 2 (by repeat constructor) rfl) rfl) ?_
        refine Go.Sl.L.ac rfl rfl trivial (ac_lit encC_34 ([p.k]) et_25 ek_34 rfl (by repeat constructor) rfl rfl (by decide)) ?_
        rintro _ _ ⟨a25, rfl, rfl⟩
        refine Go.Sl.L.ac rfl rfl trivial (ac_append (xs := K) (ys := [p.k]) et_25 ek_34 rfl rfl (by repeat constructor) (SrcH.sl Try.underlying25 ek_34 (SlH.own (by repeat constructor))) (by first | omega | (simp; omega)) (by first | omega | (simp; omega))) ?_
        rintro _ _ ⟨a26, c26, rfl, rfl⟩
        refine Go.Sl.L.pu rfl rfl trivial (pu_assign rfl) ?_
        refine Go.Sl.L.nil ?_
        refine Gs.blk_n ?_
        refine Gs.then_n ?_
        refine Gs.reg ?_
        refine Go.Sl.L.pu rfl rfl trivial (by first | exact pu_addI rfl rfl rfl (by omega) (by omega) | exact pu_add rfl rfl) ?_
        refine Go.Sl.L.pu rfl rfl trivial (pu_move rfl) ?_
        refine Go.Sl.L.nil ?_
        refine Gs.then_n ?_
        exact Gs.again1 (j + 1, (a26, c26), K ++ [p.k]) ⟨by show j + 1 ≤ yx.length; omega, hin⟩ (by show yx.length - (j + 1) < yx.length - j; omega) (by repeat constructor) (by repeat constructor)
      · skip
        have hge1 : j = yx.length := by have := of_decide_eq_false hc2; omega
        rw [hge1, List.take_length, ← hkt] at hK
        refine Gs.exit ?_
        refine Gs.then_x ?_
        refine Gs.then_x ?_
        refine Gs.blk_hit ?_
        refine Gs.blk_n ?_
        refine Gs.then_n ?_
        refine Gs.reg ?_
        refine Go.Sl.L.pu rfl rfl trivial (by first | exact pu_addI rfl rfl rfl (by omega) (by omega) | exact pu_add rfl rfl) ?_
        refine Go.Sl.L.pu rfl rfl trivial (pu_move rfl) ?_
        refine Go.Sl.L.nil ?_
        refine Gs.then_n ?_
        exact Gs.again1 (i + 1, (ka, kc), K) ⟨by show i + 1 ≤ ls.length; omega, hK⟩ (by show ls.length - (i + 1) < ls.length - i; omega) (by repeat constructor) (by repeat constructor)
    · skip
      have hge : i = ls.length := by have := of_decide_eq_false hc1; omega
      rw [hge, List.take_length] at hK
      subst hK
      refine Gs.exit ?_
      refine Gs.then_x ?_
      refine Gs.then_x ?_
      refine Gs.blk_hit ?_
      refine Gs.then_n ?_
      refine Gs.seq ?_
      refine Gs.reg ?_
      refine Go.Sl.L.pu rfl rfl trivial (pu_move rfl) ?_
      refine Go.Sl.L.ac rfl rfl trivial (as_call (sortO_spec ka kc (keysL ls) (by omega)) (by repeat constructor) (by repeat constructor)) ?_
      rintro _ _ ⟨_, ⟨rfl, rfl⟩, rfl⟩
      refine Go.Sl.L.nil ?_
      refine Gs.then_n ?_
      refine Gs.seq ?_
      rw [show (keysL ls).length = (sortM (keysL ls)).length from sortM_length.symm]
      refine Gs.reg ?_
      refine Go.Sl.L.pu rfl rfl trivial (pu_move rfl) ?_
      refine Go.Sl.L.ac rfl rfl trivial (as_call (compact_spec (a := ka) (c := kc) (xs := sortM (keysL ls)) (by rw [sortM_length]; omega)) (by repeat constructor) (by repeat constructor)) ?_
      rintro _ _ ⟨_, ⟨rfl, rfl⟩, rfl⟩
      refine Go.Sl.L.pu rfl rfl trivial (pu_assign rfl) ?_
      refine Go.Sl.L.nil ?_
      refine Gs.then_n ?_
      refine Gs.ret ?_
      exact Gs.fin1 Try.results11 rfl _ (⟨ka, kc, by rw [show porV ls = dd (sortM (keysL ls)) from if_pos hmay], by rw [show porV ls = dd (sortM (keysL ls)) from if_pos hmay]⟩) (by repeat constructor)
end Go.Proofs.Ytonilkceolbkmaa
