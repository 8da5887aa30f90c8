/- Walks: Or (grapevineref10). -/
import Derived.Test.YtonilkceolbkmaaPoH
namespace Go.Po
open Go Go.Sl Go.Gv
def keysL (ls : List (SlV PostV)) : List Key := ls.flatMap fun l => l.xs.map PostV.k
def intoAll (ks : List Key) : List Key := ks.foldl intoL []
def orV (ls : List (SlV PostV)) : List Key := if mayAll (ls.map fun l => l.xs.map PostV.p) then intoAll (keysL ls) else []
theorem intoAll_snoc (ks : List Key) (k : Key) : intoAll (ks ++ [k]) = intoL (intoAll ks) k := by simp [intoAll]
theorem intoL_le (l : List Key) (k : Key) : (intoL l k).length ≤ l.length + 1 := by
  unfold intoL; split
  · omega
  · simp only [List.length_append, List.length_take, List.length_drop, List.length_cons, List.length_nil]; omega
theorem intoAll_le (ks : List Key) : (intoAll ks).length ≤ ks.length := by
  have : ∀ (ks acc : List Key), (ks.foldl intoL acc).length ≤ acc.length + ks.length := by
    intro ks
    induction ks with
    | nil => intro acc; simp
    | cons k ks ih =>
      intro acc
      have h1 := ih (intoL acc k)
      have h2 := intoL_le acc k
      simp only [List.foldl_cons, List.length_cons]; omega
  have := this ks []
  simpa [intoAll] using this
theorem keysL_take {ls : List (SlV PostV)} {i : Nat} {l : SlV PostV} (h : ls[i]? = some l) : keysL (ls.take (i + 1)) = keysL (ls.take i) ++ l.xs.map PostV.k := by
  rw [List.take_add_one, h]; simp [keysL]
theorem keysL_le (ls : List (SlV PostV)) (i : Nat) : (keysL (ls.take i)).length ≤ (keysL ls).length := by
  have : keysL ls = keysL (ls.take i) ++ keysL (ls.drop i) := by
    unfold keysL; rw [← List.flatMap_append, List.take_append_drop]
  rw [this, List.length_append]; omega
theorem mapk_take {l : List PostV} {j : Nat} {p : PostV} (h : l[j]? = some p) : (l.take (j + 1)).map PostV.k = (l.take j).map PostV.k ++ [p.k] := by
  rw [List.take_add_one, h]; simp
end Go.Po
namespace Go.Proofs.Ytonilkceolbkmaa
open Go Go.Sl Go.Gv Go.Po
set_option maxRecDepth 100000
theorem or10_spec {S : HProp} {a : Option Addr} {c : Nat} {ls : List (SlV PostV)} (hS : LRd S a ls) (hl : ls.length ≤ 900) (hk : (keysL ls).length ≤ 90000) :
    Ct Try.prog 15 [.slice a ls.length c] [S] (fun v hs => ∃ a' c', v = .slice a' (orV ls).length c' ∧ hs = [S, sl 34 2 keyC a' c' (orV ls)]) := by
  refine Ct.intro Try.func15 rfl (by kernel_rfl) 36 Try.ntmps15 (Nat.le_of_ble_eq_true rfl) fun w0 R => ?_
  refine Gs.slAddr (hS.1.h (by repeat constructor)) fun lb lo hla => ?_
  refine Gs.seq ?_
  refine Gs.reg ?_
  refine Go.Sl.L.pu rfl rfl trivial (pu_assign rfl) ?_
  refine Go.Sl.L.nil ?_
  refine Gs.then_n ?_
  refine Gs.seq ?_
  refine Gs.reg ?_
  refine Go.Sl.L.pu rfl rfl trivial (pu_assign rfl) ?_
  refine Go.Sl.L.nil ?_
  refine Gs.slNil 34 2 keyC ?_
  refine Gs.then_n ?_
  refine Gs.seq ?_
  refine Gs.seq ?_
  refine Gs.reg ?_
  refine Go.Sl.L.pu rfl rfl trivial (pu_assign rfl) ?_
  refine Go.Sl.L.nil ?_
  refine Gs.then_n ?_
  refine Gs.block ?_
  refine Gs.loop1 (fun s : Nat × (Option Addr × Nat) × List Key => s.1 ≤ ls.length ∧ (s.1 = 0 ∨ mayAll (plain2 ls) = true) ∧ s.2.2 = intoAll (keysL (ls.take s.1))) (fun s => [(0, .slice a ls.length c), (3, .slice s.2.1.1 s.2.2.length s.2.1.2), (4, int s.1)]) (fun s => [S, sl 34 2 keyC s.2.1.1 s.2.1.2 s.2.2] ++ R) (fun s => ls.length - s.1) (0, (none, 0), []) (⟨Nat.zero_le _, .inl rfl, rfl⟩) (by repeat constructor) (by repeat constructor) (fun s hs => ?_)
  obtain ⟨i, ⟨ka, kc⟩, K⟩ := s
  obtain ⟨hi, hgo, hK⟩ := hs
  dsimp only at hi hgo hK ⊢
  refine Gs.seq ?_
  refine Gs.seq ?_
  refine Gs.reg ?_
  refine Go.Sl.L.pu rfl rfl trivial (pu_move rfl) ?_
  refine Go.Sl.L.pu rfl rfl trivial (pu_move rfl) ?_
  refine Go.Sl.L.pu rfl rfl trivial (pu_len Try.underlying22 rfl) ?_
  refine Go.Sl.L.pu rfl rfl trivial (pu_lt rfl rfl) ?_
  refine Go.Sl.L.puB rfl rfl trivial (pu_move rfl) (fun hg4 => ?_) (fun hg4 => ?_)
  · skip
    refine Go.Sl.L.pu rfl rfl ⟨_, rfl, rfl⟩ (pu_move rfl) ?_
    refine Go.Sl.L.ac rfl rfl ⟨_, rfl, rfl⟩ (as_call (all10_spec hS (by omega)) (by repeat constructor) (by repeat constructor)) ?_
    rintro _ _ ⟨_, ⟨rfl, rfl⟩, rfl⟩
    refine Go.Sl.L.pu rfl rfl trivial (by first | exact pu_pick_t rfl rfl | exact pu_pick_f rfl rfl) ?_
    refine Go.Sl.L.nil ?_
    refine Gs.then_n ?_
    refine Gs.cond rfl (fun hc0 => ?_) (fun hc0 => ?_)
    · skip
      have hlt : i < ls.length := by have := of_decide_eq_true hg4; omega
      obtain ⟨⟨ya, yx, yc⟩, hy⟩ : ∃ x, ls[i]? = some x := ⟨ls[i], by simp [hlt]⟩
      obtain rfl := hla (by rintro rfl; simp at hlt)
      have hyS : PRd S ya yx ∧ yx.length ≤ 1000 := hS.2 _ (List.mem_of_getElem? hy)
      have hkt := keysL_take hy
      have hkl := keysL_le ls (i + 1)
      rw [hkt, List.length_append, List.length_map] at hkl
      have hkl2 : (keysL (ls.take i)).length + yx.length ≤ (keysL ls).length := hkl
      refine Gs.slAddr (hyS.1.1.h (by repeat constructor)) fun yb yo hya => ?_
      refine Gs.skip ?_
      refine Gs.then_n ?_
      refine Gs.seq ?_
      refine Gs.block ?_
      refine Gs.seq ?_
      refine Gs.reg ?_
      refine Go.Sl.L.pu rfl rfl trivial (pu_assign rfl) ?_
      refine Go.Sl.L.nil ?_
      refine Gs.then_n ?_
      refine Gs.block ?_
      refine Gs.loop1 (fun s : Nat × (Option Addr × Nat) × List Key => s.1 ≤ yx.length ∧ s.2.2 = intoAll (keysL (ls.take i) ++ (yx.take s.1).map PostV.k)) (fun s => [(0, .slice (some ⟨lb, lo, none⟩) ls.length c), (3, .slice s.2.1.1 s.2.2.length s.2.1.2), (4, int i), (5, int s.1)]) (fun s => [S, sl 34 2 keyC s.2.1.1 s.2.1.2 s.2.2] ++ R) (fun s => yx.length - s.1) (0, (ka, kc), K) (⟨Nat.zero_le _, by show K = _; rw [hK]; simp⟩) (by repeat constructor) (by repeat constructor) (fun s hs1 => ?_)
      obtain ⟨j, ⟨ka, kc⟩, K⟩ := s
      obtain ⟨hj, hK⟩ := hs1
      dsimp only at hj hK ⊢
      have hKl : K.length ≤ 90000 := by rw [hK]; refine Nat.le_trans (intoAll_le _) ?_; rw [List.length_append, List.length_map, List.length_take]; omega
      refine Gs.seq ?_
      refine Gs.seq ?_
      refine Gs.reg ?_
      refine Go.Sl.L.pu rfl rfl trivial (pu_move rfl) ?_
      refine Go.Sl.L.pu rfl rfl trivial (pu_move rfl) ?_
      refine Go.Sl.L.pu rfl rfl trivial (pu_move rfl) ?_
      refine Go.Sl.L.pu rfl rfl trivial (pu_ia se_22 rfl rfl (by omega) (by omega)) ?_
      refine Go.Sl.L.rd rfl rfl trivial (rd_ld na_30 rfl (Rdc.el0 (enc := slC) (sz := 1) (hS.1.h (by repeat constructor)) hy rfl rfl)) ?_
      refine Go.Sl.L.pu rfl rfl trivial (pu_len Try.underlying30 rfl) ?_
      refine Go.Sl.L.pu rfl rfl trivial (pu_lt rfl rfl) ?_
      refine Go.Sl.L.nil ?_
      refine Gs.then_n ?_
      refine Gs.cond rfl (fun hc1 => ?_) (fun hc1 => ?_)
      · skip
        have hlt1 : j < yx.length := by have h := of_decide_eq_true hc1; dsimp only at h; omega
        obtain ⟨p, hp⟩ : ∃ x, yx[j]? = some x := ⟨yx[j], by simp [hlt1]⟩
        obtain rfl := hya (by intro e; rw [e] at hp; simp at hp)
        have hin : intoL K p.k = intoAll (keysL (ls.take i) ++ (yx.take (j + 1)).map PostV.k) := by rw [hK, mapk_take hp, ← List.append_assoc, intoAll_snoc]
        refine Gs.skip ?_
        refine Gs.then_n ?_
        refine Gs.seq ?_
        refine Gs.block ?_
        refine Gs.reg ?_
        refine Go.Sl.L.pu rfl rfl trivial (pu_move rfl) ?_
        refine Go.Sl.L.pu rfl rfl trivial (pu_move rfl) ?_
        refine Go.Sl.L.pu rfl rfl trivial (pu_move rfl) ?_
        refine Go.Sl.L.pu rfl rfl trivial (pu_ia se_22 rfl rfl (by omega) (by omega)) ?_
        refine Go.Sl.L.rd rfl rfl trivial (rd_ld na_30 rfl (Rdc.el0 (enc := slC) (sz := 1) (hS.1.h (by repeat constructor)) hy rfl rfl)) ?_
        refine Go.Sl.L.pu rfl rfl trivial (pu_move rfl) ?_
        refine Go.Sl.L.pu rfl rfl trivial (pu_ia se_30 rfl rfl (by omega) (by dsimp only; omega)) ?_
        refine Go.Sl.L.pu rfl rfl trivial (pu_fa fa_37_0 rfl) ?_
        refine Go.Sl.L.rd rfl rfl trivial (rd_lda ag_34 rfl (Rdc.elp 2 (hyS.1.1.h (by repeat constructor)) hp rfl rfl) rfl) ?_
        refine Go.Sl.L.ac rfl rfl trivial (as_call (into_spec ka kc K (by omega) p.k) (by repeat constructor) (by repeat constructor)) ?_
        rintro _ _ ⟨_, ⟨na, nc, rfl, rfl⟩, rfl⟩
        rw [hin]
        refine Go.Sl.L.pu rfl rfl trivial (pu_assign rfl) ?_
        refine Go.Sl.L.nil ?_
        refine Gs.blk_n ?_
        refine Gs.then_n ?_
        refine Gs.reg ?_
        refine Go.Sl.L.pu rfl rfl trivial (pu_move rfl) ?_
        refine Go.Sl.L.pu rfl rfl trivial (by first | exact pu_addI rfl rfl rfl (by omega) (by omega) | exact pu_add rfl rfl) ?_
        refine Go.Sl.L.pu rfl rfl trivial (pu_assign rfl) ?_
        refine Go.Sl.L.nil ?_
        refine Gs.then_n ?_
        exact Gs.again1 (j + 1, (na, nc), intoAll (keysL (ls.take i) ++ (yx.take (j + 1)).map PostV.k)) ⟨by show j + 1 ≤ yx.length; omega, rfl⟩ (by show yx.length - (j + 1) < yx.length - j; omega) (by repeat constructor) (by repeat constructor)
      · skip
        have hge1 : j = yx.length := by have h := of_decide_eq_false hc1; dsimp only at h; omega
        rw [hge1, List.take_length, ← hkt] at hK
        refine Gs.exit ?_
        refine Gs.then_x ?_
        refine Gs.then_x ?_
        refine Gs.blk_hit ?_
        refine Gs.blk_n ?_
        refine Gs.then_n ?_
        refine Gs.reg ?_
        refine Go.Sl.L.pu rfl rfl trivial (pu_move rfl) ?_
        refine Go.Sl.L.pu rfl rfl trivial (by first | exact pu_addI rfl rfl rfl (by omega) (by omega) | exact pu_add rfl rfl) ?_
        refine Go.Sl.L.pu rfl rfl trivial (pu_assign rfl) ?_
        refine Go.Sl.L.nil ?_
        refine Gs.then_n ?_
        exact Gs.again1 (i + 1, (ka, kc), K) ⟨by show i + 1 ≤ ls.length; omega, .inr hc0, hK⟩ (by show ls.length - (i + 1) < ls.length - i; omega) (by repeat constructor) (by repeat constructor)
    · skip
      have hfin : K = orV ls := by
        rcases hgo with h | h
        · rw [hK, h]; exact (if_neg (by intro h2; have h3 : mayAll (plain2 ls) = true := h2; rw [hc0] at h3; cases h3)).symm
        · rw [hc0] at h; cases h
      refine Gs.exit ?_
      refine Gs.then_x ?_
      refine Gs.then_x ?_
      refine Gs.blk_hit ?_
      refine Gs.then_n ?_
      refine Gs.seq ?_
      rw [hfin]
      refine Gs.reg ?_
      refine Go.Sl.L.pu rfl rfl trivial (pu_move rfl) ?_
      refine Go.Sl.L.pu rfl rfl trivial (pu_assign rfl) ?_
      refine Go.Sl.L.nil ?_
      refine Gs.then_n ?_
      refine Gs.ret ?_
      exact Gs.fin1 Try.results15 rfl _ (⟨ka, kc, rfl, rfl⟩) (by repeat constructor)
  · skip
    have hfin : K = orV ls := by
      have hge : i = ls.length := by have := of_decide_eq_false hg4; omega
      rcases hgo with h | h
      · have h0 : ls = [] := List.length_eq_zero_iff.1 (by omega)
        rw [hK, h, h0]; rfl
      · rw [hK, hge, List.take_length]; exact (if_pos h).symm
    refine Go.Sl.L.off rfl rfl rfl rfl rfl rfl ?_
    refine Go.Sl.L.off rfl rfl rfl rfl rfl rfl ?_
    refine Go.Sl.L.pu rfl rfl trivial (by first | exact pu_pick_t rfl rfl | exact pu_pick_f rfl rfl) ?_
    refine Go.Sl.L.nil ?_
    refine Gs.then_n ?_
    refine Gs.cond_f rfl ?_
    refine Gs.exit ?_
    refine Gs.then_x ?_
    refine Gs.then_x ?_
    refine Gs.blk_hit ?_
    refine Gs.then_n ?_
    refine Gs.seq ?_
    rw [hfin]
    refine Gs.reg ?_
    refine Go.Sl.L.pu rfl rfl trivial (pu_move rfl) ?_
    refine Go.Sl.L.pu rfl rfl trivial (pu_assign rfl) ?_
    refine Go.Sl.L.nil ?_
    refine Gs.then_n ?_
    refine Gs.ret ?_
    exact Gs.fin1 Try.results15 rfl _ (⟨ka, kc, rfl, rfl⟩) (by repeat constructor)
end Go.Proofs.Ytonilkceolbkmaa
