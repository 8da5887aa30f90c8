/- Walks: Drop, Put (grapevineref10). -/
import Derived.Test.YtonilkceolbkmaaPoT
namespace Go.Proofs.Ytonilkceolbkmaa
open Go Go.Sl Go.Gv Go.Po
set_option maxRecDepth 100000
def dropV (ps : List PostV) (k : Key) : List PostV := if mayB (plain1 ps) then ps.filter (fun p => decide (p.k ≠ k)) else []
def atP (ps : List PostV) (k : Key) : Nat := ps.findIdx fun p => !before p.k k
def putV (ps : List PostV) (p : PostV) : List PostV :=
  if mayB (plain1 ps) then (if risesB p.t.xs then (dropV ps p.k).take (atP (dropV ps p.k) p.k) ++ [p] ++ (dropV ps p.k).drop (atP (dropV ps p.k) p.k) else ps) else []
theorem dropV_plain (ps : List PostV) (k : Key) : plain1 (dropV ps k) = dropP (plain1 ps) k := by
  unfold dropV dropP
  split
  · simp only [plain1, List.filter_map, Function.comp_def]; rfl
  · rfl
theorem dropV_mem {ps : List PostV} {k : Key} {p : PostV} (h : p ∈ dropV ps k) : p ∈ ps := by
  unfold dropV at h; split at h
  · exact (List.mem_filter.1 h).1
  · cases h
theorem dropV_le (ps : List PostV) (k : Key) : (dropV ps k).length ≤ ps.length := by
  unfold dropV; split
  · exact List.length_filter_le ..
  · exact Nat.zero_le _
theorem atP_le (ps : List PostV) (k : Key) : atP ps k ≤ ps.length := List.findIdx_le_length
theorem atP_step {ps : List PostV} {k : Key} {x : PostV} {i : Nat} (hi : i ≤ atP ps k) (hx : ps[i]? = some x) : if before x.k k then i + 1 ≤ atP ps k else i = atP ps k := by
  obtain ⟨hl, rfl⟩ := List.getElem?_eq_some_iff.1 hx
  split
  · rename_i hb
    rcases Nat.lt_or_eq_of_le hi with h | h
    · exact h
    · have h2 : atP ps k < ps.length := by omega
      have := List.findIdx_getElem (p := fun x : PostV => !before x.k k) (xs := ps) (w := h2)
      have e : ps[List.findIdx (fun x : PostV => !before x.k k) ps] = ps[i] := by congr 1; exact h.symm
      rw [e, hb] at this; cases this
  · rename_i hb
    rcases Nat.lt_or_eq_of_le hi with h | h
    · have := List.not_of_lt_findIdx (p := fun x : PostV => !before x.k k) (xs := ps) h
      simp at this; exact (hb this).elim
    · exact h
theorem putV_le (ps : List PostV) (p : PostV) : (putV ps p).length ≤ ps.length + 1 := by
  have := dropV_le ps p.k
  unfold putV; split
  · split
    · simp only [List.length_append, List.length_take, List.length_drop, List.length_cons, List.length_nil]; omega
    · omega
  · exact Nat.zero_le _
theorem putV_mem {ps : List PostV} {p q : PostV} (h : q ∈ putV ps p) : q = p ∨ q ∈ ps := by
  unfold putV at h; split at h
  · split at h
    · rcases List.mem_append.1 h with h | h
      · rcases List.mem_append.1 h with h | h
        · exact .inr (dropV_mem (List.mem_of_mem_take h))
        · exact .inl (by simpa using h)
      · exact .inr (dropV_mem (List.mem_of_mem_drop h))
    · exact .inr h
  · cases h
theorem putV_plain (ps : List PostV) (p : PostV) : plain1 (putV ps p) = putP (plain1 ps) p.p := by
  unfold putV putP
  split
  · rename_i hm
    split
    · rename_i hr
      rw [if_pos (show risesB p.p.2 = true from hr)]
      have hasc := may_asc hm
      have hd : dropV ps p.k = ps.filter (fun q => decide (q.k ≠ p.k)) := if_pos hm
      have hlo : ∀ (m : Nat) (x : PostV), m < atP (dropV ps p.k) p.k → (dropV ps p.k)[m]? = some x → before x.k p.k = true := fun m x hmm hx => by
        obtain ⟨hl, rfl⟩ := List.getElem?_eq_some_iff.1 hx
        have := List.not_of_lt_findIdx (p := fun x : PostV => !before x.k p.k) (xs := dropV ps p.k) hmm
        simpa using this
      have hpw : (dropV ps p.k).Pairwise (fun x y => before x.k y.k = true) := by
        rw [hd]
        refine List.Pairwise.filter _ ?_
        rw [List.map_map, List.pairwise_map] at hasc
        exact hasc
      have hhi : ∀ (m : Nat) (x : PostV), atP (dropV ps p.k) p.k ≤ m → (dropV ps p.k)[m]? = some x → before p.k x.k = true := fun m x hmm hx => by
        have hne : ∀ (j : Nat) (y : PostV), (dropV ps p.k)[j]? = some y → y.k ≠ p.k := fun j y hy => by
          have := List.mem_of_getElem? hy
          rw [hd] at this
          simpa using (List.mem_filter.1 this).2
        have hlen : m < (dropV ps p.k).length := (List.getElem?_eq_some_iff.1 hx).1
        have hlt : atP (dropV ps p.k) p.k < (dropV ps p.k).length := by omega
        have h0 : (dropV ps p.k)[atP (dropV ps p.k) p.k]? = some ((dropV ps p.k)[atP (dropV ps p.k) p.k]'hlt) := by simp
        have h1 : before ((dropV ps p.k)[atP (dropV ps p.k) p.k]'hlt).k p.k = false := by
          have := List.findIdx_getElem (p := fun x : PostV => !before x.k p.k) (xs := dropV ps p.k) (w := hlt)
          have h2 : (!before ((dropV ps p.k)[atP (dropV ps p.k) p.k]'hlt).k p.k) = true := this
          exact not_t h2
        have h3 : before p.k ((dropV ps p.k)[atP (dropV ps p.k) p.k]'hlt).k = true := by
          rcases before_total (hne _ _ h0) with h | h
          · rw [h] at h1; cases h1
          · exact h
        rcases Nat.lt_or_eq_of_le hmm with h | h
        · obtain ⟨hl, rfl⟩ := List.getElem?_eq_some_iff.1 hx
          exact before_trans h3 (List.pairwise_iff_getElem.1 hpw _ _ hlt hl h)
        · subst h
          rw [h0] at hx; cases hx; exact h3
      have e1 : (ps.filter fun q => before q.k p.k) = (dropV ps p.k).take (atP (dropV ps p.k) p.k) := by
        have : (ps.filter fun q => before q.k p.k) = (dropV ps p.k).filter fun q => before q.k p.k := by
          rw [hd, List.filter_filter]
          refine List.filter_congr fun x _ => ?_
          by_cases hk : x.k = p.k
          · rw [hk, before_irr]; simp
          · simp [hk]
        rw [this]
        have e : (dropV ps p.k).filter (fun q => before q.k p.k) = ((dropV ps p.k).take (atP (dropV ps p.k) p.k)).filter (fun q => before q.k p.k) ++ ((dropV ps p.k).drop (atP (dropV ps p.k) p.k)).filter (fun q => before q.k p.k) := by rw [← List.filter_append, List.take_append_drop]
        rw [e, List.filter_eq_self.2 (fun x hx => by obtain ⟨m, h1, h2⟩ := mem_take_at hx; exact hlo m x h1 h2), List.filter_eq_nil_iff.2 (fun x hx => by obtain ⟨m, h1, h2⟩ := mem_drop_at hx; rw [before_asymm (hhi m x h1 h2)]; decide), List.append_nil]
      have e2 : (ps.filter fun q => before p.k q.k) = (dropV ps p.k).drop (atP (dropV ps p.k) p.k) := by
        have : (ps.filter fun q => before p.k q.k) = (dropV ps p.k).filter fun q => before p.k q.k := by
          rw [hd, List.filter_filter]
          refine List.filter_congr fun x _ => ?_
          by_cases hk : x.k = p.k
          · rw [hk, before_irr]; simp
          · simp [hk]
        rw [this]
        have e : (dropV ps p.k).filter (fun q => before p.k q.k) = ((dropV ps p.k).take (atP (dropV ps p.k) p.k)).filter (fun q => before p.k q.k) ++ ((dropV ps p.k).drop (atP (dropV ps p.k) p.k)).filter (fun q => before p.k q.k) := by rw [← List.filter_append, List.take_append_drop]
        rw [e, List.filter_eq_nil_iff.2 (fun x hx => by obtain ⟨m, h1, h2⟩ := mem_take_at hx; rw [before_asymm (hlo m x h1 h2)]; decide), List.nil_append]
        exact List.filter_eq_self.2 (fun x hx => by obtain ⟨m, h1, h2⟩ := mem_drop_at hx; exact hhi m x h1 h2)
      rw [← e1, ← e2]
      simp only [plain1, List.map_append, List.filter_map, Function.comp_def]; rfl
    · rename_i hr
      rw [if_neg (show ¬ risesB p.p.2 = true from hr)]
  · rfl
theorem drop10_spec {S : HProp} {a : Option Addr} {c : Nat} {ps : List PostV} (hS : PRd S a ps) (hl : ps.length ≤ 1000) (k : Key) :
    Ct Try.prog 25 [.slice a ps.length c, keyV k] [S] (fun v hs => ∃ a' c', v = .slice a' (dropV ps k).length c' ∧ hs = [S, sl 37 3 postC a' c' (dropV ps k)]) := by
  refine Ct.intro Try.func25 rfl (by kernel_rfl) 31 Try.ntmps25 (Nat.le_of_ble_eq_true rfl) fun w0 R => ?_
  refine Gs.slAddr (hS.1.h (by repeat constructor)) fun ab ao ha => ?_
  refine Gs.seq ?_
  refine Gs.reg ?_
  refine Go.Sl.L.ac rfl rfl trivial (ac_box rfl rfl) ?_
  rintro _ _ ⟨kb, rfl, rfl⟩
  refine Go.Sl.L.pu rfl rfl trivial (pu_assign rfl) ?_
  refine Go.Sl.L.nil ?_
  refine Gs.then_n ?_
  refine Gs.seq ?_
  refine Gs.seq ?_
  refine Gs.reg ?_
  refine Go.Sl.L.pu rfl rfl trivial (pu_move rfl) ?_
  refine Go.Sl.L.ac rfl rfl trivial (as_call (may10_spec hS hl) (by repeat constructor) (by repeat constructor)) ?_
  rintro _ _ ⟨_, ⟨rfl, rfl⟩, rfl⟩
  refine Go.Sl.L.pu rfl rfl trivial (pu_not rfl) ?_
  refine Go.Sl.L.nil ?_
  refine Gs.then_n ?_
  refine Gs.cond rfl (fun hc0 => ?_) (fun hc0 => ?_)
  · skip
    have hno : dropV ps k = [] := if_neg (by rw [not_t hc0]; decide)
    refine Gs.seq ?_
    refine Gs.reg ?_
    refine Go.Sl.L.pu rfl rfl trivial (pu_assign rfl) ?_
    refine Go.Sl.L.nil ?_
    refine Gs.then_n ?_
    refine Gs.ret ?_
    refine Gs.then_r ?_
    refine Gs.slNil 37 3 postC ?_
    exact Gs.fin1 Try.results25 rfl _ (⟨none, 0, by rw [hno]; rfl, by rw [hno]⟩) (by repeat constructor)
  · skip
    have hd : dropV ps k = ps.filter (fun p => decide (p.k ≠ k)) := if_pos (not_f hc0)
    refine Gs.skip ?_
    refine Gs.then_n ?_
    refine Gs.seq ?_
    refine Gs.reg ?_
    refine Go.Sl.L.pu rfl rfl trivial (pu_assign rfl) ?_
    refine Go.Sl.L.nil ?_
    refine Gs.slNil 37 3 postC ?_
    refine Gs.then_n ?_
    refine Gs.seq ?_
    refine Gs.seq ?_
    refine Gs.reg ?_
    refine Go.Sl.L.pu rfl rfl trivial (pu_assign rfl) ?_
    refine Go.Sl.L.nil ?_
    refine Gs.then_n ?_
    refine Gs.block ?_
    refine Gs.loop1 (fun s : Nat × (Option Addr × Nat) × List PostV => s.1 ≤ ps.length ∧ s.2.2 = (ps.take s.1).filter (fun p => decide (p.k ≠ k))) (fun s => [(0, .slice a ps.length c), (3, ptr kb), (5, .slice s.2.1.1 s.2.2.length s.2.1.2), (6, int s.1)]) (fun s => [S, cl kb 34 (keyC k), sl 37 3 postC s.2.1.1 s.2.1.2 s.2.2] ++ R) (fun s => ps.length - s.1) (0, (none, 0), []) (⟨Nat.zero_le _, rfl⟩) (by repeat constructor) (by repeat constructor) (fun s hs => ?_)
    obtain ⟨i, ⟨ka, kc⟩, K⟩ := s
    obtain ⟨hi, hK⟩ := hs
    dsimp only at hi hK ⊢
    have hKl : K.length ≤ 1000 := by rw [hK]; refine Nat.le_trans (List.length_filter_le ..) ?_; rw [List.length_take]; omega
    refine Gs.seq ?_
    refine Gs.seq ?_
    refine Gs.reg ?_
    refine Go.Sl.L.pu rfl rfl trivial (pu_move rfl) ?_
    refine Go.Sl.L.pu rfl rfl trivial (pu_move rfl) ?_
    refine Go.Sl.L.pu rfl rfl trivial (pu_len Try.underlying30 rfl) ?_
    refine Go.Sl.L.pu rfl rfl trivial (pu_lt rfl rfl) ?_
    refine Go.Sl.L.nil ?_
    refine Gs.then_n ?_
    refine Gs.cond rfl (fun hc1 => ?_) (fun hc1 => ?_)
    · skip
      have hlt : i < ps.length := by have := of_decide_eq_true hc1; omega
      obtain ⟨p, hp⟩ : ∃ x, ps[i]? = some x := ⟨ps[i], by simp [hlt]⟩
      obtain rfl := ha (by rintro rfl; simp at hlt)
      refine Gs.skip ?_
      refine Gs.then_n ?_
      refine Gs.seq ?_
      refine Gs.block ?_
      refine Gs.seq ?_
      refine Gs.regD mixed (by kernel_rfl) ?_
      refine Rg.pu 0 rfl rfl (by kernel_rfl) trivial (pu_move rfl) ?_
      refine Rg.pu 1 rfl rfl (by kernel_rfl) trivial (pu_move rfl) ?_
      refine Rg.pu 2 rfl rfl (by kernel_rfl) trivial (pu_ia se_30 rfl rfl (by omega) (by omega)) ?_
      refine Rg.pu 3 rfl rfl (by kernel_rfl) trivial (pu_fa fa_37_0 rfl) ?_
      refine Rg.rd 4 rfl rfl (by kernel_rfl) trivial (rd_lda ag_34 rfl (Rdc.elp 2 (hS.1.h (by repeat constructor)) hp rfl rfl) rfl) ?_
      refine Rg.rd 5 rfl rfl (by kernel_rfl) trivial (rd_lda ag_34 rfl (Rdc.cl 2 (by repeat constructor) rfl) rfl) ?_
      refine Rg.pu 6 rfl rfl (by kernel_rfl) trivial (pu_neT (a := p.k) (b := k) cmp_34 (by decide) Try.eqGuardType34 rfl rfl) ?_
      refine Rg.end (by kernel_rfl) ?_
      refine Gs.then_n ?_
      refine Gs.cond rfl (fun hc2 => ?_) (fun hc2 => ?_)
      · skip
        have hin : K ++ [p] = (ps.take (i + 1)).filter (fun p => decide (p.k ≠ k)) := by rw [hK, List.take_add_one, hp, List.filter_append]; congr 1; show [p] = List.filter (fun p => decide (p.k ≠ k)) [p]; rw [List.filter_cons_of_pos (by simpa using hc2)]; rfl
        refine Gs.reg ?_
        refine Go.Sl.L.pu rfl rfl trivial (pu_move rfl) ?_
        refine Go.Sl.L.pu rfl rfl trivial (pu_move rfl) ?_
        refine Go.Sl.L.pu rfl rfl trivial (pu_move rfl) ?_
        refine Go.Sl.L.pu rfl rfl trivial (pu_ia se_30 rfl rfl (by omega) (by omega)) ?_
        refine Go.Sl.L.rd rfl rfl trivial (rd_lda ag_37 rfl (Rdc.el0 (hS.1.h (by repeat constructor)) hp rfl rfl) rfl) ?_
        refine Go.Sl.L.ac rfl rfl trivial (ac_lit encC_37 ([p]) et_30 ek_37 rfl (by repeat constructor) rfl rfl (by decide)) ?_
        rintro _ _ ⟨a28, rfl, rfl⟩
        refine Go.Sl.L.ac rfl rfl trivial (ac_append (xs := K) (ys := [p]) et_30 ek_37 rfl rfl (by repeat constructor) (SrcH.sl Try.underlying30 ek_37 (SlH.own (by repeat constructor))) (by first | omega | (simp; omega)) (by first | omega | (simp; omega))) ?_
        rintro _ _ ⟨a29, c29, rfl, rfl⟩
        refine Go.Sl.L.pu rfl rfl trivial (pu_assign rfl) ?_
        refine Go.Sl.L.nil ?_
        refine Gs.blk_n ?_
        refine Gs.then_n ?_
        refine Gs.reg ?_
        refine Go.Sl.L.pu rfl rfl trivial (pu_move rfl) ?_
        refine Go.Sl.L.pu rfl rfl trivial (by first | exact pu_addI rfl rfl rfl (by omega) (by omega) | exact pu_add rfl rfl) ?_
        refine Go.Sl.L.pu rfl rfl trivial (pu_assign rfl) ?_
        refine Go.Sl.L.nil ?_
        refine Gs.then_n ?_
        first | exact Gs.again1 (i + 1, (a29, c29), K ++ [p]) ⟨by show i + 1 ≤ ps.length; omega, hin⟩ (by show ps.length - (i + 1) < ps.length - i; omega) (by repeat constructor) (by repeat constructor) | exact Gs.again1 (i + 1, (ka, kc), K) ⟨by show i + 1 ≤ ps.length; omega, hin⟩ (by show ps.length - (i + 1) < ps.length - i; omega) (by repeat constructor) (by repeat constructor)
      · skip
        have hin : K = (ps.take (i + 1)).filter (fun p => decide (p.k ≠ k)) := by rw [hK, List.take_add_one, hp, List.filter_append, show List.filter (fun p => decide (p.k ≠ k)) (some p).toList = [] from (by show List.filter (fun p => decide (p.k ≠ k)) [p] = []; rw [List.filter_cons_of_neg (by simpa using hc2)]; rfl), List.append_nil]
        refine Gs.skip ?_
        refine Gs.blk_n ?_
        refine Gs.then_n ?_
        refine Gs.reg ?_
        refine Go.Sl.L.pu rfl rfl trivial (pu_move rfl) ?_
        refine Go.Sl.L.pu rfl rfl trivial (by first | exact pu_addI rfl rfl rfl (by omega) (by omega) | exact pu_add rfl rfl) ?_
        refine Go.Sl.L.pu rfl rfl trivial (pu_assign rfl) ?_
        refine Go.Sl.L.nil ?_
        refine Gs.then_n ?_
        first | exact Gs.again1 (i + 1, (a29, c29), K ++ [p]) ⟨by show i + 1 ≤ ps.length; omega, hin⟩ (by show ps.length - (i + 1) < ps.length - i; omega) (by repeat constructor) (by repeat constructor) | exact Gs.again1 (i + 1, (ka, kc), K) ⟨by show i + 1 ≤ ps.length; omega, hin⟩ (by show ps.length - (i + 1) < ps.length - i; omega) (by repeat constructor) (by repeat constructor)
    · skip
      have hge : i = ps.length := by have := of_decide_eq_false hc1; omega
      rw [hge, List.take_length, ← hd] at hK
      subst hK
      refine Gs.exit ?_
      refine Gs.then_x ?_
      refine Gs.then_x ?_
      refine Gs.blk_hit ?_
      refine Gs.then_n ?_
      refine Gs.seq ?_
      refine Gs.reg ?_
      refine Go.Sl.L.pu rfl rfl trivial (pu_move rfl) ?_
      refine Go.Sl.L.pu rfl rfl trivial (pu_assign rfl) ?_
      refine Go.Sl.L.nil ?_
      refine Gs.then_n ?_
      refine Gs.ret ?_
      exact Gs.fin1 Try.results25 rfl _ (⟨ka, kc, rfl, rfl⟩) (by repeat constructor)
theorem put10_spec {S : HProp} {a : Option Addr} {c : Nat} {ps : List PostV} {p : PostV} (hS : PRd S a ps) (hl : ps.length ≤ 1000) (hU : Srd S 1 intC p.t.a p.t.xs) (hul : p.t.xs.length ≤ 1000) :
    Ct Try.prog 24 [.slice a ps.length c, postV p] [S] (fun v hs => ∃ a' c', v = .slice a' (putV ps p).length c' ∧ hs = [S, sl 37 3 postC a' c' (putV ps p)]) := by
  have hdl := dropV_le ps p.k
  have hle := atP_le (dropV ps p.k) p.k
  refine Ct.intro Try.func24 rfl (by kernel_rfl) 46 Try.ntmps24 (Nat.le_of_ble_eq_true rfl) fun w0 R => ?_
  refine Gs.seq ?_
  refine Gs.reg ?_
  refine Go.Sl.L.ac rfl rfl trivial (ac_box rfl rfl) ?_
  rintro _ _ ⟨b3, rfl, rfl⟩
  refine Go.Sl.L.pu rfl rfl trivial (pu_assign rfl) ?_
  refine Go.Sl.L.nil ?_
  refine Gs.then_n ?_
  refine Gs.seq ?_
  refine Gs.seq ?_
  refine Gs.reg ?_
  refine Go.Sl.L.pu rfl rfl trivial (pu_move rfl) ?_
  refine Go.Sl.L.ac rfl rfl trivial (as_call (may10_spec hS hl) (by repeat constructor) (by repeat constructor)) ?_
  rintro _ _ ⟨_, ⟨rfl, rfl⟩, rfl⟩
  refine Go.Sl.L.pu rfl rfl trivial (pu_not rfl) ?_
  refine Go.Sl.L.nil ?_
  refine Gs.then_n ?_
  refine Gs.cond rfl (fun hc0 => ?_) (fun hc0 => ?_)
  · skip
    have hno : putV ps p = [] := if_neg (by rw [not_t hc0]; decide)
    refine Gs.seq ?_
    refine Gs.reg ?_
    refine Go.Sl.L.pu rfl rfl trivial (pu_assign rfl) ?_
    refine Go.Sl.L.nil ?_
    refine Gs.then_n ?_
    refine Gs.ret ?_
    refine Gs.then_r ?_
    refine Gs.slNil 37 3 postC ?_
    exact Gs.fin1 Try.results24 rfl _ (⟨none, 0, by rw [hno]; rfl, by rw [hno]⟩) (by repeat constructor)
  · skip
    have hmay := not_f hc0
    refine Gs.skip ?_
    refine Gs.then_n ?_
    refine Gs.seq ?_
    refine Gs.seq ?_
    refine Gs.reg ?_
    refine Go.Sl.L.rd rfl rfl trivial (rd_lda ag_37 rfl (Rdc.cl 3 (by repeat constructor) rfl) rfl) ?_
    refine Go.Sl.L.ac rfl rfl trivial (as_call (one_spec hU hul) (by repeat constructor) (by repeat constructor)) ?_
    rintro _ _ ⟨_, ⟨rfl, rfl⟩, rfl⟩
    refine Go.Sl.L.pu rfl rfl trivial (pu_not rfl) ?_
    refine Go.Sl.L.nil ?_
    refine Gs.then_n ?_
    refine Gs.cond rfl (fun hc1 => ?_) (fun hc1 => ?_)
    · skip
      have hno : putV ps p = ps := (if_pos hmay).trans (if_neg (by rw [not_t hc1]; decide))
      refine Gs.seq ?_
      refine Gs.reg ?_
      refine Go.Sl.L.pu rfl rfl trivial (pu_move rfl) ?_
      refine Go.Sl.L.ac rfl rfl trivial (ac_copy et_30 ek_37 rfl rfl (SrcH.sl (ys := ps) Try.underlying30 ek_37 (hS.1.h (by repeat constructor))) (by first | omega | (simp; omega)) (by first | omega | (simp; omega))) ?_
      rintro _ _ ⟨a14, c14, rfl, rfl⟩
      refine Go.Sl.L.pu rfl rfl trivial (pu_assign rfl) ?_
      refine Go.Sl.L.nil ?_
      refine Gs.then_n ?_
      refine Gs.ret ?_
      refine Gs.then_r ?_
      exact Gs.fin1 Try.results24 rfl _ (⟨a14, c14, by rw [hno], by rw [hno]⟩) (by repeat constructor)
    · skip
      have hyes : putV ps p = (dropV ps p.k).take (atP (dropV ps p.k) p.k) ++ [p] ++ (dropV ps p.k).drop (atP (dropV ps p.k) p.k) := (if_pos hmay).trans (if_pos (not_f hc1))
      refine Gs.skip ?_
      refine Gs.then_n ?_
      refine Gs.seq ?_
      refine Gs.reg ?_
      refine Go.Sl.L.pu rfl rfl trivial (pu_move rfl) ?_
      refine Go.Sl.L.pu rfl rfl trivial (pu_fa fa_37_0 rfl) ?_
      refine Go.Sl.L.rd rfl rfl trivial (rd_lda ag_34 rfl (Rdc.cl 2 (by repeat constructor) rfl) rfl) ?_
      refine Go.Sl.L.ac rfl rfl trivial (as_call (drop10_spec hS hl p.k) (by repeat constructor) (by repeat constructor)) ?_
      rintro _ _ ⟨_, ⟨oa, oc, rfl, rfl⟩, rfl⟩
      refine Go.Sl.L.pu rfl rfl trivial (pu_assign rfl) ?_
      refine Go.Sl.L.nil ?_
      refine Gs.slAddr (xs := dropV ps p.k) (SlH.own (E := 37) (enc := postC) (by repeat constructor)) fun ab ao ha => Gs.slLen (xs := dropV ps p.k) (by repeat constructor) fun hlc => ?_
      refine Gs.then_n ?_
      refine Gs.seq ?_
      refine Gs.reg ?_
      refine Go.Sl.L.pu rfl rfl trivial (pu_assign rfl) ?_
      refine Go.Sl.L.nil ?_
      refine Gs.then_n ?_
      refine Gs.seq ?_
      refine Gs.block ?_
      refine Gs.loop1 (fun i : Nat => i ≤ atP (dropV ps p.k) p.k) (fun i => [(3, ptr b3), (5, .slice oa (dropV ps p.k).length oc), (6, int i)]) (fun i => [S, cl b3 37 (postC p), sl 37 3 postC oa oc (dropV ps p.k)] ++ R) (fun i => (dropV ps p.k).length - i) 0 (Nat.zero_le _) (by repeat constructor) (by repeat constructor) (fun i hi => ?_)
      refine Gs.seq ?_
      refine Gs.seq ?_
      refine Gs.regD mixed (by kernel_rfl) ?_
      refine Rg.pu 0 rfl rfl (by kernel_rfl) trivial (pu_move rfl) ?_
      refine Rg.pu 1 rfl rfl (by kernel_rfl) trivial (pu_move rfl) ?_
      refine Rg.pu 2 rfl rfl (by kernel_rfl) trivial (pu_len Try.underlying30 rfl) ?_
      refine Rg.pu 3 rfl rfl (by kernel_rfl) trivial (pu_lt rfl rfl) ?_
      refine Rg.puB 4 rfl rfl (by kernel_rfl) trivial (pu_move rfl) (fun hg4 => ?_) (fun hg4 => ?_)
      · skip
        have hlt : i < (dropV ps p.k).length := by have := of_decide_eq_true hg4; omega
        obtain ⟨x, hx⟩ : ∃ x, (dropV ps p.k)[i]? = some x := ⟨(dropV ps p.k)[i], by simp [hlt]⟩
        have hst := atP_step hi hx
        obtain rfl := ha (by intro e; rw [e] at hx; simp at hx)
        refine Rg.pu 5 rfl rfl (by kernel_rfl) ⟨_, rfl, rfl⟩ (pu_move rfl) ?_
        refine Rg.pu 6 rfl rfl (by kernel_rfl) ⟨_, rfl, rfl⟩ (pu_move rfl) ?_
        refine Rg.pu 7 rfl rfl (by kernel_rfl) ⟨_, rfl, rfl⟩ (pu_ia se_30 rfl rfl (by omega) (by omega)) ?_
        refine Rg.pu 8 rfl rfl (by kernel_rfl) ⟨_, rfl, rfl⟩ (pu_fa fa_37_0 rfl) ?_
        refine Rg.rd 9 rfl rfl (by kernel_rfl) ⟨_, rfl, rfl⟩ (rd_lda ag_34 rfl (Rdc.elp 2 (SlH.own (xs := dropV ps p.k) (E := 37) (c := oc) (by repeat constructor)) hx rfl rfl) rfl) ?_
        refine Rg.pu 10 rfl rfl (by kernel_rfl) ⟨_, rfl, rfl⟩ (pu_fa fa_37_0 rfl) ?_
        refine Rg.rd 11 rfl rfl (by kernel_rfl) ⟨_, rfl, rfl⟩ (rd_lda ag_34 rfl (Rdc.cl 2 (by repeat constructor) rfl) rfl) ?_
        refine Rg.one (by kernel_rfl) (Stp.ac 12 rfl rfl (by kernel_rfl) ⟨_, rfl, rfl⟩ (as_call (before4_spec x.k p.k) (by repeat constructor) (by repeat constructor))  ?_)
        rintro _ _ ⟨_, ⟨rfl, rfl⟩, rfl⟩
        refine Rg.pu 13 rfl rfl (by kernel_rfl) trivial (by first | exact pu_pick_t rfl rfl | exact pu_pick_f rfl rfl) ?_
        refine Rg.end (by kernel_rfl) ?_
        refine Gs.then_n ?_
        refine Gs.cond rfl (fun hc2 => ?_) (fun hc2 => ?_)
        · skip
          rw [if_pos hc2] at hst
          refine Gs.skip ?_
          refine Gs.then_n ?_
          refine Gs.block ?_
          refine Gs.reg ?_
          refine Go.Sl.L.pu rfl rfl trivial (pu_move rfl) ?_
          refine Go.Sl.L.pu rfl rfl trivial (by first | exact pu_addI rfl rfl rfl (by omega) (by omega) | exact pu_add rfl rfl) ?_
          refine Go.Sl.L.pu rfl rfl trivial (pu_assign rfl) ?_
          refine Go.Sl.L.nil ?_
          refine Gs.blk_n ?_
          refine Gs.then_n ?_
          exact Gs.again1 (i + 1) (by omega) (by omega) (by repeat constructor) (by repeat constructor)
        · skip
          rw [if_neg (by rw [hc2]; decide)] at hst
          have he := hst
          refine Gs.exit ?_
          refine Gs.then_x ?_
          refine Gs.then_x ?_
          refine Gs.blk_hit ?_
          refine Gs.then_n ?_
          refine Gs.seq ?_
          subst he
          refine Gs.regD mixed (by kernel_rfl) ?_
          refine Rg.pu 0 rfl rfl (by kernel_rfl) trivial (pu_move rfl) ?_
          refine Rg.pu 1 rfl rfl (by kernel_rfl) trivial (pu_move rfl) ?_
          refine Rg.pu 2 rfl rfl (by kernel_rfl) trivial (pu_sliceH et_30 rfl rfl (by omega) (by omega)) ?_
          refine Rg.rd 4 rfl rfl (by kernel_rfl) trivial (rd_lda ag_37 rfl (Rdc.cl 3 (by repeat constructor) rfl) rfl) ?_
          refine Rg.pu 7 rfl rfl (by kernel_rfl) trivial (pu_move rfl) ?_
          refine Rg.pu 8 rfl rfl (by kernel_rfl) trivial (pu_move rfl) ?_
          refine Rg.pu 9 rfl rfl (by kernel_rfl) trivial (pu_sliceL et_30 rfl rfl (by omega) (by omega)) ?_
          refine Rg.two (by kernel_rfl) (Stp.acK 3 rfl rfl (by kernel_rfl) trivial (ac_copy et_30 ek_37 rfl rfl (SrcH.sl' (ys := (dropV ps p.k).take (atP (dropV ps p.k) p.k)) Try.underlying30 ek_37 (by simp <;> omega) (SlH.cutH (SlH.own (xs := dropV ps p.k) (E := 37) (c := oc) (by repeat constructor)) _ _ hlc)) (by first | omega | (simp; omega)) (by first | omega | (simp; omega))) (by rintro _ _ ⟨a38, c38, rfl, rfl⟩ w s; first | exact s.drop | exact s | exact Ent.sat (by repeat constructor) s) ?_) (Stp.ac 5 rfl rfl (by kernel_rfl) trivial (ac_lit encC_37 ([p]) et_30 ek_37 rfl (by repeat constructor) rfl rfl (by decide))  ?_)
          · skip
            rintro _ _ ⟨a38, c38, rfl, rfl⟩
            refine Rg.one (by kernel_rfl) (Stp.ac 5 rfl rfl (by kernel_rfl) trivial (ac_lit encC_37 ([p]) et_30 ek_37 rfl (by repeat constructor) rfl rfl (by decide))  ?_)
            rintro _ _ ⟨a40, rfl, rfl⟩
            refine Rg.one (by kernel_rfl) (Stp.ac 6 rfl rfl (by kernel_rfl) trivial (ac_append (ys := [p]) et_30 ek_37 rfl rfl (by repeat constructor) (SrcH.sl Try.underlying30 ek_37 (SlH.own (by repeat constructor))) (by first | omega | (simp; omega)) (by first | omega | (simp; omega)))  ?_)
            rintro _ _ ⟨a41, c41, rfl, rfl⟩
            refine Rg.one (by kernel_rfl) (Stp.ac 10 rfl rfl (by kernel_rfl) trivial (ac_append et_30 ek_37 rfl rfl (by repeat constructor) (SrcH.sl' (ys := (dropV ps p.k).drop (atP (dropV ps p.k) p.k)) Try.underlying30 ek_37 (by simp <;> omega) (SlH.cutL (SlH.own (xs := dropV ps p.k) (E := 37) (c := oc) (by repeat constructor)) _ _ hlc)) (by first | omega | (simp; omega)) (by first | omega | (simp; omega)))  ?_)
            rintro _ _ ⟨a45, c45, rfl, rfl⟩
            refine Rg.pu 11 rfl rfl (by kernel_rfl) trivial (pu_assign rfl) ?_
            refine Rg.end (by kernel_rfl) ?_
            refine Gs.then_n ?_
            refine Gs.ret ?_
            exact Gs.fin1 Try.results24 rfl _ (⟨_, _, by rw [hyes], by rw [hyes]⟩) (by repeat constructor)
          · skip
            rintro _ _ ⟨a40, rfl, rfl⟩
            refine Rg.one (by kernel_rfl) (Stp.ac 3 rfl rfl (by kernel_rfl) trivial (ac_copy et_30 ek_37 rfl rfl (SrcH.sl' (ys := (dropV ps p.k).take (atP (dropV ps p.k) p.k)) Try.underlying30 ek_37 (by simp <;> omega) (SlH.cutH (SlH.own (xs := dropV ps p.k) (E := 37) (c := oc) (by repeat constructor)) _ _ hlc)) (by first | omega | (simp; omega)) (by first | omega | (simp; omega)))  ?_)
            rintro _ _ ⟨a38, c38, rfl, rfl⟩
            refine Rg.one (by kernel_rfl) (Stp.ac 6 rfl rfl (by kernel_rfl) trivial (ac_append (ys := [p]) et_30 ek_37 rfl rfl (by repeat constructor) (SrcH.sl Try.underlying30 ek_37 (SlH.own (by repeat constructor))) (by first | omega | (simp; omega)) (by first | omega | (simp; omega)))  ?_)
            rintro _ _ ⟨a41, c41, rfl, rfl⟩
            refine Rg.one (by kernel_rfl) (Stp.ac 10 rfl rfl (by kernel_rfl) trivial (ac_append et_30 ek_37 rfl rfl (by repeat constructor) (SrcH.sl' (ys := (dropV ps p.k).drop (atP (dropV ps p.k) p.k)) Try.underlying30 ek_37 (by simp <;> omega) (SlH.cutL (SlH.own (xs := dropV ps p.k) (E := 37) (c := oc) (by repeat constructor)) _ _ hlc)) (by first | omega | (simp; omega)) (by first | omega | (simp; omega)))  ?_)
            rintro _ _ ⟨a45, c45, rfl, rfl⟩
            refine Rg.pu 11 rfl rfl (by kernel_rfl) trivial (pu_assign rfl) ?_
            refine Rg.end (by kernel_rfl) ?_
            refine Gs.then_n ?_
            refine Gs.ret ?_
            exact Gs.fin1 Try.results24 rfl _ (⟨_, _, by rw [hyes], by rw [hyes]⟩) (by repeat constructor)
      · skip
        have he : i = atP (dropV ps p.k) p.k := by have := of_decide_eq_false hg4; omega
        refine Rg.off 5 rfl rfl (by kernel_rfl) rfl rfl rfl rfl ?_
        refine Rg.off 6 rfl rfl (by kernel_rfl) rfl rfl rfl rfl ?_
        refine Rg.off 7 rfl rfl (by kernel_rfl) rfl rfl rfl rfl ?_
        refine Rg.off 8 rfl rfl (by kernel_rfl) rfl rfl rfl rfl ?_
        refine Rg.off 9 rfl rfl (by kernel_rfl) rfl rfl rfl rfl ?_
        refine Rg.off 10 rfl rfl (by kernel_rfl) rfl rfl rfl rfl ?_
        refine Rg.off 11 rfl rfl (by kernel_rfl) rfl rfl rfl rfl ?_
        refine Rg.off 12 rfl rfl (by kernel_rfl) rfl rfl rfl rfl ?_
        refine Rg.pu 13 rfl rfl (by kernel_rfl) trivial (by first | exact pu_pick_t rfl rfl | exact pu_pick_f rfl rfl) ?_
        refine Rg.end (by kernel_rfl) ?_
        refine Gs.then_n ?_
        refine Gs.cond_f rfl ?_
        refine Gs.exit ?_
        refine Gs.then_x ?_
        refine Gs.then_x ?_
        refine Gs.blk_hit ?_
        refine Gs.then_n ?_
        refine Gs.seq ?_
        subst he
        refine Gs.regD mixed (by kernel_rfl) ?_
        refine Rg.pu 0 rfl rfl (by kernel_rfl) trivial (pu_move rfl) ?_
        refine Rg.pu 1 rfl rfl (by kernel_rfl) trivial (pu_move rfl) ?_
        refine Rg.pu 2 rfl rfl (by kernel_rfl) trivial (pu_sliceH et_30 rfl rfl (by omega) (by omega)) ?_
        refine Rg.rd 4 rfl rfl (by kernel_rfl) trivial (rd_lda ag_37 rfl (Rdc.cl 3 (by repeat constructor) rfl) rfl) ?_
        refine Rg.pu 7 rfl rfl (by kernel_rfl) trivial (pu_move rfl) ?_
        refine Rg.pu 8 rfl rfl (by kernel_rfl) trivial (pu_move rfl) ?_
        refine Rg.pu 9 rfl rfl (by kernel_rfl) trivial (pu_sliceL et_30 rfl rfl (by omega) (by omega)) ?_
        refine Rg.two (by kernel_rfl) (Stp.acK 3 rfl rfl (by kernel_rfl) trivial (ac_copy et_30 ek_37 rfl rfl (SrcH.sl' (ys := (dropV ps p.k).take (atP (dropV ps p.k) p.k)) Try.underlying30 ek_37 (by simp <;> omega) (SlH.cutH (SlH.own (xs := dropV ps p.k) (E := 37) (c := oc) (by repeat constructor)) _ _ hlc)) (by first | omega | (simp; omega)) (by first | omega | (simp; omega))) (by rintro _ _ ⟨a38, c38, rfl, rfl⟩ w s; first | exact s.drop | exact s | exact Ent.sat (by repeat constructor) s) ?_) (Stp.ac 5 rfl rfl (by kernel_rfl) trivial (ac_lit encC_37 ([p]) et_30 ek_37 rfl (by repeat constructor) rfl rfl (by decide))  ?_)
        · skip
          rintro _ _ ⟨a38, c38, rfl, rfl⟩
          refine Rg.one (by kernel_rfl) (Stp.ac 5 rfl rfl (by kernel_rfl) trivial (ac_lit encC_37 ([p]) et_30 ek_37 rfl (by repeat constructor) rfl rfl (by decide))  ?_)
          rintro _ _ ⟨a40, rfl, rfl⟩
          refine Rg.one (by kernel_rfl) (Stp.ac 6 rfl rfl (by kernel_rfl) trivial (ac_append (ys := [p]) et_30 ek_37 rfl rfl (by repeat constructor) (SrcH.sl Try.underlying30 ek_37 (SlH.own (by repeat constructor))) (by first | omega | (simp; omega)) (by first | omega | (simp; omega)))  ?_)
          rintro _ _ ⟨a41, c41, rfl, rfl⟩
          refine Rg.one (by kernel_rfl) (Stp.ac 10 rfl rfl (by kernel_rfl) trivial (ac_append et_30 ek_37 rfl rfl (by repeat constructor) (SrcH.sl' (ys := (dropV ps p.k).drop (atP (dropV ps p.k) p.k)) Try.underlying30 ek_37 (by simp <;> omega) (SlH.cutL (SlH.own (xs := dropV ps p.k) (E := 37) (c := oc) (by repeat constructor)) _ _ hlc)) (by first | omega | (simp; omega)) (by first | omega | (simp; omega)))  ?_)
          rintro _ _ ⟨a45, c45, rfl, rfl⟩
          refine Rg.pu 11 rfl rfl (by kernel_rfl) trivial (pu_assign rfl) ?_
          refine Rg.end (by kernel_rfl) ?_
          refine Gs.then_n ?_
          refine Gs.ret ?_
          exact Gs.fin1 Try.results24 rfl _ (⟨_, _, by rw [hyes], by rw [hyes]⟩) (by repeat constructor)
        · skip
          rintro _ _ ⟨a40, rfl, rfl⟩
          refine Rg.one (by kernel_rfl) (Stp.ac 3 rfl rfl (by kernel_rfl) trivial (ac_copy et_30 ek_37 rfl rfl (SrcH.sl' (ys := (dropV ps p.k).take (atP (dropV ps p.k) p.k)) Try.underlying30 ek_37 (by simp <;> omega) (SlH.cutH (SlH.own (xs := dropV ps p.k) (E := 37) (c := oc) (by repeat constructor)) _ _ hlc)) (by first | omega | (simp; omega)) (by first | omega | (simp; omega)))  ?_)
          rintro _ _ ⟨a38, c38, rfl, rfl⟩
          refine Rg.one (by kernel_rfl) (Stp.ac 6 rfl rfl (by kernel_rfl) trivial (ac_append (ys := [p]) et_30 ek_37 rfl rfl (by repeat constructor) (SrcH.sl Try.underlying30 ek_37 (SlH.own (by repeat constructor))) (by first | omega | (simp; omega)) (by first | omega | (simp; omega)))  ?_)
          rintro _ _ ⟨a41, c41, rfl, rfl⟩
          refine Rg.one (by kernel_rfl) (Stp.ac 10 rfl rfl (by kernel_rfl) trivial (ac_append et_30 ek_37 rfl rfl (by repeat constructor) (SrcH.sl' (ys := (dropV ps p.k).drop (atP (dropV ps p.k) p.k)) Try.underlying30 ek_37 (by simp <;> omega) (SlH.cutL (SlH.own (xs := dropV ps p.k) (E := 37) (c := oc) (by repeat constructor)) _ _ hlc)) (by first | omega | (simp; omega)) (by first | omega | (simp; omega)))  ?_)
          rintro _ _ ⟨a45, c45, rfl, rfl⟩
          refine Rg.pu 11 rfl rfl (by kernel_rfl) trivial (pu_assign rfl) ?_
          refine Rg.end (by kernel_rfl) ?_
          refine Gs.then_n ?_
          refine Gs.ret ?_
          exact Gs.fin1 Try.results24 rfl _ (⟨_, _, by rw [hyes], by rw [hyes]⟩) (by repeat constructor)
end Go.Proofs.Ytonilkceolbkmaa
