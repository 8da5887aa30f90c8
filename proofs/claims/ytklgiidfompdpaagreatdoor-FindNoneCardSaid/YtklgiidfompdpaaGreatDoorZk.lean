/- What the closing leans on: part 11. -/
import Derived.Test.YtklgiidfompdpaaGreatDoorZj
import Derived.Test.YtklgiidfompdpaaGreatDoorZf
import Derived.Test.YtklgiidfompdpaaGreatDoorZi
namespace Go.Proofs.YtklgiidfompdpaaGreatDoor
open Go Go.Sl Go.Gv Go.Po
set_option maxRecDepth 100000
def porV (ls : List (SlV PostV)) : List Key := if mayAll (ls.map fun l => l.xs.map PostV.p) then dd (sortM (keysL ls)) else []
theorem por_spec {S : HProp} {a : Option Addr} {c : Nat} {ls : List (SlV PostV)} (hS : LRd S a ls) (hl : ls.length ≤ 900) (hk : (keysL ls).length ≤ 90000) :
    Ct Tryz.prog 132 [.slice a ls.length c] [S] (fun v hs => ∃ a' c', v = .slice a' (porV ls).length c' ∧ hs = [S, sl 28 2 keyC a' c' (porV ls)]) := by
  refine Ct.intro Tryz.func132 rfl (by kernel_rfl) 33 Tryz.ntmps132 (Nat.le_of_ble_eq_true rfl) fun w0 R => ?_
  refine Gs.slAddr (hS.1.h (by repeat constructor)) fun lb lo hla => ?_
  refine Gs.seq ?_
  refine Gs.reg ?_
  refine Go.Sl.L.pu rfl rfl trivial (pu_assign rfl) ?_
  refine Go.Sl.L.nil ?_
  refine Gs.then_n ?_
  refine Gs.seq ?_
  refine Gs.seq ?_
  refine Gs.reg ?_
  refine Go.Sl.L.pu rfl rfl trivial (pu_move rfl) ?_
  refine Go.Sl.L.ac rfl rfl trivial (as_call (odd_spec hS (by omega)) (by repeat constructor) (by repeat constructor)) ?_
  rintro _ _ ⟨_, ⟨rfl, rfl⟩, rfl⟩
  refine Go.Sl.L.nil ?_
  refine Gs.then_n ?_
  refine Gs.cond rfl (fun hc0 => ?_) (fun hc0 => ?_)
  · skip
    have hno : porV ls = [] := if_neg (by intro h; have h2 : mayAll (plain2 ls) = true := h; rw [not_t hc0] at h2; cases h2)
    refine Gs.seq ?_
    refine Gs.reg ?_
    refine Go.Sl.L.pu rfl rfl trivial (pu_assign rfl) ?_
    refine Go.Sl.L.nil ?_
    refine Gs.then_n ?_
    refine Gs.ret ?_
    refine Gs.then_r ?_
    refine Gs.slNil 28 2 keyC ?_
    exact Gs.fin1 Tryz.results132 rfl _ (⟨none, 0, by rw [hno]; rfl, by rw [hno]⟩) (by repeat constructor)
  · skip
    have hmay : mayAll (plain2 ls) = true := not_f hc0
    refine Gs.skip ?_
    refine Gs.then_n ?_
    refine Gs.seq ?_
    refine Gs.reg ?_
    refine Go.Sl.L.pu rfl rfl trivial (pu_assign rfl) ?_
    refine Go.Sl.L.nil ?_
    refine Gs.slNil 28 2 keyC ?_
    refine Gs.then_n ?_
    refine Gs.seq ?_
    refine Gs.seq ?_
    refine Gs.reg ?_
    refine Go.Sl.L.pu rfl rfl trivial (pu_move rfl) ?_
    refine Go.Sl.L.pu rfl rfl trivial (pu_len Tryz.underlying120 rfl) ?_
    refine Go.Sl.L.pu rfl rfl trivial (pu_move rfl) ?_
    refine Go.Sl.L.nil ?_
    refine Gs.then_n ?_
    refine Gs.block ?_
    refine Gs.loop1 (fun s : Nat × (Option Addr × Nat) × List Key => s.1 ≤ ls.length ∧ s.2.2 = keysL (ls.take s.1)) (fun s => [(3, .slice s.2.1.1 s.2.2.length s.2.1.2), (10, .slice a ls.length c), (11, int ls.length), (12, int s.1)]) (fun s => [S, sl 28 2 keyC s.2.1.1 s.2.1.2 s.2.2] ++ R) (fun s => ls.length - s.1) (0, (none, 0), []) (⟨Nat.zero_le _, rfl⟩) (by repeat constructor) (by repeat constructor) (fun s hs => ?_)
    obtain ⟨i, ⟨ka, kc⟩, K⟩ := s
    obtain ⟨hi, hK⟩ := hs
    dsimp only at hi hK ⊢
    refine Gs.seq ?_
    refine Gs.reg ?_
    refine Go.Sl.L.pu rfl rfl trivial (pu_lt rfl rfl) ?_
    refine Go.Sl.L.nil ?_
    refine Gs.then_n ?_
    refine Gs.seq ?_
    refine Gs.cond rfl (fun hc1 => ?_) (fun hc1 => ?_)
    · skip
      have hlt : i < ls.length := by have := of_decide_eq_true hc1; omega
      obtain ⟨⟨ya, yx, yc⟩, hy⟩ : ∃ x, ls[i]? = some x := ⟨ls[i], by simp [hlt]⟩
      obtain rfl := hla (by rintro rfl; simp at hlt)
      have hyS : PRd S ya yx ∧ yx.length ≤ 1000 := hS.2 _ (List.mem_of_getElem? hy)
      have hkt : keysL (ls.take (i + 1)) = keysL (ls.take i) ++ yx.map PostV.k := keysL_take hy
      have hkl := keysL_le ls (i + 1)
      rw [hkt, List.length_append, List.length_map] at hkl
      refine Gs.slAddr (hyS.1.1.h (by repeat constructor)) fun yb yo hya => ?_
      refine Gs.skip ?_
      refine Gs.then_n ?_
      refine Gs.seq ?_
      refine Gs.block ?_
      refine Gs.seq ?_
      refine Gs.reg ?_
      refine Go.Sl.L.pu rfl rfl trivial (pu_ia se_120 rfl rfl (by omega) (by omega)) ?_
      refine Go.Sl.L.rd rfl rfl trivial (rd_ld na_94 rfl (Rdc.el0 (enc := slC) (sz := 1) (hS.1.h (by repeat constructor)) hy rfl rfl)) ?_
      refine Go.Sl.L.pu rfl rfl trivial (pu_assign rfl) ?_
      refine Go.Sl.L.nil ?_
      refine Gs.then_n ?_
      refine Gs.seq ?_
      refine Gs.reg ?_
      refine Go.Sl.L.pu rfl rfl trivial (pu_move rfl) ?_
      refine Go.Sl.L.pu rfl rfl trivial (pu_len Tryz.underlying94 rfl) ?_
      refine Go.Sl.L.pu rfl rfl trivial (pu_move rfl) ?_
      refine Go.Sl.L.nil ?_
      refine Gs.then_n ?_
      refine Gs.block ?_
      refine Gs.loop1 (fun s : Nat × (Option Addr × Nat) × List Key => s.1 ≤ yx.length ∧ s.2.2 = keysL (ls.take i) ++ (yx.take s.1).map PostV.k) (fun s => [(3, .slice s.2.1.1 s.2.2.length s.2.1.2), (10, .slice (some ⟨lb, lo, none⟩) ls.length c), (11, int ls.length), (12, int i), (16, .slice ya yx.length yc), (17, int yx.length), (18, int s.1)]) (fun s => [S, sl 28 2 keyC s.2.1.1 s.2.1.2 s.2.2] ++ R) (fun s => yx.length - s.1) (0, (ka, kc), K) (⟨Nat.zero_le _, by show K = _; rw [hK]; simp⟩) (by repeat constructor) (by repeat constructor) (fun s hs1 => ?_)
      obtain ⟨j, ⟨ka, kc⟩, K⟩ := s
      obtain ⟨hj, hK⟩ := hs1
      dsimp only at hj hK ⊢
      have hKl : K.length ≤ 90000 := by rw [hK, List.length_append, List.length_map, List.length_take]; omega
      refine Gs.seq ?_
      refine Gs.reg ?_
      refine Go.Sl.L.pu rfl rfl trivial (pu_lt rfl rfl) ?_
      refine Go.Sl.L.nil ?_
      refine Gs.then_n ?_
      refine Gs.seq ?_
      refine Gs.cond rfl (fun hc2 => ?_) (fun hc2 => ?_)
      · skip
        have hlt1 : j < yx.length := by have := of_decide_eq_true hc2; omega
        obtain ⟨p, hp⟩ : ∃ x, yx[j]? = some x := ⟨yx[j], by simp [hlt1]⟩
        obtain rfl := hya (by intro e; rw [e] at hp; simp at hp)
        have hin : K ++ [p.k] = keysL (ls.take i) ++ (yx.take (j + 1)).map PostV.k := by rw [hK, mapk_take hp, List.append_assoc]
        refine Gs.skip ?_
        refine Gs.then_n ?_
        refine Gs.seq ?_
        refine Gs.block ?_
        refine Gs.seq ?_
        refine Gs.reg ?_
        refine Go.Sl.L.pu rfl rfl trivial (pu_ia se_94 rfl rfl (by omega) (by omega)) ?_
        refine Go.Sl.L.rd rfl rfl trivial (rd_lda ag_106 rfl (Rdc.el0 (hyS.1.1.h (by repeat constructor)) hp rfl rfl) rfl) ?_
        refine Go.Sl.L.ac rfl rfl trivial (ac_alloc zv_106 rfl) ?_
        rintro _ _ ⟨pb, rfl, rfl⟩
        refine Go.Sl.L.ac0 rfl trivial (ac_st sz_106 rfl rfl (by repeat constructor) rfl rfl rfl rfl) ?_
        rintro _ _ rfl
        refine Go.Sl.L.nil ?_
        refine Gs.then_n ?_
        refine Gs.reg ?_
        refine Go.Sl.L.pu rfl rfl trivial (pu_move rfl) ?_
        refine Go.Sl.L.pu rfl rfl trivial (pu_fa fa_106_0 rfl) ?_
        refine Go.Sl.L.rd rfl rfl trivial (rd_lda ag_28 rfl (Rdc.cl 2 (by repeat constructor) rfl) rfl) ?_
        refine Go.Sl.L.ac rfl rfl trivial (ac_lit encC_28 ([p.k]) et_48 ek_28 rfl (by repeat constructor) rfl rfl (by decide)) ?_
        rintro _ _ ⟨a25, rfl, rfl⟩
        refine Go.Sl.L.ac rfl rfl trivial (ac_append (xs := K) (ys := [p.k]) et_48 ek_28 rfl rfl (by repeat constructor) (SrcH.sl Tryz.underlying48 ek_28 (SlH.own (by repeat constructor))) (by first | omega | (simp; omega)) (by first | omega | (simp; omega))) ?_
        rintro _ _ ⟨a26, c26, rfl, rfl⟩
        refine Go.Sl.L.pu rfl rfl trivial (pu_assign rfl) ?_
        refine Go.Sl.L.nil ?_
        refine Gs.blk_n ?_
        refine Gs.then_n ?_
        refine Gs.reg ?_
        refine Go.Sl.L.pu rfl rfl trivial (by first | exact pu_addI rfl rfl rfl (by omega) (by omega) | exact pu_add rfl rfl) ?_
        refine Go.Sl.L.pu rfl rfl trivial (pu_move rfl) ?_
        refine Go.Sl.L.nil ?_
        refine Gs.then_n ?_
        exact Gs.again1 (j + 1, (a26, c26), K ++ [p.k]) ⟨by show j + 1 ≤ yx.length; omega, hin⟩ (by show yx.length - (j + 1) < yx.length - j; omega) (by repeat constructor) (by repeat constructor)
      · skip
        have hge1 : j = yx.length := by have := of_decide_eq_false hc2; omega
        rw [hge1, List.take_length, ← hkt] at hK
        refine Gs.exit ?_
        refine Gs.then_x ?_
        refine Gs.then_x ?_
        refine Gs.blk_hit ?_
        refine Gs.blk_n ?_
        refine Gs.then_n ?_
        refine Gs.reg ?_
        refine Go.Sl.L.pu rfl rfl trivial (by first | exact pu_addI rfl rfl rfl (by omega) (by omega) | exact pu_add rfl rfl) ?_
        refine Go.Sl.L.pu rfl rfl trivial (pu_move rfl) ?_
        refine Go.Sl.L.nil ?_
        refine Gs.then_n ?_
        exact Gs.again1 (i + 1, (ka, kc), K) ⟨by show i + 1 ≤ ls.length; omega, hK⟩ (by show ls.length - (i + 1) < ls.length - i; omega) (by repeat constructor) (by repeat constructor)
    · skip
      have hge : i = ls.length := by have := of_decide_eq_false hc1; omega
      rw [hge, List.take_length] at hK
      subst hK
      refine Gs.exit ?_
      refine Gs.then_x ?_
      refine Gs.then_x ?_
      refine Gs.blk_hit ?_
      refine Gs.then_n ?_
      refine Gs.seq ?_
      refine Gs.reg ?_
      refine Go.Sl.L.pu rfl rfl trivial (pu_move rfl) ?_
      refine Go.Sl.L.ac rfl rfl trivial (as_call (sortO_spec ka kc (keysL ls) (by omega)) (by repeat constructor) (by repeat constructor)) ?_
      rintro _ _ ⟨_, ⟨rfl, rfl⟩, rfl⟩
      refine Go.Sl.L.nil ?_
      refine Gs.then_n ?_
      refine Gs.seq ?_
      rw [show (keysL ls).length = (sortM (keysL ls)).length from sortM_length.symm]
      refine Gs.reg ?_
      refine Go.Sl.L.pu rfl rfl trivial (pu_move rfl) ?_
      refine Go.Sl.L.ac rfl rfl trivial (as_call (compact_spec (a := ka) (c := kc) (xs := sortM (keysL ls)) (by rw [sortM_length]; omega)) (by repeat constructor) (by repeat constructor)) ?_
      rintro _ _ ⟨_, ⟨rfl, rfl⟩, rfl⟩
      refine Go.Sl.L.pu rfl rfl trivial (pu_assign rfl) ?_
      refine Go.Sl.L.nil ?_
      refine Gs.then_n ?_
      refine Gs.ret ?_
      exact Gs.fin1 Tryz.results132 rfl _ (⟨ka, kc, by rw [show porV ls = dd (sortM (keysL ls)) from if_pos hmay], by rw [show porV ls = dd (sortM (keysL ls)) from if_pos hmay]⟩) (by repeat constructor)
end Go.Proofs.YtklgiidfompdpaaGreatDoor
namespace Go.Po
open Go Go.Sl Go.Gv
abbrev AscK (l : List Key) : Prop := l.Pairwise fun a b => before a b = true
theorem asc_ext : ∀ {l m : List Key}, AscK l → AscK m → (∀ k, k ∈ l ↔ k ∈ m) → l = m
  | [], [], _, _, _ => rfl
  | [], y :: m, _, _, h => absurd ((h y).2 (by simp)) (by simp)
  | x :: l, [], _, _, h => absurd ((h x).1 (by simp)) (by simp)
  | x :: l, y :: m, hl, hm, h => by
    have hl' := List.pairwise_cons.1 hl
    have hm' := List.pairwise_cons.1 hm
    have e : x = y := by
      rcases List.mem_cons.1 ((h x).1 (by simp)) with e | hx
      · exact e
      rcases List.mem_cons.1 ((h y).2 (by simp)) with e | hy
      · exact e.symm
      have h1 := hm'.1 x hx
      have h2 := hl'.1 y hy
      rw [before_asymm h1] at h2; cases h2
    subst e
    congr 1
    refine asc_ext hl'.2 hm'.2 fun k => ⟨fun hk => ?_, fun hk => ?_⟩
    · rcases List.mem_cons.1 ((h k).1 (by simp [hk])) with e | hx
      · subst e; have := hl'.1 k hk; rw [before_irr] at this; cases this
      · exact hx
    · rcases List.mem_cons.1 ((h k).2 (by simp [hk])) with e | hx
      · subst e; have := hm'.1 k hk; rw [before_irr] at this; cases this
      · exact hx
theorem asc_filter {l : List Key} (h : AscK l) (f : Key → Bool) : AscK (l.filter f) := List.Pairwise.filter _ h
theorem dd_mem : ∀ (l : List Key) (k : Key), k ∈ dd l ↔ k ∈ l
  | [], _ => Iff.rfl
  | [_], _ => Iff.rfl
  | x :: y :: l, k => by
    have ih := dd_mem (y :: l) k
    unfold dd
    split
    · rename_i e; subst e
      rw [ih]; simp
    · simp only [List.mem_cons] at ih ⊢; rw [ih]
theorem dd_asc : ∀ {l : List Key}, (l.Pairwise fun a b => before b a = false) → AscK (dd l)
  | [], _ => List.Pairwise.nil
  | [_], _ => List.pairwise_singleton ..
  | x :: y :: l, h => by
    have h' := List.pairwise_cons.1 h
    have ih := dd_asc h'.2
    unfold dd
    split
    · exact ih
    · rename_i hne
      refine List.pairwise_cons.2 ⟨fun k hk => ?_, ih⟩
      have hk' := (dd_mem _ k).1 hk
      have h1 := h'.1 k hk'
      by_cases e : x = k
      · subst e
        rcases List.mem_cons.1 hk' with e | hk2
        · exact (hne e).elim
        · have h2 := (List.pairwise_cons.1 h'.2).1 x hk2
          have h3 := h'.1 y (by simp)
          rcases before_total hne with h4 | h4
          · rw [h4] at h2; cases h2
          · rw [h4] at h3; cases h3
      · rcases before_total e with h4 | h4
        · exact h4
        · rw [h4] at h1; cases h1
theorem intoL_asc {l : List Key} (hA : AscK l) (k : Key) : AscK (intoL l k) ∧ ∀ j, j ∈ intoL l k ↔ j = k ∨ j ∈ l := by
  have hlo : ∀ x ∈ l.take (at_ l k), before x k = true := fun x hx => by
    obtain ⟨m, h1, h2⟩ := mem_take_at hx
    obtain ⟨hl, rfl⟩ := List.getElem?_eq_some_iff.1 h2
    have := List.not_of_lt_findIdx (p := fun x => !before x k) (xs := l) h1
    simpa using this
  unfold intoL
  split
  · rename_i he
    exact ⟨hA, fun j => ⟨fun hj => .inr hj, fun hj => hj.elim (fun e => e ▸ List.mem_of_getElem? he) id⟩⟩
  · rename_i he
    have hhi : ∀ x ∈ l.drop (at_ l k), before k x = true := fun x hx => by
      obtain ⟨m, h1, h2⟩ := mem_drop_at hx
      have hlen : m < l.length := (List.getElem?_eq_some_iff.1 h2).1
      have hlt : at_ l k < l.length := by omega
      have h3 : before (l[at_ l k]'hlt) k = false := by
        have := List.findIdx_getElem (p := fun x => !before x k) (xs := l) (w := hlt)
        have h4 : (!before (l[at_ l k]'hlt) k) = true := this
        simpa using h4
      have h5 : before k (l[at_ l k]'hlt) = true := by
        have hne : l[at_ l k]'hlt ≠ k := fun e => he (by rw [List.getElem?_eq_getElem hlt, e])
        rcases before_total hne with h | h
        · rw [h] at h3; cases h3
        · exact h
      obtain ⟨hl2, rfl⟩ := List.getElem?_eq_some_iff.1 h2
      rcases Nat.lt_or_eq_of_le h1 with h | h
      · exact before_trans h5 (List.pairwise_iff_getElem.1 hA _ _ hlt hl2 h)
      · have : l[at_ l k]'hlt = l[m] := by congr 1
        rw [← this]; exact h5
    constructor
    · refine List.pairwise_append.2 ⟨List.pairwise_append.2 ⟨hA.sublist (List.take_sublist ..), List.pairwise_singleton .., fun x hx y hy => ?_⟩, hA.sublist (List.drop_sublist ..), fun x hx y hy => ?_⟩
      · simp at hy; subst hy; exact hlo x hx
      · rcases List.mem_append.1 hx with hx | hx
        · exact before_trans (hlo x hx) (hhi y hy)
        · simp at hx; subst hx; exact hhi y hy
    · intro j
      have e : j ∈ l ↔ j ∈ l.take (at_ l k) ∨ j ∈ l.drop (at_ l k) := by rw [← List.mem_append, List.take_append_drop]
      rw [e, List.mem_append, List.mem_append, List.mem_singleton]
      constructor
      · rintro ((h | h) | h)
        · exact .inr (.inl h)
        · exact .inl h
        · exact .inr (.inr h)
      · rintro (h | h | h)
        · exact .inl (.inr h)
        · exact .inl (.inl h)
        · exact .inr h
theorem intoAll_asc (ks : List Key) : AscK (intoAll ks) ∧ ∀ j, j ∈ intoAll ks ↔ j ∈ ks := by
  have : ∀ (ks acc : List Key), AscK acc → AscK (ks.foldl intoL acc) ∧ ∀ j, j ∈ ks.foldl intoL acc ↔ j ∈ acc ∨ j ∈ ks := by
    intro ks
    induction ks with
    | nil => intro acc h; exact ⟨h, fun j => by simp⟩
    | cons k ks ih =>
      intro acc h
      obtain ⟨h1, h2⟩ := intoL_asc h k
      obtain ⟨h3, h4⟩ := ih _ h1
      refine ⟨h3, fun j => ?_⟩
      rw [List.foldl_cons, h4, h2, List.mem_cons]
      constructor
      · rintro ((h | h) | h)
        · exact .inr (.inl h)
        · exact .inl h
        · exact .inr (.inr h)
      · rintro (h | h | h)
        · exact .inl (.inr h)
        · exact .inl (.inl h)
        · exact .inr h
  obtain ⟨h1, h2⟩ := this ks [] List.Pairwise.nil
  exact ⟨h1, fun j => by rw [intoAll, h2]; simp⟩
/-- The keys of lists, in order, each once. -/
theorem orV_asc (ls : List (SlV PostV)) : AscK (orV ls) := by
  unfold orV; split
  · exact (intoAll_asc _).1
  · exact List.Pairwise.nil
theorem keysL_mem {ls : List (SlV PostV)} {k : Key} : k ∈ keysL ls ↔ ∃ l ∈ ls, ∃ p ∈ l.xs, p.k = k := by
  unfold keysL
  rw [List.mem_flatMap]
  constructor
  · rintro ⟨l, hl, h⟩
    obtain ⟨p, hp, e⟩ := List.mem_map.1 h
    exact ⟨l, hl, p, hp, e⟩
  · rintro ⟨l, hl, p, hp, e⟩
    exact ⟨l, hl, List.mem_map.2 ⟨p, hp, e⟩⟩
abbrev MayL (ls : List (SlV PostV)) : Prop := mayAll (ls.map fun l => l.xs.map PostV.p) = true
theorem orV_mem {ls : List (SlV PostV)} (h : MayL ls) {k : Key} : k ∈ orV ls ↔ ∃ l ∈ ls, ∃ p ∈ l.xs, p.k = k := by
  rw [orV, if_pos h, (intoAll_asc _).2, keysL_mem]
theorem keys_asc {l : SlV PostV} (h : mayB (l.xs.map PostV.p) = true) : AscK (l.xs.map PostV.k) := by
  have := may_asc h
  rw [List.map_map] at this
  exact this
theorem look_iff {l : List PostV} {k : Key} : (lookP l k).isSome = true ↔ ∃ p ∈ l, p.k = k := by
  unfold lookP; rw [List.find?_isSome]; simp
theorem andV_asc (ls : List (SlV PostV)) : AscK (andV ls) := by
  unfold andV; split
  · exact List.Pairwise.nil
  · rename_i l0 r
    split
    · rename_i hm
      have h0 : mayB (l0.xs.map PostV.p) = true := List.all_eq_true.1 hm _ (by simp)
      exact (keys_asc h0).sublist (List.Sublist.map _ List.filter_sublist)
    · exact List.Pairwise.nil
theorem andV_iff {ls : List (SlV PostV)} (h : MayL ls) (hne : ls ≠ []) {k : Key} : k ∈ andV ls ↔ ∀ l ∈ ls, ∃ p ∈ l.xs, p.k = k := by
  obtain ⟨l0, r, rfl⟩ := List.exists_cons_of_ne_nil hne
  have e : andV (l0 :: r) = (l0.xs.filter fun p => hasAll (l0 :: r) p.k).map PostV.k := if_pos h
  rw [e, List.mem_map]
  constructor
  · rintro ⟨p, hp, rfl⟩ l hl
    have := List.all_eq_true.1 (List.mem_filter.1 hp).2 l hl
    exact look_iff.1 this
  · intro hk
    obtain ⟨p, hp, rfl⟩ := hk l0 (by simp)
    exact ⟨p, List.mem_filter.2 ⟨hp, List.all_eq_true.2 fun l hl => look_iff.2 (hk l hl)⟩, rfl⟩
theorem phraseV_asc (ls : List (SlV PostV)) : AscK (phraseV ls) := asc_filter (andV_asc ls) _
theorem phrase_eq (ls : List (SlV PostV)) : eachV (fun ps => followB (ps.map fun p => p.t.xs)) ls = phraseV ls := by
  unfold eachV phraseV andV
  split
  · rfl
  · rename_i l0 r
    split
    · rename_i hm
      have h0 : mayB (l0.xs.map PostV.p) = true := List.all_eq_true.1 hm _ (by simp)
      rw [List.filter_map, List.filter_filter]
      congr 1
      refine List.filter_congr fun p hp => ?_
      have hl := look_self (may_asc h0) hp
      have hf : foundV (l0 :: r) p.k = p :: foundV r p.k := by
        unfold foundV
        rw [List.filterMap_cons_some (f := fun l : SlV PostV => lookP l.xs p.k) hl]
      rw [← found_all, hf, Bool.and_comm]
      congr 1
      show followB ((p :: foundV r p.k).map fun p => p.t.xs) = followB (atsV (l0 :: r) p.k)
      unfold atsV
      rw [hf]
    · rfl
end Go.Po
namespace Go.Proofs.YtklgiidfompdpaaGreatDoor
open Go Go.Sl Go.Gv Go.Po
theorem porV_eq (ls : List (SlV PostV)) : porV ls = orV ls := by
  unfold porV orV
  split
  · refine asc_ext (dd_asc ?_) (intoAll_asc _).1 fun k => ?_
    · have := List.pairwise_mergeSort (le := fun x y : Key => !before y x) (fun a b c h1 h2 => by
        simp only [Bool.not_eq_true'] at *
        rw [before_not] at *; omega) (fun a b => by
        cases h : before b a with
        | false => rfl
        | true => simp [before_asymm h]) (keysL ls)
      exact this.imp fun h => by simpa using h
    · rw [dd_mem, (intoAll_asc _).2]
      exact (List.mergeSort_perm ..).mem_iff
  · rfl
theorem phrase_eq' (ls : List (SlV PostV)) : eachV followV ls = phraseV ls := phrase_eq ls
end Go.Proofs.YtklgiidfompdpaaGreatDoor
namespace Go.Ix
open Go Go.Sl Go.Gv Go.Kv Go.Po Go.Bst
theorem fold_catP (k : Key) : ∀ (l : List PostP) (M : PM), (mkeys l).Nodup → mget (l.foldl catP M) k = match mget l k with
    | none => mget M k
    | some at' => some ((mget M k).getD [] ++ at')
  | [], _, _ => rfl
  | e :: l, M, hn => by
    have hn' := List.nodup_cons.1 hn
    rw [List.foldl_cons, fold_catP k l _ hn'.2]
    have he : mget (e :: l) k = if k = e.1 then some e.2 else mget l k := by obtain ⟨a, b⟩ := e; rfl
    have hc : mget (catP M e) k = if k = e.1 then some ((mget M e.1).getD [] ++ e.2) else mget M k := mget_put _ _ _ _
    rw [he, hc]
    by_cases h : k = e.1
    · subst h
      rw [if_pos rfl, if_pos rfl, mget_none.2 hn'.1]
    · rw [if_neg h, if_neg h]
theorem catP_nodup : ∀ (l : List PostP) (M : PM), (mkeys M).Nodup → (mkeys (l.foldl catP M)).Nodup
  | [], _, h => h
  | _ :: l, _, h => catP_nodup l _ (nodup_put h _ _)
end Go.Ix
namespace Go.Proofs.YtklgiidfompdpaaGreatDoor
open Go Go.Sl Go.Gv Go.Kv Go.Po Go.Ix Go.Bst
theorem toks_le121 (r : Rec) : (toksV r.t).length ≤ 121 := by rw [toksV, toks_length]; exact words_len _
/-- Where a record's words stand that begin so. -/
def preAts (w : ByteArray) (ws : List ByteArray) (r : Rec) : List Int := (ws.filter fun s => preB s w).flatMap fun s => atsOf (toksV r.t) s
theorem may_nodup {l : List PostP} (h : mayB l = true) : (mkeys l).Nodup := (may_asc h).imp fun {a b} hab e => by rw [e, before_irr] at hab; cases hab
theorem IxIs.posn {rs : List Rec} {s : PL × PW} (h : IxIs rs s) {r : Rec} (hr : r ∈ rs) (w : ByteArray) : mget ((mget s.1 w).getD []) r.key = mget (tok r) w := by
  obtain ⟨h1, h2⟩ := h.getD w
  have hn := may_nodup h1
  cases hm : mget (tok r) w with
  | some l => exact mget_of_mem hn ((h2 (r.key, l)).2 ⟨r, hr, rfl, hm⟩)
  | none =>
    cases hm' : mget ((mget s.1 w).getD []) r.key with
    | none => rfl
    | some l =>
      obtain ⟨r', hr', h3, h4⟩ := (h2 (r.key, l)).1 (mget_mem hm')
      rw [key_inj h.keys hr' hr h3.symm, hm] at h4; cases h4
/-- Of each key: what the words of ws give. -/
theorem IxIs.pre_get {rs : List Rec} {s : PL × PW} (h : IxIs rs s) (w : ByteArray) : ∀ (ws : List ByteArray) (M : PM), (mkeys M).Nodup → (∀ k ∈ mkeys M, k ∈ rs.map Rec.key) →
    (mkeys (ws.foldl (preStep w s.1) M)).Nodup ∧ (∀ k ∈ mkeys (ws.foldl (preStep w s.1) M), k ∈ rs.map Rec.key) ∧
    ∀ r ∈ rs, (mget (ws.foldl (preStep w s.1) M) r.key).getD [] = (mget M r.key).getD [] ++ preAts w ws r ∧ (mget (ws.foldl (preStep w s.1) M) r.key = none ↔ mget M r.key = none ∧ preAts w ws r = [])
  | [], M, hn, hk => ⟨hn, hk, fun r hr => ⟨by simp [preAts], by simp [preAts]⟩⟩
  | v :: ws, M, hn, hk => by
    rw [List.foldl_cons]
    by_cases hp : preB v w = true
    · have hst : preStep w s.1 M v = ((mget s.1 v).getD []).foldl catP M := by unfold preStep; rw [if_pos hp]
      obtain ⟨h1, h2⟩ := h.getD v
      have hnl := may_nodup h1
      have hn2 : (mkeys (((mget s.1 v).getD []).foldl catP M)).Nodup := catP_nodup _ _ hn
      have hk2 : ∀ k ∈ mkeys (((mget s.1 v).getD []).foldl catP M), k ∈ rs.map Rec.key := fun k hkm => by
        cases hm : mget ((mget s.1 v).getD []) k with
        | some l =>
          obtain ⟨r, hr, h3, -⟩ := (h2 (k, l)).1 (mget_mem hm)
          exact List.mem_map.2 ⟨r, hr, h3.symm⟩
        | none =>
          refine hk k (Classical.byContradiction fun hc => ?_)
          have := fold_catP k ((mget s.1 v).getD []) M hnl
          rw [hm, mget_none.2 hc] at this
          exact mget_none.1 this hkm
      obtain ⟨i1, i2, i3⟩ := IxIs.pre_get h w ws _ hn2 hk2
      rw [hst]
      refine ⟨i1, i2, fun r hr => ?_⟩
      obtain ⟨j1, j2⟩ := i3 r hr
      have hg := fold_catP r.key ((mget s.1 v).getD []) M hnl
      rw [h.posn hr, posL_get] at hg
      have hpa : preAts w (v :: ws) r = atsOf (toksV r.t) v ++ preAts w ws r := by unfold preAts; rw [List.filter_cons_of_pos (p := fun s => preB s w) hp, List.flatMap_cons]
      rw [hpa]
      by_cases ha : atsOf (toksV r.t) v = []
      · rw [if_pos ha] at hg
        rw [j1, j2, hg, ha]; simp
      · rw [if_neg ha] at hg
        rw [j1, j2, hg]
        refine ⟨by simp, ?_⟩
        simp [ha]
    · have hst : preStep w s.1 M v = M := by unfold preStep; rw [if_neg hp]
      rw [hst]
      obtain ⟨i1, i2, i3⟩ := IxIs.pre_get h w ws M hn hk
      refine ⟨i1, i2, fun r hr => ?_⟩
      have hpa : preAts w (v :: ws) r = preAts w ws r := by unfold preAts; rw [List.filter_cons_of_neg (p := fun s => preB s w) (by simpa using hp)]
      rw [hpa]; exact i3 r hr
theorem ats_mem {T : List WordP} {s : ByteArray} {x : Int} (h : x ∈ atsOf T s) : (s, x) ∈ T := by
  unfold atsOf at h
  obtain ⟨p, hp, rfl⟩ := List.mem_map.1 h
  obtain ⟨h1, h2⟩ := List.mem_filter.1 hp
  have : p.1 = s := of_decide_eq_true h2
  rw [← this]; exact h1
theorem up_inj {T : List WordP} (h : T.Pairwise fun p q => p.2 < q.2) {p q : WordP} (hp : p ∈ T) (hq : q ∈ T) (e : p.2 = q.2) : p = q := by
  induction T with
  | nil => cases hp
  | cons x T ih =>
    have h' := List.pairwise_cons.1 h
    rcases List.mem_cons.1 hp with h1 | h1
    · rcases List.mem_cons.1 hq with h2 | h2
      · rw [h1, h2]
      · have := h'.1 q h2; rw [h1] at e; omega
    · rcases List.mem_cons.1 hq with h2 | h2
      · have := h'.1 p h1; rw [h2] at e; omega
      · exact ih h'.2 h1 h2
theorem flat_nodup {T : List WordP} (h : UpT T) : ∀ (ws : List ByteArray), ws.Nodup → (ws.flatMap fun s => atsOf T s).Nodup
  | [], _ => List.nodup_nil
  | v :: ws, hn => by
    have hn' := List.nodup_cons.1 hn
    rw [List.flatMap_cons, List.nodup_append]
    refine ⟨(ats_up h v).1.imp fun {a b} hab e => by omega, flat_nodup h ws hn'.2, fun a ha b hb e => ?_⟩
    subst e
    obtain ⟨s, hs, hb'⟩ := List.mem_flatMap.1 hb
    have := up_inj h.1 (ats_mem ha) (ats_mem hb') rfl
    have ev : v = s := congrArg Prod.fst this
    exact hn'.1 (by rw [ev]; exact hs)
theorem preAts_rises (w : ByteArray) {ws : List ByteArray} (hn : ws.Nodup) (r : Rec) (hne : preAts w ws r ≠ []) : risesB (sortI (preAts w ws r)) = true := by
  have hup := up_toks r.t
  have hnd : (preAts w ws r).Nodup := flat_nodup hup _ (List.Nodup.sublist List.filter_sublist hn)
  have hnd2 : (sortI (preAts w ws r)).Nodup := (sortI_perm _).nodup_iff.2 hnd
  have hle : (sortI (preAts w ws r)).Pairwise fun x y => x ≤ y := by
    have := List.pairwise_mergeSort (le := fun x y : Int => decide (x ≤ y)) (fun a b c h1 h2 => by simp only [decide_eq_true_eq] at *; omega) (fun a b => by rcases Int.le_total a b with h | h <;> simp [h]) (preAts w ws r)
    exact this.imp fun {a b} h => by simpa using h
  have hlt : (sortI (preAts w ws r)).Pairwise (· < ·) := (hle.and hnd2).imp fun {a b} h => by have := h.1; have := h.2; omega
  unfold risesB
  rw [rises_pw (fun x hx => ?_) hlt, Bool.true_and]
  · exact decide_eq_true fun e => hne (List.length_eq_zero_iff.1 (by rw [← sortI_length, e]; rfl))
  · have hx2 := (sortI_perm _).subset hx
    unfold preAts at hx2
    obtain ⟨s, -, hs⟩ := List.mem_flatMap.1 hx2
    have := (ats_up hup s).2 x hs
    omega
theorem preAts_len (w : ByteArray) {ws : List ByteArray} (hn : ws.Nodup) (r : Rec) : (preAts w ws r).length ≤ 121 := by
  have hnd : (preAts w ws r).Nodup := flat_nodup (up_toks r.t) _ (List.Nodup.sublist List.filter_sublist hn)
  have := nodup_sub (m := (toksV r.t).map Prod.snd) hnd fun x hx => by
    obtain ⟨s, -, hs⟩ := List.mem_flatMap.1 hx
    exact List.mem_map.2 ⟨(s, x), ats_mem hs, rfl⟩
  rw [List.length_map] at this
  exact Nat.le_trans this (toks_le121 r)
/-- What a prefix gives: in order, and what each key has. -/
theorem IxIs.pre {rs : List Rec} {s : PL × PW} (h : IxIs rs s) (w : ByteArray) {l : List PostP} (hp : List.Perm l (mm sortI (prefM w s.1))) (ho : l.Pairwise fun p q => before q.1 p.1 = false) :
    mayB l = true ∧ (mkeys l).Nodup ∧ (∀ p ∈ l, p.2.length ≤ 1000) ∧ (∀ r ∈ rs, ∀ v ∈ sortB (mkeys s.1), preB v w = true → ∀ at', mget (tok r) v = some at' → ∃ p ∈ l, p.1 = r.key ∧ at'.length ≤ p.2.length) := by
  have hwn : (sortB (mkeys s.1)).Nodup := (sortB_perm _).nodup_iff.2 h.ln
  obtain ⟨h1, h2, h3⟩ := h.pre_get w (sortB (mkeys s.1)) [] List.nodup_nil (fun k hk => by cases hk)
  have hkm : mkeys (mm sortI (prefM w s.1)) = mkeys (prefM w s.1) := by simp [mm, mkeys]
  have hln : (mkeys l).Nodup := by
    rw [(hp.map Prod.fst).nodup_iff]
    show (mkeys (mm sortI (prefM w s.1))).Nodup
    rw [hkm]; exact h1
  have hget : ∀ r ∈ rs, ∀ x, (r.key, x) ∈ l → preAts w (sortB (mkeys s.1)) r ≠ [] ∧ x = sortI (preAts w (sortB (mkeys s.1)) r) := fun r hr x hx => by
    have hx2 := hp.subset hx
    obtain ⟨e, he, hxe⟩ := List.mem_map.1 hx2
    obtain ⟨k, at'⟩ := e
    have hk : k = r.key := congrArg Prod.fst hxe
    have hxs : sortI at' = x := congrArg Prod.snd hxe
    rw [hk] at he
    have hg := mget_of_mem h1 he
    obtain ⟨h4, h5⟩ := h3 r hr
    have hne : preAts w (sortB (mkeys s.1)) r ≠ [] := fun e => by
      rw [h5.2 ⟨rfl, e⟩] at hg; cases hg
    have h6 : (mget (List.foldl (preStep w s.1) [] (sortB (mkeys s.1))) r.key).getD [] = preAts w (sortB (mkeys s.1)) r := by rw [h4]; rfl
    rw [hg] at h6
    have h7 : at' = preAts w (sortB (mkeys s.1)) r := h6
    exact ⟨hne, by rw [← hxs, h7]⟩
  have hmemr : ∀ p ∈ l, ∃ r ∈ rs, p.1 = r.key := fun p hpl => by
    have hx2 := hp.subset hpl
    obtain ⟨e, he, hxe⟩ := List.mem_map.1 hx2
    obtain ⟨r, hr, hk⟩ := List.mem_map.1 (h2 e.1 (List.mem_map.2 ⟨e, he, rfl⟩))
    exact ⟨r, hr, by rw [hk, ← hxe]⟩
  refine ⟨may_of ?_ fun p hpl => ?_, hln, fun p hpl => ?_, fun r hr v hv hpv at' hat => ?_⟩
  · have hk2 : l.Pairwise fun p q => p.1 ≠ q.1 := List.pairwise_map.1 hln
    refine (ho.and hk2).imp fun {a b} hab => ?_
    rcases before_total hab.2 with h4 | h4
    · exact h4
    · rw [hab.1] at h4; cases h4
  · obtain ⟨r, hr, hk⟩ := hmemr p hpl
    obtain ⟨h4, h5⟩ := hget r hr p.2 (by rw [← hk]; exact hpl)
    rw [h5]; exact preAts_rises w hwn r h4
  · obtain ⟨r, hr, hk⟩ := hmemr p hpl
    obtain ⟨h4, h5⟩ := hget r hr p.2 (by rw [← hk]; exact hpl)
    rw [h5, sortI_length]
    exact Nat.le_trans (preAts_len w hwn r) (by decide)
  · obtain ⟨h4, h5⟩ := h3 r hr
    have hsub : at'.length ≤ (preAts w (sortB (mkeys s.1)) r).length ∧ preAts w (sortB (mkeys s.1)) r ≠ [] := by
      rw [posL_get] at hat
      split at hat
      · cases hat
      · rename_i hne
        cases hat
        unfold preAts
        have hvf : v ∈ (sortB (mkeys s.1)).filter fun s => preB s w := List.mem_filter.2 ⟨hv, hpv⟩
        obtain ⟨l1, l2, e⟩ := List.append_of_mem hvf
        rw [e, List.flatMap_append, List.flatMap_cons]
        refine ⟨by simp only [List.length_append]; omega, fun e2 => hne ?_⟩
        have := congrArg List.length e2
        simp only [List.length_append, List.length_nil] at this
        exact List.length_eq_zero_iff.1 (by omega)
    cases hg : mget (List.foldl (preStep w s.1) [] (sortB (mkeys s.1))) r.key with
    | none => exact (hsub.2 (h5.1 hg).2).elim
    | some x =>
      have h6 : (mget (List.foldl (preStep w s.1) [] (sortB (mkeys s.1))) r.key).getD [] = preAts w (sortB (mkeys s.1)) r := by rw [h4]; rfl
      rw [hg] at h6
      have h7 : x = preAts w (sortB (mkeys s.1)) r := h6
      refine ⟨(r.key, sortI x), hp.symm.subset (List.mem_map.2 ⟨(r.key, x), mget_mem hg, rfl⟩), rfl, ?_⟩
      show at'.length ≤ (sortI x).length
      rw [sortI_length, h7]; exact hsub.1
end Go.Proofs.YtklgiidfompdpaaGreatDoor
namespace Go.Qu
open Go Go.Sl Go.Gv Go.Kv Go.Po Go.Ix
theorem atB_iff {ws ps : List ByteArray} {i : Nat} : atB ws ps i = true ↔ ∀ k, k < ps.length → ws[i + k]? = ps[k]? := by
  unfold atB; rw [List.all_eq_true]
  exact ⟨fun h k hk => of_decide_eq_true (h k (List.mem_range.2 hk)), fun h k hk => decide_eq_true (h k (List.mem_range.1 hk))⟩
theorem infB_iff {ws ps : List ByteArray} : infB ws ps = true ↔ ps ≠ [] ∧ ∃ i, i < ws.length ∧ ∀ k, k < ps.length → ws[i + k]? = ps[k]? := by
  unfold infB
  rw [Bool.and_eq_true, decide_eq_true_iff, List.any_eq_true]
  constructor
  · rintro ⟨h, i, hi, ha⟩; exact ⟨h, i, List.mem_range.1 hi, atB_iff.1 ha⟩
  · rintro ⟨h, i, hi, ha⟩; exact ⟨h, i, List.mem_range.2 hi, atB_iff.2 ha⟩
def memB (w : ByteArray) (ws : List ByteArray) : Bool := ws.any fun v => decide (v = w)
theorem memB_iff {w : ByteArray} {ws : List ByteArray} : memB w ws = true ↔ w ∈ ws := by
  unfold memB; rw [List.any_eq_true]
  exact ⟨fun ⟨v, hv, e⟩ => by rw [← of_decide_eq_true e]; exact hv, fun h => ⟨w, h, decide_eq_true rfl⟩⟩
theorem infB_one (ws : List ByteArray) (w : ByteArray) : infB ws [w] = memB w ws := by
  rw [Bool.eq_iff_iff, infB_iff, memB_iff, List.mem_iff_getElem?]
  constructor
  · rintro ⟨-, i, -, h⟩; exact ⟨i, by simpa using h 0 (by simp)⟩
  · rintro ⟨i, h⟩
    refine ⟨by simp, i, (List.getElem?_eq_some_iff.1 h).1, fun k hk => ?_⟩
    have : k = 0 := by simp at hk; omega
    subst this; simpa using h
end Go.Qu
namespace Go.Proofs.YtklgiidfompdpaaGreatDoor
open Go Go.Sl Go.Gv Go.Kv Go.Po Go.Ix Go.Bst Go.Qu
theorem mem_atsO : ∀ (l : List ByteArray) (n : Nat) (w : ByteArray) (x : Int), x ∈ atsOf (toksOf l n) w ↔ ∃ i : Nat, x = ((n + i : Nat) : Int) ∧ l[i]? = some w
  | [], n, w, x => by simp [atsOf, toksOf]
  | v :: l, n, w, x => by
    have ih := mem_atsO l (n + 1) w x
    have e : toksOf (v :: l) n = (v, (n : Int)) :: toksOf l (n + 1) := by unfold toksOf; rw [List.zipIdx_cons]; rfl
    have e2 : x ∈ atsOf (toksOf (v :: l) n) w ↔ (x = (n : Int) ∧ v = w) ∨ x ∈ atsOf (toksOf l (n + 1)) w := by
      rw [e]; unfold atsOf
      by_cases hv : v = w
      · rw [List.filter_cons_of_pos (by simpa using hv)]; simp [hv]
      · rw [List.filter_cons_of_neg (by simpa using hv)]; simp [hv]
    rw [e2, ih]
    constructor
    · rintro (⟨h1, h2⟩ | ⟨i, h1, h2⟩)
      · exact ⟨0, by simpa using h1, by simp [h2]⟩
      · exact ⟨i + 1, by rw [h1]; congr 1; omega, by simpa using h2⟩
    · rintro ⟨i, h1, h2⟩
      cases i with
      | zero => exact .inl ⟨by simpa using h1, by simpa using h2⟩
      | succ i => exact .inr ⟨i, by rw [h1]; congr 1; omega, by simpa using h2⟩
theorem ats_ne {l : List ByteArray} {w : ByteArray} : atsOf (toksOf l 0) w ≠ [] ↔ w ∈ l := by
  constructor
  · intro h
    obtain ⟨x, hx⟩ := List.exists_mem_of_ne_nil _ h
    obtain ⟨i, -, hi⟩ := (mem_atsO l 0 w x).1 hx
    exact List.mem_of_getElem? hi
  · intro h e
    obtain ⟨i, hi⟩ := List.mem_iff_getElem?.1 h
    have := (mem_atsO l 0 w ((0 + i : Nat) : Int)).2 ⟨i, rfl, hi⟩
    rw [e] at this; cases this
theorem steps_words {l : List ByteArray} {a : Nat} (ha : a ≤ 1000) : ∀ (ws : List ByteArray) (i : Nat), i + ws.length ≤ 1000 → (stepsFrom (a : Int) i (ws.map fun w => atsOf (toksOf l 0) w) = true ↔ ∀ k, k < ws.length → l[a + i + k]? = ws[k]?)
  | [], i, _ => by simp [stepsFrom]
  | w :: ws, i, hl => by
    have ih := steps_words (l := l) ha ws (i + 1) (by simp at hl; omega)
    simp only [List.map_cons, stepsFrom, Bool.and_eq_true, decide_eq_true_eq]
    rw [wrap_in (by omega) (by simp at hl; omega), ih]
    have e : ((a : Int) + (i : Int) ∈ atsOf (toksOf l 0) w) ↔ l[a + i]? = some w := by
      rw [mem_atsO]
      constructor
      · rintro ⟨j, h1, h2⟩
        have : j = a + i := by omega
        rw [← this]; exact h2
      · intro h; exact ⟨a + i, by omega, h⟩
    rw [e]
    constructor
    · rintro ⟨h1, h2⟩ k hk
      cases k with
      | zero => simpa using h1
      | succ k =>
        have := h2 k (by simpa using hk)
        rw [show a + i + (k + 1) = a + (i + 1) + k by omega]; simpa using this
    · intro h
      refine ⟨by simpa using h 0 (by simp), fun k hk => ?_⟩
      have := h (k + 1) (by simpa using hk)
      rw [show a + (i + 1) + k = a + i + (k + 1) by omega]; simpa using this
theorem follow_words {l : List ByteArray} {ws : List ByteArray} (hl : l.length ≤ 1000) (hw : ws.length ≤ 900) : followB (ws.map fun w => atsOf (toksOf l 0) w) = infB l ws := by
  cases ws with
  | nil => rfl
  | cons w ws =>
    rw [Bool.eq_iff_iff, infB_iff]
    unfold followB
    rw [List.map_cons, List.any_eq_true]
    constructor
    · rintro ⟨x, hx, h⟩
      obtain ⟨i, rfl, hi⟩ := (mem_atsO l 0 w x).1 hx
      have hil := (List.getElem?_eq_some_iff.1 hi).1
      rw [Nat.zero_add] at h
      have := (steps_words (l := l) (a := i) (by omega) (w :: ws) 0 (by simp at hw ⊢; omega)).1 h
      exact ⟨by simp, i, hil, this⟩
    · rintro ⟨-, i, hil, h⟩
      have h0 := h 0 (by simp)
      refine ⟨((0 + i : Nat) : Int), (mem_atsO l 0 w _).2 ⟨i, rfl, by simpa using h0⟩, ?_⟩
      rw [Nat.zero_add]
      exact (steps_words (l := l) (a := i) (by omega) (w :: ws) 0 (by simp at hw ⊢; omega)).2 h
/-- The keys, rising, of the records that are so. -/
def IsK (rs : List Rec) (f : Rec → Bool) (ks : List Key) : Prop := AscK ks ∧ ∀ k, k ∈ ks ↔ ∃ r ∈ rs, r.key = k ∧ f r = true
section
variable {rs : List Rec} {f g : Rec → Bool} {ks ls : List Key}
theorem IsK.uniq (h : IsK rs f ks) (h' : IsK rs g ls) (e : ∀ r ∈ rs, f r = g r) : ks = ls := asc_ext h.1 h'.1 fun k => by
  rw [h.2, h'.2]
  exact ⟨fun ⟨r, hr, h1, h2⟩ => ⟨r, hr, h1, by rw [← e r hr]; exact h2⟩, fun ⟨r, hr, h1, h2⟩ => ⟨r, hr, h1, by rw [e r hr]; exact h2⟩⟩
theorem IsK.congr (h : IsK rs f ks) (e : ∀ r ∈ rs, f r = g r) : IsK rs g ks := ⟨h.1, fun k => by
  rw [h.2]
  exact ⟨fun ⟨r, hr, h1, h2⟩ => ⟨r, hr, h1, by rw [← e r hr]; exact h2⟩, fun ⟨r, hr, h1, h2⟩ => ⟨r, hr, h1, by rw [e r hr]; exact h2⟩⟩⟩
theorem IsK.at (hn : (rs.map Rec.key).Nodup) (h : IsK rs f ks) {r : Rec} (hr : r ∈ rs) : r.key ∈ ks ↔ f r = true := by
  rw [h.2]
  exact ⟨fun ⟨r', hr', h1, h2⟩ => by rw [← key_inj hn hr' hr h1]; exact h2, fun h1 => ⟨r, hr, rfl, h1⟩⟩
theorem IsK.nodup (h : IsK rs f ks) : ks.Nodup := h.1.imp fun {a b} hab e => by rw [e, before_irr] at hab; cases hab
theorem IsK.len (h : IsK rs f ks) : ks.length ≤ rs.length := by
  have := nodup_sub (l := ks) (m := rs.map Rec.key) h.nodup fun k hk => by
    obtain ⟨r, hr, e, -⟩ := (h.2 k).1 hk
    exact List.mem_map.2 ⟨r, hr, e⟩
  simpa using this
theorem IsK.all {s : PL × PW} (h : IxIs rs s) : IsK rs (fun _ => true) (sortK (mkeys s.2)) := ⟨sortK_asc h.wn, fun k => by
  rw [sortK_mem, h.wkeys.mem_iff, List.mem_map]
  exact ⟨fun ⟨r, hr, e⟩ => ⟨r, hr, e, rfl⟩, fun ⟨r, hr, e, _⟩ => ⟨r, hr, e⟩⟩⟩
theorem IsK.sub (hn : (rs.map Rec.key).Nodup) (h : IsK rs f ks) (p : Key → Bool) (hp : ∀ r ∈ rs, p r.key = g r) : IsK rs (fun r => f r && g r) (ks.filter p) := ⟨asc_filter h.1 p, fun k => by
  rw [List.mem_filter, h.2]
  constructor
  · rintro ⟨⟨r, hr, rfl, h2⟩, h3⟩; exact ⟨r, hr, rfl, by show (f r && g r) = true; rw [h2, ← hp r hr, h3]; rfl⟩
  · rintro ⟨r, hr, rfl, h2⟩
    rw [Bool.and_eq_true] at h2
    exact ⟨⟨r, hr, rfl, h2.1⟩, by rw [hp r hr]; exact h2.2⟩⟩
theorem IsK.less (hn : (rs.map Rec.key).Nodup) (h : IsK rs f ks) (h' : IsK rs g ls) : IsK rs (fun r => f r && !g r) (lessK ks ls) :=
  IsK.sub hn h (fun k => !decide (k ∈ ls)) fun r hr => by
    congr 1
    rw [Bool.eq_iff_iff, decide_eq_true_iff]; exact h'.at hn hr
theorem eachV_and (ls : List (SlV PostV)) : eachV (fun _ => true) ls = andV ls := by
  unfold eachV andV
  split
  · rfl
  · rename_i l0 r
    split
    · rename_i hm
      have h0 : mayB (l0.xs.map PostV.p) = true := List.all_eq_true.1 hm _ (by simp)
      congr 1
      refine List.filter_congr fun p hp => ?_
      have hl := look_self (may_asc h0) hp
      have hf : foundV (l0 :: r) p.k = p :: foundV r p.k := by
        unfold foundV
        rw [List.filterMap_cons_some (f := fun l : SlV PostV => lookP l.xs p.k) hl]
      rw [← found_all, hf, Bool.and_true]
    · rfl
/-- What the lists of words are, in an index. -/
def LsIs (P : PL) (ws : List ByteArray) (ls : List (SlV PostV)) : Prop := ls.map (fun l => plain1 l.xs) = ws.map fun w => (mget P w).getD []
theorem LsIs.may {s : PL × PW} (h : IxIs rs s) {ws : List ByteArray} {ls : List (SlV PostV)} (e : LsIs s.1 ws ls) : MayL ls := by
  have e' : (ls.map fun l => l.xs.map PostV.p) = ws.map fun w => (mget s.1 w).getD [] := e
  unfold MayL
  rw [e', mayAll, List.all_map, List.all_eq_true]
  exact fun w _ => (h.getD w).1
theorem LsIs.at {P : PL} {ws : List ByteArray} {ls : List (SlV PostV)} (e : LsIs P ws ls) {i : Nat} {l : SlV PostV} (hl : ls[i]? = some l) : ∃ w, ws[i]? = some w ∧ plain1 l.xs = (mget P w).getD [] := by
  have := congrArg (·[i]?) e
  simp only [List.getElem?_map, hl, Option.map_some] at this
  cases hw : ws[i]? with
  | none => rw [hw] at this; cases this
  | some w => rw [hw] at this; exact ⟨w, rfl, Option.some.inj this⟩
theorem LsIs.back {P : PL} {ws : List ByteArray} {ls : List (SlV PostV)} (e : LsIs P ws ls) {w : ByteArray} (hw : w ∈ ws) : ∃ l ∈ ls, plain1 l.xs = (mget P w).getD [] := by
  obtain ⟨i, hi⟩ := List.mem_iff_getElem?.1 hw
  have := congrArg (·[i]?) e
  simp only [List.getElem?_map, hi, Option.map_some] at this
  cases hl : ls[i]? with
  | none => rw [hl] at this; cases this
  | some l => rw [hl] at this; exact ⟨l, List.mem_of_getElem? hl, Option.some.inj this⟩
/-- Where a list has a key: its record has the word, just there. -/
theorem post_is {s : PL × PW} (h : IxIs rs s) {w : ByteArray} {l : List PostV} (e : plain1 l = (mget s.1 w).getD []) (k : Key) : (∃ p ∈ l, p.k = k) ↔ ∃ r ∈ rs, r.key = k ∧ w ∈ wordsB r.t := by
  obtain ⟨-, hm⟩ := h.getD w
  constructor
  · rintro ⟨p, hp, rfl⟩
    have h1 : p.p ∈ (mget s.1 w).getD [] := by rw [← e]; exact List.mem_map.2 ⟨p, hp, rfl⟩
    obtain ⟨r, hr, h2, h3⟩ := (hm p.p).1 h1
    refine ⟨r, hr, h2.symm, ats_ne.1 fun hc => ?_⟩
    rw [posL_get, if_pos (show atsOf (toksV r.t) w = [] from hc)] at h3; cases h3
  · rintro ⟨r, hr, rfl, hw⟩
    have h3 : mget (tok r) w = some (atsOf (toksV r.t) w) := by rw [posL_get, if_neg (show ¬ atsOf (toksV r.t) w = [] from ats_ne.2 hw)]
    have h1 := (hm (r.key, atsOf (toksV r.t) w)).2 ⟨r, hr, rfl, h3⟩
    rw [← e] at h1
    obtain ⟨p, hp, hpe⟩ := List.mem_map.1 h1
    exact ⟨p, hp, congrArg Prod.fst hpe⟩
theorem IsK.and {s : PL × PW} (h : IxIs rs s) {ws : List ByteArray} {ls : List (SlV PostV)} (e : LsIs s.1 ws ls) (hne : ws ≠ []) : IsK rs (fun r => ws.all fun w => memB w (wordsB r.t)) (andV ls) := ⟨andV_asc ls, fun k => by
  have hln : ls ≠ [] := by
    intro hc; subst hc
    have := congrArg List.length e
    simp at this; exact hne (List.length_eq_zero_iff.1 this.symm)
  rw [andV_iff (e.may h) hln]
  constructor
  · intro hk
    obtain ⟨w0, hw0⟩ := List.exists_mem_of_ne_nil _ hne
    obtain ⟨l0, hl0, e0⟩ := e.back hw0
    obtain ⟨r, hr, hrk, -⟩ := (post_is h e0 k).1 (hk l0 hl0)
    refine ⟨r, hr, hrk, List.all_eq_true.2 fun w hw => memB_iff.2 ?_⟩
    obtain ⟨l, hl, el⟩ := e.back hw
    obtain ⟨r', hr', hrk', hw'⟩ := (post_is h el k).1 (hk l hl)
    rw [key_inj h.keys hr hr' (hrk.trans hrk'.symm)]; exact hw'
  · rintro ⟨r, hr, hrk, ha⟩ l hl
    obtain ⟨i, hi⟩ := List.mem_iff_getElem?.1 hl
    obtain ⟨w, hw, el⟩ := e.at hi
    exact (post_is h el k).2 ⟨r, hr, hrk, memB_iff.1 (List.all_eq_true.1 ha w (List.mem_of_getElem? hw))⟩⟩
theorem look_of {l : List PostV} {k : Key} {p : PostV} (h : lookP l k = some p) : p ∈ l ∧ p.k = k := by
  unfold lookP at h
  exact ⟨List.mem_of_find?_eq_some h, of_decide_eq_true (List.find?_some (p := fun p : PostV => decide (p.k = k)) h)⟩
/-- The places that the lists of words have under a record's key. -/
theorem ats_is {s : PL × PW} (h : IxIs rs s) {r : Rec} (hr : r ∈ rs) : ∀ (ws : List ByteArray) (ls : List (SlV PostV)), LsIs s.1 ws ls → (∀ w ∈ ws, w ∈ wordsB r.t) → atsV ls r.key = ws.map fun w => atsOf (toksV r.t) w
  | [], ls, e, _ => by
    have : ls = [] := by have := congrArg List.length e; simp at this; exact this
    subst this; rfl
  | w :: ws, [], e, _ => by have := congrArg List.length e; simp at this
  | w :: ws, l :: ls, e, hw => by
    unfold LsIs at e
    rw [List.map_cons, List.map_cons] at e
    have e1 : plain1 l.xs = (mget s.1 w).getD [] := (List.cons.inj e).1
    have ih := ats_is h hr ws ls (List.cons.inj e).2 fun v hv => hw v (List.mem_cons_of_mem _ hv)
    obtain ⟨p0, hp0, hk0⟩ := (post_is h e1 r.key).2 ⟨r, hr, rfl, hw w (by simp)⟩
    obtain ⟨p, hp⟩ : ∃ p, lookP l.xs r.key = some p := Option.isSome_iff_exists.1 (look_iff.2 ⟨p0, hp0, hk0⟩)
    obtain ⟨hpm, hpk⟩ := look_of hp
    have h1 : p.p ∈ (mget s.1 w).getD [] := by rw [← e1]; exact List.mem_map.2 ⟨p, hpm, rfl⟩
    obtain ⟨r', hr', h2, h3⟩ := ((h.getD w).2 p.p).1 h1
    have hrr : r' = r := key_inj h.keys hr' hr (h2.symm.trans hpk)
    subst hrr
    rw [posL_get, if_neg (show ¬ atsOf (toksV r'.t) w = [] from ats_ne.2 (hw w (by simp)))] at h3
    have h4 : p.t.xs = atsOf (toksV r'.t) w := (Option.some.inj h3).symm
    unfold atsV foundV at ih ⊢
    rw [List.filterMap_cons_some (f := fun l : SlV PostV => lookP l.xs r'.key) hp, List.map_cons, List.map_cons, ih, h4]
theorem inf_all {l ws : List ByteArray} (h : infB l ws = true) : ∀ w ∈ ws, w ∈ l := fun w hw => by
  obtain ⟨-, i, -, hi⟩ := infB_iff.1 h
  obtain ⟨k, hk⟩ := List.mem_iff_getElem?.1 hw
  have := hi k (List.getElem?_eq_some_iff.1 hk).1
  rw [hk] at this
  exact List.mem_of_getElem? this
theorem IsK.phrase {s : PL × PW} (h : IxIs rs s) {ws : List ByteArray} {ls : List (SlV PostV)} (e : LsIs s.1 ws ls) (hne : ws ≠ []) (hw : ws.length ≤ 900) : IsK rs (fun r => infB (wordsB r.t) ws) (phraseV ls) := ⟨phraseV_asc ls, fun k => by
  unfold phraseV
  rw [List.mem_filter, (IsK.and h e hne).2]
  have key : ∀ r ∈ rs, (∀ w ∈ ws, w ∈ wordsB r.t) → followB (atsV ls r.key) = infB (wordsB r.t) ws := fun r hr ha => by
    rw [ats_is h hr ws ls e ha]
    exact follow_words (by have := words_len r.t; omega) hw
  constructor
  · rintro ⟨⟨r, hr, rfl, ha⟩, hf⟩
    have ha' : ∀ w ∈ ws, w ∈ wordsB r.t := fun w hw => memB_iff.1 (List.all_eq_true.1 ha w hw)
    exact ⟨r, hr, rfl, by show infB (wordsB r.t) ws = true; rw [← key r hr ha']; exact hf⟩
  · rintro ⟨r, hr, rfl, hi⟩
    have ha' := inf_all hi
    exact ⟨⟨r, hr, rfl, List.all_eq_true.2 fun w hw => memB_iff.2 (ha' w hw)⟩, by rw [key r hr ha']; exact hi⟩⟩
theorem IsK.word {s : PL × PW} (h : IxIs rs s) {w : ByteArray} {ls : List (SlV PostV)} (e : LsIs s.1 [w] ls) : IsK rs (fun r => infB (wordsB r.t) [w]) (andV ls) :=
  (IsK.and h e (by simp)).congr fun r _ => by rw [infB_one]; simp
theorem IxIs.gd {s : PL × PW} (h : IxIs rs s) (w : ByteArray) : ((mget s.1 w).getD []).length ≤ rs.length ∧ ∀ p ∈ (mget s.1 w).getD [], p.2.length ≤ 121 := by
  refine ⟨?_, fun p hp => ?_⟩
  · cases hm : mget s.1 w with
    | none => exact Nat.zero_le _
    | some l => exact h.lists hm
  · obtain ⟨r, hr, -, h2⟩ := ((h.getD w).2 p).1 hp
    rw [posL_get] at h2
    split at h2
    · cases h2
    · rw [← Option.some.inj h2]
      unfold atsOf
      rw [List.length_map]
      exact Nat.le_trans (List.length_filter_le ..) (toks_le121 r)
theorem word_tok {r : Rec} {w : ByteArray} : mget (tok r) w ≠ none ↔ w ∈ wordsB r.t := by
  rw [posL_get]
  by_cases hw : w ∈ wordsB r.t
  · rw [if_neg (show ¬ atsOf (toksV r.t) w = [] from ats_ne.2 hw)]; simp [hw]
  · rw [if_pos (show atsOf (toksV r.t) w = [] from Classical.byContradiction fun hc => hw (ats_ne.1 hc))]; simp [hw]
theorem IsK.prefix {s : PL × PW} (h : IxIs rs s) (w : ByteArray) {l : SlV PostV} (hp : List.Perm (plain1 l.xs) (mm sortI (prefM w s.1))) (ho : (plain1 l.xs).Pairwise fun p q => before q.1 p.1 = false) :
    (MayL [l] ∧ l.xs.length ≤ rs.length ∧ ∀ p ∈ l.xs, p.t.xs.length ≤ 1000) ∧ IsK rs (fun r => (wordsB r.t).any fun v => preB v w) (andV [l]) := by
  obtain ⟨h1, h2, h3, h4⟩ := h.pre w hp ho
  have hm : MayL [l] := by unfold MayL; rw [List.map_singleton, mayAll, List.all_cons, List.all_nil, Bool.and_true]; exact h1
  obtain ⟨i1, i2, i3⟩ := h.pre_get w (sortB (mkeys s.1)) [] List.nodup_nil (fun k hk => by cases hk)
  have hlen : l.xs.length ≤ rs.length := by
    have h9 := nodup_sub (l := mkeys (prefM w s.1)) (m := rs.map Rec.key) i1 i2
    have h8 := hp.length_eq
    simp only [mm, mkeys, plain1, List.length_map] at h8 h9
    omega
  refine ⟨⟨hm, hlen, fun p hpl => h3 p.p (List.mem_map.2 ⟨p, hpl, rfl⟩)⟩, andV_asc _, fun k => ?_⟩
  rw [andV_iff hm (by simp)]
  have e0 : (∀ l' ∈ [l], ∃ p ∈ l'.xs, p.k = k) ↔ ∃ p ∈ l.xs, p.k = k := by simp
  rw [e0]
  constructor
  · rintro ⟨p, hpl, rfl⟩
    have hx : p.p ∈ mm sortI (prefM w s.1) := hp.subset (List.mem_map.2 ⟨p, hpl, rfl⟩)
    obtain ⟨e, he, hxe⟩ := List.mem_map.1 hx
    have hek : e.1 = p.k := congrArg Prod.fst hxe
    obtain ⟨r, hr, hrk⟩ := List.mem_map.1 (i2 e.1 (List.mem_map.2 ⟨e, he, rfl⟩))
    refine ⟨r, hr, hrk.trans hek, ?_⟩
    obtain ⟨j1, j2⟩ := i3 r hr
    have hg : mget (prefM w s.1) r.key = some e.2 := mget_of_mem i1 (by rw [hrk]; exact he)
    have hne : preAts w (sortB (mkeys s.1)) r ≠ [] := fun hc => by
      have h9 : mget (prefM w s.1) r.key = none := j2.2 ⟨rfl, hc⟩
      rw [h9] at hg; cases hg
    obtain ⟨x, hx⟩ := List.exists_mem_of_ne_nil _ hne
    obtain ⟨v, hv, hxv⟩ := List.mem_flatMap.1 hx
    have hvp := (List.mem_filter.1 hv).2
    refine List.any_eq_true.2 ⟨v, ats_ne.1 (fun hc => ?_), hvp⟩
    have hxv' : x ∈ atsOf (toksOf (wordsB r.t) 0) v := hxv
    rw [hc] at hxv'; cases hxv'
  · rintro ⟨r, hr, rfl, ha⟩
    obtain ⟨v, hv, hvp⟩ := List.any_eq_true.1 ha
    obtain ⟨at', hat⟩ : ∃ at', mget (tok r) v = some at' := Option.ne_none_iff_exists'.1 (word_tok.2 hv)
    have hvs : v ∈ sortB (mkeys s.1) := by
      rw [sortB_mem]
      refine Classical.byContradiction fun hc => ?_
      rw [h.non v (mget_none.2 hc) r hr] at hat; cases hat
    obtain ⟨p, hpl, hpk, -⟩ := h4 r hr v hvs hvp at' hat
    obtain ⟨q, hq, hqe⟩ := List.mem_map.1 hpl
    exact ⟨q, hq, by rw [← hpk, ← hqe]; rfl⟩
end
end Go.Proofs.YtklgiidfompdpaaGreatDoor
namespace Go.Qu
open Go Go.Sl Go.Gv Go.Ix
section
variable {pre : ByteArray → ByteArray → Bool} {r : Rec} {ws : List ByteArray} {d : Nat} {a : AskV}
theorem holds_1 (h : a.kind = 1 ∨ a.kind = 3) : holdsA pre r ws (d + 1) a = infB ws a.ws := if_pos h
theorem holds_2 (h : a.kind = 2) : holdsA pre r ws (d + 1) a = ws.any fun w => pre w (a.ws.headD ⟨#[]⟩) := by unfold holdsA; rw [if_neg (by omega), if_pos h]
theorem holds_4 (h : a.kind = 4) : holdsA pre r ws (d + 1) a = decide (r.o = a.n) := by unfold holdsA; rw [if_neg (by omega), if_neg (by omega), if_pos h]
theorem holds_5 (h : a.kind = 5) : holdsA pre r ws (d + 1) a = decide (a.n ≤ r.w) := by unfold holdsA; rw [if_neg (by omega), if_neg (by omega), if_neg (by omega), if_pos h]
theorem holds_6 (h : a.kind = 6) : holdsA pre r ws (d + 1) a = decide (r.w ≤ a.n) := by unfold holdsA; rw [if_neg (by omega), if_neg (by omega), if_neg (by omega), if_neg (by omega), if_pos h]
theorem holds_8 (h : a.kind = 8) : holdsA pre r ws (d + 1) a = a.ss.any (holdsA pre r ws d) := by unfold holdsA; rw [if_neg (by omega), if_neg (by omega), if_neg (by omega), if_neg (by omega), if_neg (by omega), if_pos h]
theorem holds_9 (h : a.kind = 9) : holdsA pre r ws (d + 1) a = !(match a.ss with | [] => false | x :: _ => holdsA pre r ws d x) := by
  conv => lhs; unfold holdsA
  rw [if_neg (by omega), if_neg (by omega), if_neg (by omega), if_neg (by omega), if_neg (by omega), if_neg (by omega), if_pos h]
  rfl
theorem holds_7 (h : a.kind = 7) : holdsA pre r ws (d + 1) a = a.ss.all (holdsA pre r ws d) := by unfold holdsA; rw [if_neg (by omega), if_neg (by omega), if_neg (by omega), if_neg (by omega), if_neg (by omega), if_neg (by omega), if_neg (by omega)]
theorem holdsNot {x : AskV} (h : a.kind = 9) (hs : a.ss = [x]) : holdsA pre r ws (d + 1) a = !holdsA pre r ws d x := by rw [holds_9 h, hs]
end
/-- The kinds that a question that may be can have, and what it has then. -/
theorem good_kind {odd : ByteArray → Bool} {d : Nat} {a : AskV} (h : goodA odd (d + 1) a = true) :
    ((a.kind = 1 ∨ a.kind = 2) ∧ a.ss = [] ∧ a.ws.length = 1) ∨ (a.kind = 3 ∧ a.ss = [] ∧ 1 ≤ a.ws.length ∧ a.ws.length ≤ 16) ∨ ((a.kind = 4 ∨ a.kind = 5 ∨ a.kind = 6) ∧ a.ss = []) ∨ (a.kind = 9 ∧ a.ss.length = 1) ∨ ((a.kind = 7 ∨ a.kind = 8) ∧ 2 ≤ a.ss.length) := by
  have hs : shapeB a = true := by
    cases hh : shapeB a with
    | true => rfl
    | false => rw [good_no hh] at h; cases h
  unfold shapeB at hs
  by_cases h1 : a.kind = 1 ∨ a.kind = 2
  · rw [if_pos h1] at hs; simp only [Bool.and_eq_true, decide_eq_true_eq] at hs; exact .inl ⟨h1, hs.1.2, hs.2⟩
  rw [if_neg h1] at hs
  by_cases h3 : a.kind = 3
  · rw [if_pos h3] at hs; simp only [Bool.and_eq_true, decide_eq_true_eq] at hs; exact .inr (.inl ⟨h3, hs.1.2, hs.2⟩)
  rw [if_neg h3] at hs
  by_cases h4 : a.kind = 4
  · rw [if_pos h4] at hs; simp only [Bool.and_eq_true, decide_eq_true_eq] at hs; exact .inr (.inr (.inl ⟨.inl h4, hs.1.2⟩))
  rw [if_neg h4] at hs
  by_cases h5 : a.kind = 5 ∨ a.kind = 6
  · rw [if_pos h5] at hs; simp only [Bool.and_eq_true, decide_eq_true_eq] at hs; exact .inr (.inr (.inl ⟨.inr h5, hs.1.2⟩))
  rw [if_neg h5] at hs
  by_cases h9 : a.kind = 9
  · rw [if_pos h9] at hs; simp only [Bool.and_eq_true, decide_eq_true_eq] at hs; exact .inr (.inr (.inr (.inl ⟨h9, hs.2⟩)))
  rw [if_neg h9] at hs
  by_cases h7 : a.kind = 7 ∨ a.kind = 8
  · rw [if_pos h7] at hs; simp only [Bool.and_eq_true, decide_eq_true_eq] at hs; exact .inr (.inr (.inr (.inr ⟨h7, hs.2⟩)))
  rw [if_neg h7] at hs; cases hs
theorem good_subs {odd : ByteArray → Bool} {d : Nat} {a : AskV} (h : goodA odd (d + 1) a = true) : ∀ x ∈ a.ss, goodA odd d x = true := by
  have hs : shapeB a = true := by
    cases hh : shapeB a with
    | true => rfl
    | false => rw [good_no hh] at h; cases h
  rw [good_yes hs, Bool.and_eq_true] at h
  exact List.all_eq_true.1 h.2
end Go.Qu
namespace Go.Proofs.YtklgiidfompdpaaGreatDoor
open Go Go.Sl Go.Gv Go.Kv Go.Po Go.Ix Go.Bst Go.Qu
/-- Does a question hold of a record? -/
def holdsQ (d : Nat) (a : AskV) (r : Rec) : Bool := holdsA preB r (wordsB r.t) d a
end Go.Proofs.YtklgiidfompdpaaGreatDoor
namespace Go.Sl
open Go
section
variable {P : Program} {env : Env} {d : Option Tmp} {x z : Operand} {T ty : TypeId} {pos : String} {af : Array Edge} {g : Option (Nat × Bool)}
/-- A struct of a string and an integer. -/
theorem cmp_si {t t0 t1 : TypeId} {f0 f1 : Field} {k : IntKind} (ht : P.underlying t = some (.struct #[f0, f1])) (hs : P.stoodInHeld t = false) (hn : f0.name ≠ "_" ∧ f1.name ≠ "_") (hf : (f0.type = t0 ∧ f1.type = t1) ∧ f0.offset = 0 ∧ f1.offset = 1)
    (h0 : P.underlying t0 = some .string) (n0 : NA P t0) (h1 : P.underlying t1 = some (.int k)) (n1 : NA P t1) : CmpT P t (fun p : ByteArray × Int => .agg #[.string p.1, .int k p.2]) 2 := fun d hd a b w => by
  obtain ⟨d, rfl⟩ : ∃ e, d = e + 1 := ⟨d - 1, by omega⟩
  have e := equalIn_struct (P := P) (d := d) (w := w) (xs := #[.string a.1, .int k a.2]) (ys := #[.string b.1, .int k b.2]) (bs := [decide (a.1 = b.1), decide (a.2 = b.2)]) ht hs rfl (fun i f c hf' hc => by
    match i with
    | 0 => simp at hf' hc; subst hf'; subst hc; rw [hf.1.1, hf.2.1]; exact ⟨hn.1, _, _, part_na n0 rfl, part_na n0 rfl, cmp_str h0 d (by omega) _ _ w⟩
    | 1 => simp at hf' hc; subst hf'; subst hc; rw [hf.1.2, hf.2.2]; exact ⟨hn.2, _, _, part_na n1 rfl, part_na n1 rfl, cmp_int h1 d (by omega) _ _ w⟩
    | i + 2 => simp at hf')
  refine e.trans ?_; congr 1
  cases a; cases b; simp
theorem Ct.fr {P : Program} {f : FuncId} {args : List Value} {S F : HProp} {x : Value} (c : Ct P f args [S] (fun v hs => v = x ∧ hs = [S])) : Ct P f args [S, F] (fun v hs => v = x ∧ hs = [S, F]) :=
  ⟨c.enters, fun w0 w R s => (c.calls w0 w (F :: R) s).mono fun _ _ ⟨v, hs, e, ⟨h1, h2⟩, t⟩ => ⟨v, [S, F], e, ⟨h1, rfl⟩, by subst h2; exact t⟩⟩
theorem Ct.two0 {P : Program} {f : FuncId} {args : List Value} {A B : HProp} {x : Value} (c : Ct P f args [Sl.two A B] (fun v hs => v = x ∧ hs = [Sl.two A B])) : Ct P f args [A, B] (fun v hs => v = x ∧ hs = [A, B]) :=
  (c.two fun _ _ h => ⟨[], h.2⟩).mono fun v hs ⟨r, ⟨h1, h2⟩, h3⟩ => ⟨h1, by cases h2; exact h3⟩
end
end Go.Sl
namespace Go.Qu
open Go Go.Sl Go.Gv Go.Ix
theorem ARd.two1 {S A : HProp} {a : AskV} (h : ARd S a) : ARd (two S A) a := by
  induction h with
  | mk hw hs hl h ih => exact .mk (Srd.two1 hw) (Srd.two1 hs) hl ih
end Go.Qu
namespace Go.Ix
open Go Go.Sl Go.Gv Go.Kv Go.Po Go.Bst
end Go.Ix
namespace Go.Proofs.YtklgiidfompdpaaGreatDoor
open Go Go.Sl Go.Gv Go.Kv Go.Po Go.Ix Go.Qu Go.Shelf
set_option maxRecDepth 100000
theorem tok_at (l : List ByteArray) (i : Nat) : (toksOf l 0)[i]? = l[i]?.map fun w => (w, (i : Int)) := by
  unfold toksOf
  rw [List.getElem?_map, List.getElem?_zipIdx]
  cases l[i]? <;> simp
theorem cmp_98 : CmpT Tryz.prog 98 (fun p : ByteArray × Int => .agg #[.string p.1, .int .i64 p.2]) 2 :=
  cmp_si Tryz.underlying98 Tryz.stoodInHeld98 ⟨by decide, by decide⟩ ⟨⟨rfl, rfl⟩, rfl, rfl⟩ Tryz.underlying9 na_9 Tryz.underlying3 na_3
theorem indexW_spec {S F : HProp} {g : FuncId} {c1 : Value} {q : WordP → Bool} {a : Option Addr} {c : Nat} {l : List WordP} (hS : Srd S 2 wordC a l) (hl : l.length ≤ 1000) (hg : ∀ x ∈ l, Ct Tryz.prog g ([] ++ [wordV x] ++ [c1]) [S, F] (fun v hs => v = .bool (q x) ∧ hs = [S, F])) :
    Ct Tryz.prog 204 [.slice a l.length c, .func (.func g) #[] #[c1]] [S, F] (fun v hs => (∃ z : Int, v = int z ∧ decide (0 ≤ z) = l.any q) ∧ hs = [S, F]) := by
  refine Ct.intro Tryz.func204 rfl (by kernel_rfl) 19 Tryz.ntmps204 (Nat.le_of_ble_eq_true rfl) fun w0 R => ?_
  refine Gs.slAddr (hS.h (by repeat constructor)) fun ab ao ha => ?_
  refine Gs.seq ?_
  refine Gs.reg ?_
  refine Go.Sl.L.pu rfl rfl trivial (pu_assign rfl) ?_
  refine Go.Sl.L.nil ?_
  refine Gs.then_n ?_
  refine Gs.seq ?_
  refine Gs.seq ?_
  refine Gs.reg ?_
  refine Go.Sl.L.pu rfl rfl trivial (pu_move rfl) ?_
  refine Go.Sl.L.pu rfl rfl trivial (pu_len Tryz.underlying83 rfl) ?_
  refine Go.Sl.L.pu rfl rfl trivial (pu_move rfl) ?_
  refine Go.Sl.L.nil ?_
  refine Gs.then_n ?_
  refine Gs.block ?_
  refine Gs.loop1 (fun i : Nat => i ≤ l.length ∧ (l.take i).any q = false) (fun i => [(0, .slice a l.length c), (1, .func (.func g) #[] #[c1]), (7, int l.length), (8, int i)]) (fun i => [S, F] ++ R) (fun i => l.length - i) 0 (⟨Nat.zero_le _, rfl⟩) (by repeat constructor) (by repeat constructor) (fun i ⟨hi, hq⟩ => ?_)
  refine Gs.seq ?_
  refine Gs.reg ?_
  refine Go.Sl.L.pu rfl rfl trivial (pu_lt rfl rfl) ?_
  refine Go.Sl.L.nil ?_
  refine Gs.then_n ?_
  refine Gs.seq ?_
  refine Gs.cond rfl (fun hc0 => ?_) (fun hc0 => ?_)
  · skip
    have hlt : i < l.length := by have := of_decide_eq_true hc0; omega
    obtain ⟨x, hx⟩ : ∃ x, l[i]? = some x := ⟨l[i], by simp [hlt]⟩
    obtain rfl := ha (by rintro rfl; simp at hlt)
    have hm := List.mem_of_getElem? hx
    refine Gs.skip ?_
    refine Gs.then_n ?_
    refine Gs.seq ?_
    refine Gs.block ?_
    refine Gs.seq ?_
    refine Gs.reg ?_
    refine Go.Sl.L.pu rfl rfl trivial (pu_move rfl) ?_
    refine Go.Sl.L.pu rfl rfl trivial (pu_assign rfl) ?_
    refine Go.Sl.L.nil ?_
    refine Gs.then_n ?_
    refine Gs.seq ?_
    refine Gs.reg ?_
    refine Go.Sl.L.pu rfl rfl trivial (pu_move rfl) ?_
    refine Go.Sl.L.pu rfl rfl trivial (pu_move rfl) ?_
    refine Go.Sl.L.pu rfl rfl trivial (pu_move rfl) ?_
    refine Go.Sl.L.pu rfl rfl trivial (pu_ia se_83 rfl rfl (by omega) (by omega)) ?_
    refine Go.Sl.L.rd rfl rfl trivial (rd_lda ag_98 rfl (Rdc.el0 (hS.h (by repeat constructor)) hx rfl rfl) rfl) ?_
    refine Go.Sl.L.ac rfl rfl trivial (as_callV rfl (hg x hm) (by repeat constructor) (by repeat constructor)) ?_
    rintro _ _ ⟨_, ⟨rfl, rfl⟩, rfl⟩
    refine Go.Sl.L.nil ?_
    refine Gs.then_n ?_
    refine Gs.cond rfl (fun hc1 => ?_) (fun hc1 => ?_)
    · skip
      have hyes : l.any q = true := List.any_eq_true.2 ⟨x, hm, hc1⟩
      refine Gs.seq ?_
      refine Gs.reg ?_
      refine Go.Sl.L.pu rfl rfl trivial (pu_move rfl) ?_
      refine Go.Sl.L.pu rfl rfl trivial (pu_assign rfl) ?_
      refine Go.Sl.L.nil ?_
      refine Gs.then_n ?_
      refine Gs.ret ?_
      refine Gs.blk_r ?_
      refine Gs.then_r ?_
      refine Gs.then_r ?_
      refine Gs.blk_r ?_
      refine Gs.then_r ?_
      exact Gs.fin1 Tryz.results204 rfl _ (⟨⟨_, rfl, by rw [hyes]; exact decide_eq_true (by omega)⟩, rfl⟩) (by repeat constructor)
    · skip
      have hno : (l.take (i + 1)).any q = false := by rw [List.take_add_one, hx, List.any_append, hq]; simp [hc1]
      refine Gs.skip ?_
      refine Gs.blk_n ?_
      refine Gs.then_n ?_
      refine Gs.reg ?_
      refine Go.Sl.L.pu rfl rfl trivial (by first | exact pu_addI rfl rfl rfl (by omega) (by omega) | exact pu_add rfl rfl) ?_
      refine Go.Sl.L.pu rfl rfl trivial (pu_move rfl) ?_
      refine Go.Sl.L.nil ?_
      refine Gs.then_n ?_
      exact Gs.again1 (i + 1) ⟨hlt, hno⟩ (by show l.length - (i + 1) < l.length - i; omega) (by repeat constructor) (by repeat constructor)
  · skip
    have hge : i = l.length := by have := of_decide_eq_false hc0; omega
    rw [hge, List.take_length] at hq
    refine Gs.exit ?_
    refine Gs.then_x ?_
    refine Gs.then_x ?_
    refine Gs.blk_hit ?_
    refine Gs.then_n ?_
    refine Gs.seq ?_
    refine Gs.reg ?_
    refine Go.Sl.L.pu rfl rfl trivial (pu_assign rfl) ?_
    refine Go.Sl.L.nil ?_
    refine Gs.then_n ?_
    refine Gs.ret ?_
    exact Gs.fin1 Tryz.results204 rfl _ (⟨⟨_, rfl, by rw [hq]; rfl⟩, rfl⟩) (by repeat constructor)
theorem containsW_spec {S F : HProp} {g : FuncId} {c1 : Value} {q : WordP → Bool} {a : Option Addr} {c : Nat} {l : List WordP} (hS : Srd S 2 wordC a l) (hl : l.length ≤ 1000) (hg : ∀ x ∈ l, Ct Tryz.prog g ([] ++ [wordV x] ++ [c1]) [S, F] (fun v hs => v = .bool (q x) ∧ hs = [S, F])) :
    Ct Tryz.prog 159 [.slice a l.length c, .func (.func g) #[] #[c1]] [S, F] (fun v hs => v = .bool (l.any q) ∧ hs = [S, F]) := by
  refine Ct.intro Tryz.func159 rfl (by kernel_rfl) 9 Tryz.ntmps159 (Nat.le_of_ble_eq_true rfl) fun w0 R => ?_
  refine Gs.seq ?_
  refine Gs.reg ?_
  refine Go.Sl.L.pu rfl rfl trivial (pu_assign rfl) ?_
  refine Go.Sl.L.nil ?_
  refine Gs.then_n ?_
  refine Gs.seq ?_
  refine Gs.reg ?_
  refine Go.Sl.L.pu rfl rfl trivial (pu_move rfl) ?_
  refine Go.Sl.L.pu rfl rfl trivial (pu_move rfl) ?_
  refine Go.Sl.L.ac rfl rfl trivial (as_call (indexW_spec hS hl hg) (by repeat constructor) (by repeat constructor)) ?_
  rintro _ _ ⟨_, ⟨⟨z, rfl, hz⟩, rfl⟩, rfl⟩
  refine Go.Sl.L.pu rfl rfl trivial (pu_ge rfl rfl) ?_
  refine Go.Sl.L.pu rfl rfl trivial (pu_assign rfl) ?_
  refine Go.Sl.L.nil ?_
  refine Gs.then_n ?_
  refine Gs.ret ?_
  exact Gs.fin1 Tryz.results159 rfl _ (⟨by rw [← hz], rfl⟩) (by repeat constructor)
theorem indexAv_spec {S F : HProp} {g : FuncId} {us cs : List Value} {q : AskV → Bool} {a : Option Addr} {c : Nat} {ls : List AskV} (hS : Srd S 4 askC a ls) (hg : ∀ l ∈ ls, Ct Tryz.prog g (us ++ [askV l] ++ cs) [S, F] (fun v hs => v = .bool (q l) ∧ hs = [S, F])) (hl : ls.length ≤ 1000) :
    Ct Tryz.prog 165 [.slice a ls.length c, .func (.func g) us.toArray cs.toArray] [S, F] (fun v hs => (∃ z : Int, v = int z ∧ decide (0 ≤ z) = ls.any q) ∧ hs = [S, F]) := by
  refine Ct.intro Tryz.func165 rfl (by kernel_rfl) 19 Tryz.ntmps165 (Nat.le_of_ble_eq_true rfl) fun w0 R => ?_
  refine Gs.slAddr (hS.h (by repeat constructor)) fun ab ao ha => ?_
  refine Gs.seq ?_
  refine Gs.reg ?_
  refine Go.Sl.L.pu rfl rfl trivial (pu_assign rfl) ?_
  refine Go.Sl.L.nil ?_
  refine Gs.then_n ?_
  refine Gs.seq ?_
  refine Gs.seq ?_
  refine Gs.reg ?_
  refine Go.Sl.L.pu rfl rfl trivial (pu_move rfl) ?_
  refine Go.Sl.L.pu rfl rfl trivial (pu_len Tryz.underlying24 rfl) ?_
  refine Go.Sl.L.pu rfl rfl trivial (pu_move rfl) ?_
  refine Go.Sl.L.nil ?_
  refine Gs.then_n ?_
  refine Gs.block ?_
  refine Gs.loop1 (fun i : Nat => i ≤ ls.length ∧ (ls.take i).any q = false) (fun i => [(0, .slice a ls.length c), (1, .func (.func g) us.toArray cs.toArray), (7, int ls.length), (8, int i)]) (fun i => [S, F] ++ R) (fun i => ls.length - i) 0 (⟨Nat.zero_le _, rfl⟩) (by repeat constructor) (by repeat constructor) (fun i ⟨hi, hq⟩ => ?_)
  refine Gs.seq ?_
  refine Gs.reg ?_
  refine Go.Sl.L.pu rfl rfl trivial (pu_lt rfl rfl) ?_
  refine Go.Sl.L.nil ?_
  refine Gs.then_n ?_
  refine Gs.seq ?_
  refine Gs.cond rfl (fun hc0 => ?_) (fun hc0 => ?_)
  · skip
    have hlt : i < ls.length := by have := of_decide_eq_true hc0; omega
    obtain ⟨x, hx⟩ : ∃ x, ls[i]? = some x := ⟨ls[i], by simp [hlt]⟩
    obtain rfl := ha (by rintro rfl; simp at hlt)
    have hm := List.mem_of_getElem? hx
    refine Gs.skip ?_
    refine Gs.then_n ?_
    refine Gs.seq ?_
    refine Gs.block ?_
    refine Gs.seq ?_
    refine Gs.reg ?_
    refine Go.Sl.L.pu rfl rfl trivial (pu_move rfl) ?_
    refine Go.Sl.L.pu rfl rfl trivial (pu_assign rfl) ?_
    refine Go.Sl.L.nil ?_
    refine Gs.then_n ?_
    refine Gs.seq ?_
    refine Gs.reg ?_
    refine Go.Sl.L.pu rfl rfl trivial (pu_move rfl) ?_
    refine Go.Sl.L.pu rfl rfl trivial (pu_move rfl) ?_
    refine Go.Sl.L.pu rfl rfl trivial (pu_move rfl) ?_
    refine Go.Sl.L.pu rfl rfl trivial (pu_ia se_24 rfl rfl (by omega) (by omega)) ?_
    refine Go.Sl.L.rd rfl rfl trivial (rd_lda ag_26 rfl (Rdc.el0 (hS.h (by repeat constructor)) hx rfl rfl) rfl) ?_
    refine Go.Sl.L.ac rfl rfl trivial (as_callV rfl (hg x hm) (by repeat constructor) (by repeat constructor)) ?_
    rintro _ _ ⟨_, ⟨rfl, rfl⟩, rfl⟩
    refine Go.Sl.L.nil ?_
    refine Gs.then_n ?_
    refine Gs.cond rfl (fun hc1 => ?_) (fun hc1 => ?_)
    · skip
      have hyes : ls.any q = true := List.any_eq_true.2 ⟨x, hm, hc1⟩
      refine Gs.seq ?_
      refine Gs.reg ?_
      refine Go.Sl.L.pu rfl rfl trivial (pu_move rfl) ?_
      refine Go.Sl.L.pu rfl rfl trivial (pu_assign rfl) ?_
      refine Go.Sl.L.nil ?_
      refine Gs.then_n ?_
      refine Gs.ret ?_
      refine Gs.blk_r ?_
      refine Gs.then_r ?_
      refine Gs.then_r ?_
      refine Gs.blk_r ?_
      refine Gs.then_r ?_
      exact Gs.fin1 Tryz.results165 rfl _ (⟨⟨_, rfl, by rw [hyes]; exact decide_eq_true (by omega)⟩, rfl⟩) (by repeat constructor)
    · skip
      have hno : (ls.take (i + 1)).any q = false := by rw [List.take_add_one, hx, List.any_append, hq]; simp [hc1]
      refine Gs.skip ?_
      refine Gs.blk_n ?_
      refine Gs.then_n ?_
      refine Gs.reg ?_
      refine Go.Sl.L.pu rfl rfl trivial (by first | exact pu_addI rfl rfl rfl (by omega) (by omega) | exact pu_add rfl rfl) ?_
      refine Go.Sl.L.pu rfl rfl trivial (pu_move rfl) ?_
      refine Go.Sl.L.nil ?_
      refine Gs.then_n ?_
      exact Gs.again1 (i + 1) ⟨hlt, hno⟩ (by show ls.length - (i + 1) < ls.length - i; omega) (by repeat constructor) (by repeat constructor)
  · skip
    have hge : i = ls.length := by have := of_decide_eq_false hc0; omega
    rw [hge, List.take_length] at hq
    refine Gs.exit ?_
    refine Gs.then_x ?_
    refine Gs.then_x ?_
    refine Gs.blk_hit ?_
    refine Gs.then_n ?_
    refine Gs.seq ?_
    refine Gs.reg ?_
    refine Go.Sl.L.pu rfl rfl trivial (pu_assign rfl) ?_
    refine Go.Sl.L.nil ?_
    refine Gs.then_n ?_
    refine Gs.ret ?_
    exact Gs.fin1 Tryz.results165 rfl _ (⟨⟨_, rfl, by rw [hq]; rfl⟩, rfl⟩) (by repeat constructor)
theorem containsAv_spec {S F : HProp} {g : FuncId} {us cs : List Value} {q : AskV → Bool} {a : Option Addr} {c : Nat} {ls : List AskV} (hS : Srd S 4 askC a ls) (hg : ∀ l ∈ ls, Ct Tryz.prog g (us ++ [askV l] ++ cs) [S, F] (fun v hs => v = .bool (q l) ∧ hs = [S, F])) (hl : ls.length ≤ 1000) :
    Ct Tryz.prog 119 [.slice a ls.length c, .func (.func g) us.toArray cs.toArray] [S, F] (fun v hs => v = .bool (ls.any q) ∧ hs = [S, F]) := by
  refine Ct.intro Tryz.func119 rfl (by kernel_rfl) 9 Tryz.ntmps119 (Nat.le_of_ble_eq_true rfl) fun w0 R => ?_
  refine Gs.seq ?_
  refine Gs.reg ?_
  refine Go.Sl.L.pu rfl rfl trivial (pu_assign rfl) ?_
  refine Go.Sl.L.nil ?_
  refine Gs.then_n ?_
  refine Gs.seq ?_
  refine Gs.reg ?_
  refine Go.Sl.L.pu rfl rfl trivial (pu_move rfl) ?_
  refine Go.Sl.L.pu rfl rfl trivial (pu_move rfl) ?_
  refine Go.Sl.L.ac rfl rfl trivial (as_call (indexAv_spec hS hg hl) (by repeat constructor) (by repeat constructor)) ?_
  rintro _ _ ⟨_, ⟨⟨z, rfl, hz⟩, rfl⟩, rfl⟩
  refine Go.Sl.L.pu rfl rfl trivial (pu_ge rfl rfl) ?_
  refine Go.Sl.L.pu rfl rfl trivial (pu_assign rfl) ?_
  refine Go.Sl.L.nil ?_
  refine Gs.then_n ?_
  refine Gs.ret ?_
  exact Gs.fin1 Tryz.results119 rfl _ (⟨by rw [← hz], rfl⟩) (by repeat constructor)
theorem phraseD_spec {S : HProp} {a b : Option Addr} {c e : Nat} {l ps : List ByteArray} (hS : Srd S 2 wordC a (toksOf l 0)) (hP : Srd S 1 strC b ps) (hl : l.length ≤ 1000) (hpl : ps.length ≤ 1000) :
    Ct Tryz.prog 158 [.slice a (toksOf l 0).length c, .slice b ps.length e] [S] (fun v hs => v = .bool (infB l ps) ∧ hs = [S]) := by
  obtain ⟨v0, hv0⟩ : ∃ z, z = infB l ps := ⟨_, rfl⟩
  rw [← hv0]
  have hTl := toks_length l 0
  refine Ct.intro Tryz.func158 rfl (by kernel_rfl) 56 Tryz.ntmps158 (Nat.le_of_ble_eq_true rfl) fun w0 R => ?_
  refine Gs.slAddr (hS.h (by repeat constructor)) fun ab ao ha => ?_
  refine Gs.slAddr (hP.h (by repeat constructor)) fun bb bo hb => ?_
  refine Gs.seq ?_
  refine Gs.reg ?_
  refine Go.Sl.L.pu rfl rfl trivial (pu_assign rfl) ?_
  refine Go.Sl.L.nil ?_
  refine Gs.then_n ?_
  refine Gs.seq ?_
  refine Gs.seq ?_
  refine Gs.reg ?_
  refine Go.Sl.L.pu rfl rfl trivial (pu_move rfl) ?_
  refine Go.Sl.L.pu rfl rfl trivial (pu_len Tryz.underlying83 rfl) ?_
  refine Go.Sl.L.pu rfl rfl trivial (pu_move rfl) ?_
  refine Go.Sl.L.nil ?_
  refine Gs.then_n ?_
  refine Gs.block ?_
  refine Gs.loop1 (fun i : Nat => i ≤ l.length ∧ (ps = [] ∨ ∀ j, j < i → ¬ ∀ k, k < ps.length → l[j + k]? = ps[k]?)) (fun i => [(0, .slice a (toksOf l 0).length c), (1, .slice b ps.length e), (8, int (toksOf l 0).length), (9, int i)]) (fun i => [S] ++ R) (fun i => l.length - i) 0 (⟨Nat.zero_le _, .inr fun j h => by omega⟩) (by repeat constructor) (by repeat constructor) (fun i ⟨hi, hno⟩ => ?_)
  refine Gs.seq ?_
  refine Gs.reg ?_
  refine Go.Sl.L.pu rfl rfl trivial (pu_lt rfl rfl) ?_
  refine Go.Sl.L.nil ?_
  refine Gs.then_n ?_
  refine Gs.seq ?_
  refine Gs.cond rfl (fun hc0 => ?_) (fun hc0 => ?_)
  · skip
    have hlt : i < l.length := by have := of_decide_eq_true hc0; omega
    obtain ⟨w, hw⟩ : ∃ z, l[i]? = some z := ⟨l[i], by simp [hlt]⟩
    have hwT : (toksOf l 0)[i]? = some (w, (i : Int)) := by rw [tok_at, hw]; rfl
    obtain rfl := ha (fun hc => by rw [hc] at hTl; simp at hTl; omega)
    refine Gs.skip ?_
    refine Gs.then_n ?_
    refine Gs.seq ?_
    refine Gs.block ?_
    refine Gs.seq ?_
    refine Gs.reg ?_
    refine Go.Sl.L.pu rfl rfl trivial (pu_move rfl) ?_
    refine Go.Sl.L.pu rfl rfl trivial (pu_assign rfl) ?_
    refine Go.Sl.L.nil ?_
    refine Gs.then_n ?_
    refine Gs.seq ?_
    refine Gs.reg ?_
    refine Go.Sl.L.pu rfl rfl trivial (pu_assign rfl) ?_
    refine Go.Sl.L.nil ?_
    refine Gs.then_n ?_
    refine Gs.seq ?_
    refine Gs.block ?_
    refine Gs.loop1 (fun n : Nat => n ≤ ps.length ∧ ∀ k, k < n → l[i + k]? = ps[k]?) (fun n => [(0, .slice (some ⟨ab, ao, none⟩) (toksOf l 0).length c), (1, .slice b ps.length e), (5, int i), (6, int n), (8, int (toksOf l 0).length), (9, int i)]) (fun n => [S] ++ R) (fun n => ps.length - n) 0 (⟨Nat.zero_le _, fun k h => by omega⟩) (by repeat constructor) (by repeat constructor) (fun n ⟨hn, hall⟩ => ?_)
    refine Gs.seq ?_
    refine Gs.seq ?_
    refine Gs.regD mixed (by kernel_rfl) ?_
    refine Rg.pu 0 rfl rfl (by kernel_rfl) trivial (pu_move rfl) ?_
    refine Rg.pu 1 rfl rfl (by kernel_rfl) trivial (pu_move rfl) ?_
    refine Rg.pu 2 rfl rfl (by kernel_rfl) trivial (pu_len Tryz.underlying23 rfl) ?_
    refine Rg.pu 3 rfl rfl (by kernel_rfl) trivial (pu_lt rfl rfl) ?_
    refine Rg.puB 4 rfl rfl (by kernel_rfl) trivial (pu_move rfl) (fun hg4 => ?_) (fun hg4 => ?_)
    · skip
      have hnl : n < ps.length := by have := of_decide_eq_true hg4; omega
      obtain ⟨p, hp⟩ : ∃ z, ps[n]? = some z := ⟨ps[n], by simp [hnl]⟩
      obtain rfl := hb (by rintro rfl; simp at hnl)
      refine Rg.pu 5 rfl rfl (by kernel_rfl) ⟨_, rfl, rfl⟩ (pu_move rfl) ?_
      refine Rg.pu 6 rfl rfl (by kernel_rfl) ⟨_, rfl, rfl⟩ (pu_move rfl) ?_
      refine Rg.pu 7 rfl rfl (by kernel_rfl) ⟨_, rfl, rfl⟩ (pu_addI (z := ((i + n : Nat) : Int)) rfl rfl (by omega) (by omega) (by omega)) ?_
      refine Rg.pu 8 rfl rfl (by kernel_rfl) ⟨_, rfl, rfl⟩ (pu_move rfl) ?_
      refine Rg.pu 9 rfl rfl (by kernel_rfl) ⟨_, rfl, rfl⟩ (pu_len Tryz.underlying83 rfl) ?_
      refine Rg.pu 10 rfl rfl (by kernel_rfl) ⟨_, rfl, rfl⟩ (pu_lt rfl rfl) ?_
      refine Rg.pu 11 rfl rfl (by kernel_rfl) trivial (by first | exact pu_pick_t rfl rfl | exact pu_pick_f rfl rfl) ?_
      refine Rg.puB 12 rfl rfl (by kernel_rfl) trivial (pu_move rfl) (fun hg12 => ?_) (fun hg12 => ?_)
      · skip
        have hin : i + n < l.length := by have := of_decide_eq_true hg12; omega
        obtain ⟨x, hx⟩ : ∃ z, l[i + n]? = some z := ⟨l[i + n], by simp [hin]⟩
        have hxT : (toksOf l 0)[i + n]? = some (x, ((i + n : Nat) : Int)) := by rw [tok_at, hx]; rfl
        refine Rg.pu 13 rfl rfl (by kernel_rfl) ⟨_, rfl, rfl⟩ (pu_move rfl) ?_
        refine Rg.pu 14 rfl rfl (by kernel_rfl) ⟨_, rfl, rfl⟩ (pu_move rfl) ?_
        refine Rg.pu 15 rfl rfl (by kernel_rfl) ⟨_, rfl, rfl⟩ (pu_move rfl) ?_
        refine Rg.pu 16 rfl rfl (by kernel_rfl) ⟨_, rfl, rfl⟩ (pu_addI (z := ((i + n : Nat) : Int)) rfl rfl (by omega) (by omega) (by omega)) ?_
        refine Rg.pu 17 rfl rfl (by kernel_rfl) ⟨_, rfl, rfl⟩ (pu_ia se_83 rfl rfl (by omega) (by omega)) ?_
        refine Rg.rd 18 rfl rfl (by kernel_rfl) ⟨_, rfl, rfl⟩ (rd_lda ag_98 rfl (Rdc.el0 (hS.h (by repeat constructor)) hxT rfl rfl) rfl) ?_
        refine Rg.pu 19 rfl rfl (by kernel_rfl) ⟨_, rfl, rfl⟩ (pu_move rfl) ?_
        refine Rg.pu 20 rfl rfl (by kernel_rfl) ⟨_, rfl, rfl⟩ (pu_move rfl) ?_
        refine Rg.pu 21 rfl rfl (by kernel_rfl) ⟨_, rfl, rfl⟩ (pu_ia se_23 rfl rfl (by omega) (by omega)) ?_
        refine Rg.rd 22 rfl rfl (by kernel_rfl) ⟨_, rfl, rfl⟩ (rd_ld na_9 rfl (Rdc.el0 (hP.h (by repeat constructor)) hp rfl rfl)) ?_
        refine Rg.pu 23 rfl rfl (by kernel_rfl) ⟨_, rfl, rfl⟩ (pu_move rfl) ?_
        refine Rg.pu 24 rfl rfl (by kernel_rfl) ⟨_, rfl, rfl⟩ (pu_move rfl) ?_
        refine Rg.pu 25 rfl rfl (by kernel_rfl) ⟨_, rfl, rfl⟩ (pu_ia se_83 rfl rfl (by omega) (by omega)) ?_
        refine Rg.pu 26 rfl rfl (by kernel_rfl) ⟨_, rfl, rfl⟩ (pu_fa fa_98_1 rfl) ?_
        refine Rg.rd 27 rfl rfl (by kernel_rfl) ⟨_, rfl, rfl⟩ (rd_ld na_3 rfl (Rdc.elp 1 (hS.h (by repeat constructor)) hwT rfl rfl)) ?_
        refine Rg.pu 28 rfl rfl (by kernel_rfl) ⟨_, rfl, rfl⟩ (pu_move rfl) ?_
        refine Rg.pu 29 rfl rfl (by kernel_rfl) ⟨_, rfl, rfl⟩ (pu_addI (z := ((i + n : Nat) : Int)) rfl rfl (by omega) (by omega) (by omega)) ?_
        refine Rg.pu 30 rfl rfl (by kernel_rfl) ⟨_, rfl, rfl⟩ (pu_build bd_98 (by repeat constructor) rfl) ?_
        refine Rg.pu 31 rfl rfl (by kernel_rfl) ⟨_, rfl, rfl⟩ (pu_eqT (cs := wordC) (a := (x, ((i + n : Nat) : Int))) (b := (p, ((i + n : Nat) : Int))) cmp_98 (by decide) Tryz.eqGuardType98 rfl rfl) ?_
        refine Rg.pu 32 rfl rfl (by kernel_rfl) trivial (by first | exact pu_pick_t rfl rfl | exact pu_pick_f rfl rfl) ?_
        refine Rg.end (by kernel_rfl) ?_
        refine Gs.then_n ?_
        refine Gs.cond rfl (fun hc1 => ?_) (fun hc1 => ?_)
        · skip
          have hxp : x = p := congrArg Prod.fst (of_decide_eq_true hc1)
          have hall2 : ∀ k, k < n + 1 → l[i + k]? = ps[k]? := fun k hk => by
            by_cases e : k = n
            · subst e; rw [hx, hp, hxp]
            · exact hall k (by omega)
          refine Gs.skip ?_
          refine Gs.then_n ?_
          refine Gs.block ?_
          refine Gs.reg ?_
          refine Go.Sl.L.pu rfl rfl trivial (pu_move rfl) ?_
          refine Go.Sl.L.pu rfl rfl trivial (by first | exact pu_addI rfl rfl rfl (by omega) (by omega) | exact pu_add rfl rfl) ?_
          refine Go.Sl.L.pu rfl rfl trivial (pu_assign rfl) ?_
          refine Go.Sl.L.nil ?_
          refine Gs.blk_n ?_
          refine Gs.then_n ?_
          exact Gs.again1 (n + 1) ⟨hnl, hall2⟩ (by omega) (by repeat constructor) (by repeat constructor)
        · skip
          have hend : n = ps.length ∨ (n < ps.length ∧ l[i + n]? ≠ ps[n]?) := .inr ⟨hnl, by rw [hx, hp]; exact fun h => (of_decide_eq_false hc1) (by cases h; rfl)⟩
          refine Gs.exit ?_
          refine Gs.then_x ?_
          refine Gs.then_x ?_
          refine Gs.blk_hit ?_
          refine Gs.then_n ?_
          refine Gs.seq ?_
          refine Gs.reg ?_
          refine Go.Sl.L.pu rfl rfl trivial (pu_move rfl) ?_
          refine Go.Sl.L.pu rfl rfl trivial (pu_gt rfl rfl) ?_
          refine Go.Sl.L.puB rfl rfl trivial (pu_move rfl) (fun hg2 => ?_) (fun hg2 => ?_)
          · skip
            refine Go.Sl.L.pu rfl rfl ⟨_, rfl, rfl⟩ (pu_move rfl) ?_
            refine Go.Sl.L.pu rfl rfl ⟨_, rfl, rfl⟩ (pu_move rfl) ?_
            refine Go.Sl.L.pu rfl rfl ⟨_, rfl, rfl⟩ (pu_len Tryz.underlying23 rfl) ?_
            refine Go.Sl.L.pu rfl rfl ⟨_, rfl, rfl⟩ (pu_eq rfl rfl) ?_
            refine Go.Sl.L.pu rfl rfl trivial (by first | exact pu_pick_t rfl rfl | exact pu_pick_f rfl rfl) ?_
            refine Go.Sl.L.nil ?_
            refine Gs.then_n ?_
            refine Gs.cond rfl (fun hc2 => ?_) (fun hc2 => ?_)
            · skip
              have hpos : 0 < n := by have := of_decide_eq_true hg2; omega
              have hyes : infB l ps = true := infB_iff.2 ⟨fun e => by rw [e] at hn; simp at hn; omega, i, hlt, fun k hk => hall k (by have := of_decide_eq_true hc2; omega)⟩
              refine Gs.seq ?_
              refine Gs.reg ?_
              refine Go.Sl.L.pu rfl rfl trivial (pu_assign rfl) ?_
              refine Go.Sl.L.nil ?_
              refine Gs.then_n ?_
              refine Gs.ret ?_
              refine Gs.blk_r ?_
              refine Gs.then_r ?_
              refine Gs.then_r ?_
              refine Gs.blk_r ?_
              refine Gs.then_r ?_
              exact Gs.fin1 Tryz.results158 rfl _ (⟨by rw [hv0, hyes], rfl⟩) (by repeat constructor)
            · skip
              have hfin : ps = [] ∨ ∀ j, j < i + 1 → ¬ ∀ k, k < ps.length → l[j + k]? = ps[k]? := by
                have hz : n ≠ ps.length := by have := of_decide_eq_false hc2; omega
                rcases hend with h | ⟨h1, h2⟩
                · exact absurd h hz
                · rcases hno with h3 | h3
                  · exact .inl h3
                  · refine .inr fun j hj hc => ?_
                    by_cases ej : j = i
                    · subst ej; exact h2 (hc n h1)
                    · exact h3 j (by omega) hc
              refine Gs.skip ?_
              refine Gs.blk_n ?_
              refine Gs.then_n ?_
              refine Gs.reg ?_
              refine Go.Sl.L.pu rfl rfl trivial (by first | exact pu_addI rfl rfl rfl (by omega) (by omega) | exact pu_add rfl rfl) ?_
              refine Go.Sl.L.pu rfl rfl trivial (pu_move rfl) ?_
              refine Go.Sl.L.nil ?_
              refine Gs.then_n ?_
              exact Gs.again1 (i + 1) ⟨hlt, hfin⟩ (by omega) (by repeat constructor) (by repeat constructor)
          · skip
            have hfin : ps = [] ∨ ∀ j, j < i + 1 → ¬ ∀ k, k < ps.length → l[j + k]? = ps[k]? := by
              have hz : n = 0 := by have := of_decide_eq_false hg2; omega
              rcases hend with h | ⟨h1, h2⟩
              · exact .inl (List.length_eq_zero_iff.1 (by omega))
              · rcases hno with h3 | h3
                · exact .inl h3
                · refine .inr fun j hj hc => ?_
                  by_cases ej : j = i
                  · subst ej; exact h2 (hc n h1)
                  · exact h3 j (by omega) hc
            refine Go.Sl.L.off rfl rfl rfl rfl rfl rfl ?_
            refine Go.Sl.L.off rfl rfl rfl rfl rfl rfl ?_
            refine Go.Sl.L.off rfl rfl rfl rfl rfl rfl ?_
            refine Go.Sl.L.off rfl rfl rfl rfl rfl rfl ?_
            refine Go.Sl.L.pu rfl rfl trivial (by first | exact pu_pick_t rfl rfl | exact pu_pick_f rfl rfl) ?_
            refine Go.Sl.L.nil ?_
            refine Gs.then_n ?_
            refine Gs.cond_f rfl ?_
            refine Gs.skip ?_
            refine Gs.blk_n ?_
            refine Gs.then_n ?_
            refine Gs.reg ?_
            refine Go.Sl.L.pu rfl rfl trivial (by first | exact pu_addI rfl rfl rfl (by omega) (by omega) | exact pu_add rfl rfl) ?_
            refine Go.Sl.L.pu rfl rfl trivial (pu_move rfl) ?_
            refine Go.Sl.L.nil ?_
            refine Gs.then_n ?_
            exact Gs.again1 (i + 1) ⟨hlt, hfin⟩ (by omega) (by repeat constructor) (by repeat constructor)
      · skip
        have hend : n = ps.length ∨ (n < ps.length ∧ l[i + n]? ≠ ps[n]?) := .inr ⟨hnl, by rw [hp, List.getElem?_eq_none (by have := of_decide_eq_false hg12; omega)]; exact fun h => by cases h⟩
        refine Rg.off 13 rfl rfl (by kernel_rfl) rfl rfl rfl rfl ?_
        refine Rg.off 14 rfl rfl (by kernel_rfl) rfl rfl rfl rfl ?_
        refine Rg.off 15 rfl rfl (by kernel_rfl) rfl rfl rfl rfl ?_
        refine Rg.off 16 rfl rfl (by kernel_rfl) rfl rfl rfl rfl ?_
        refine Rg.off 17 rfl rfl (by kernel_rfl) rfl rfl rfl rfl ?_
        refine Rg.off 18 rfl rfl (by kernel_rfl) rfl rfl rfl rfl ?_
        refine Rg.off 19 rfl rfl (by kernel_rfl) rfl rfl rfl rfl ?_
        refine Rg.off 20 rfl rfl (by kernel_rfl) rfl rfl rfl rfl ?_
        refine Rg.off 21 rfl rfl (by kernel_rfl) rfl rfl rfl rfl ?_
        refine Rg.off 22 rfl rfl (by kernel_rfl) rfl rfl rfl rfl ?_
        refine Rg.off 23 rfl rfl (by kernel_rfl) rfl rfl rfl rfl ?_
        refine Rg.off 24 rfl rfl (by kernel_rfl) rfl rfl rfl rfl ?_
        refine Rg.off 25 rfl rfl (by kernel_rfl) rfl rfl rfl rfl ?_
        refine Rg.off 26 rfl rfl (by kernel_rfl) rfl rfl rfl rfl ?_
        refine Rg.off 27 rfl rfl (by kernel_rfl) rfl rfl rfl rfl ?_
        refine Rg.off 28 rfl rfl (by kernel_rfl) rfl rfl rfl rfl ?_
        refine Rg.off 29 rfl rfl (by kernel_rfl) rfl rfl rfl rfl ?_
        refine Rg.off 30 rfl rfl (by kernel_rfl) rfl rfl rfl rfl ?_
        refine Rg.off 31 rfl rfl (by kernel_rfl) rfl rfl rfl rfl ?_
        refine Rg.pu 32 rfl rfl (by kernel_rfl) trivial (by first | exact pu_pick_t rfl rfl | exact pu_pick_f rfl rfl) ?_
        refine Rg.end (by kernel_rfl) ?_
        refine Gs.then_n ?_
        refine Gs.cond_f rfl ?_
        refine Gs.exit ?_
        refine Gs.then_x ?_
        refine Gs.then_x ?_
        refine Gs.blk_hit ?_
        refine Gs.then_n ?_
        refine Gs.seq ?_
        refine Gs.reg ?_
        refine Go.Sl.L.pu rfl rfl trivial (pu_move rfl) ?_
        refine Go.Sl.L.pu rfl rfl trivial (pu_gt rfl rfl) ?_
        refine Go.Sl.L.puB rfl rfl trivial (pu_move rfl) (fun hg2 => ?_) (fun hg2 => ?_)
        · skip
          refine Go.Sl.L.pu rfl rfl ⟨_, rfl, rfl⟩ (pu_move rfl) ?_
          refine Go.Sl.L.pu rfl rfl ⟨_, rfl, rfl⟩ (pu_move rfl) ?_
          refine Go.Sl.L.pu rfl rfl ⟨_, rfl, rfl⟩ (pu_len Tryz.underlying23 rfl) ?_
          refine Go.Sl.L.pu rfl rfl ⟨_, rfl, rfl⟩ (pu_eq rfl rfl) ?_
          refine Go.Sl.L.pu rfl rfl trivial (by first | exact pu_pick_t rfl rfl | exact pu_pick_f rfl rfl) ?_
          refine Go.Sl.L.nil ?_
          refine Gs.then_n ?_
          refine Gs.cond rfl (fun hc2 => ?_) (fun hc2 => ?_)
          · skip
            have hpos : 0 < n := by have := of_decide_eq_true hg2; omega
            have hyes : infB l ps = true := infB_iff.2 ⟨fun e => by rw [e] at hn; simp at hn; omega, i, hlt, fun k hk => hall k (by have := of_decide_eq_true hc2; omega)⟩
            refine Gs.seq ?_
            refine Gs.reg ?_
            refine Go.Sl.L.pu rfl rfl trivial (pu_assign rfl) ?_
            refine Go.Sl.L.nil ?_
            refine Gs.then_n ?_
            refine Gs.ret ?_
            refine Gs.blk_r ?_
            refine Gs.then_r ?_
            refine Gs.then_r ?_
            refine Gs.blk_r ?_
            refine Gs.then_r ?_
            exact Gs.fin1 Tryz.results158 rfl _ (⟨by rw [hv0, hyes], rfl⟩) (by repeat constructor)
          · skip
            have hfin : ps = [] ∨ ∀ j, j < i + 1 → ¬ ∀ k, k < ps.length → l[j + k]? = ps[k]? := by
              have hz : n ≠ ps.length := by have := of_decide_eq_false hc2; omega
              rcases hend with h | ⟨h1, h2⟩
              · exact absurd h hz
              · rcases hno with h3 | h3
                · exact .inl h3
                · refine .inr fun j hj hc => ?_
                  by_cases ej : j = i
                  · subst ej; exact h2 (hc n h1)
                  · exact h3 j (by omega) hc
            refine Gs.skip ?_
            refine Gs.blk_n ?_
            refine Gs.then_n ?_
            refine Gs.reg ?_
            refine Go.Sl.L.pu rfl rfl trivial (by first | exact pu_addI rfl rfl rfl (by omega) (by omega) | exact pu_add rfl rfl) ?_
            refine Go.Sl.L.pu rfl rfl trivial (pu_move rfl) ?_
            refine Go.Sl.L.nil ?_
            refine Gs.then_n ?_
            exact Gs.again1 (i + 1) ⟨hlt, hfin⟩ (by omega) (by repeat constructor) (by repeat constructor)
        · skip
          have hfin : ps = [] ∨ ∀ j, j < i + 1 → ¬ ∀ k, k < ps.length → l[j + k]? = ps[k]? := by
            have hz : n = 0 := by have := of_decide_eq_false hg2; omega
            rcases hend with h | ⟨h1, h2⟩
            · exact .inl (List.length_eq_zero_iff.1 (by omega))
            · rcases hno with h3 | h3
              · exact .inl h3
              · refine .inr fun j hj hc => ?_
                by_cases ej : j = i
                · subst ej; exact h2 (hc n h1)
                · exact h3 j (by omega) hc
          refine Go.Sl.L.off rfl rfl rfl rfl rfl rfl ?_
          refine Go.Sl.L.off rfl rfl rfl rfl rfl rfl ?_
          refine Go.Sl.L.off rfl rfl rfl rfl rfl rfl ?_
          refine Go.Sl.L.off rfl rfl rfl rfl rfl rfl ?_
          refine Go.Sl.L.pu rfl rfl trivial (by first | exact pu_pick_t rfl rfl | exact pu_pick_f rfl rfl) ?_
          refine Go.Sl.L.nil ?_
          refine Gs.then_n ?_
          refine Gs.cond_f rfl ?_
          refine Gs.skip ?_
          refine Gs.blk_n ?_
          refine Gs.then_n ?_
          refine Gs.reg ?_
          refine Go.Sl.L.pu rfl rfl trivial (by first | exact pu_addI rfl rfl rfl (by omega) (by omega) | exact pu_add rfl rfl) ?_
          refine Go.Sl.L.pu rfl rfl trivial (pu_move rfl) ?_
          refine Go.Sl.L.nil ?_
          refine Gs.then_n ?_
          exact Gs.again1 (i + 1) ⟨hlt, hfin⟩ (by omega) (by repeat constructor) (by repeat constructor)
    · skip
      have hend : n = ps.length ∨ (n < ps.length ∧ l[i + n]? ≠ ps[n]?) := .inl (by have := of_decide_eq_false hg4; omega)
      refine Rg.off 5 rfl rfl (by kernel_rfl) rfl rfl rfl rfl ?_
      refine Rg.off 6 rfl rfl (by kernel_rfl) rfl rfl rfl rfl ?_
      refine Rg.off 7 rfl rfl (by kernel_rfl) rfl rfl rfl rfl ?_
      refine Rg.off 8 rfl rfl (by kernel_rfl) rfl rfl rfl rfl ?_
      refine Rg.off 9 rfl rfl (by kernel_rfl) rfl rfl rfl rfl ?_
      refine Rg.off 10 rfl rfl (by kernel_rfl) rfl rfl rfl rfl ?_
      refine Rg.pu 11 rfl rfl (by kernel_rfl) trivial (by first | exact pu_pick_t rfl rfl | exact pu_pick_f rfl rfl) ?_
      refine Rg.pu 12 rfl rfl (by kernel_rfl) trivial (pu_move rfl) ?_
      refine Rg.off 13 rfl rfl (by kernel_rfl) rfl rfl rfl rfl ?_
      refine Rg.off 14 rfl rfl (by kernel_rfl) rfl rfl rfl rfl ?_
      refine Rg.off 15 rfl rfl (by kernel_rfl) rfl rfl rfl rfl ?_
      refine Rg.off 16 rfl rfl (by kernel_rfl) rfl rfl rfl rfl ?_
      refine Rg.off 17 rfl rfl (by kernel_rfl) rfl rfl rfl rfl ?_
      refine Rg.off 18 rfl rfl (by kernel_rfl) rfl rfl rfl rfl ?_
      refine Rg.off 19 rfl rfl (by kernel_rfl) rfl rfl rfl rfl ?_
      refine Rg.off 20 rfl rfl (by kernel_rfl) rfl rfl rfl rfl ?_
      refine Rg.off 21 rfl rfl (by kernel_rfl) rfl rfl rfl rfl ?_
      refine Rg.off 22 rfl rfl (by kernel_rfl) rfl rfl rfl rfl ?_
      refine Rg.off 23 rfl rfl (by kernel_rfl) rfl rfl rfl rfl ?_
      refine Rg.off 24 rfl rfl (by kernel_rfl) rfl rfl rfl rfl ?_
      refine Rg.off 25 rfl rfl (by kernel_rfl) rfl rfl rfl rfl ?_
      refine Rg.off 26 rfl rfl (by kernel_rfl) rfl rfl rfl rfl ?_
      refine Rg.off 27 rfl rfl (by kernel_rfl) rfl rfl rfl rfl ?_
      refine Rg.off 28 rfl rfl (by kernel_rfl) rfl rfl rfl rfl ?_
      refine Rg.off 29 rfl rfl (by kernel_rfl) rfl rfl rfl rfl ?_
      refine Rg.off 30 rfl rfl (by kernel_rfl) rfl rfl rfl rfl ?_
      refine Rg.off 31 rfl rfl (by kernel_rfl) rfl rfl rfl rfl ?_
      refine Rg.pu 32 rfl rfl (by kernel_rfl) trivial (by first | exact pu_pick_t rfl rfl | exact pu_pick_f rfl rfl) ?_
      refine Rg.end (by kernel_rfl) ?_
      refine Gs.then_n ?_
      refine Gs.cond_f rfl ?_
      refine Gs.exit ?_
      refine Gs.then_x ?_
      refine Gs.then_x ?_
      refine Gs.blk_hit ?_
      refine Gs.then_n ?_
      refine Gs.seq ?_
      refine Gs.reg ?_
      refine Go.Sl.L.pu rfl rfl trivial (pu_move rfl) ?_
      refine Go.Sl.L.pu rfl rfl trivial (pu_gt rfl rfl) ?_
      refine Go.Sl.L.puB rfl rfl trivial (pu_move rfl) (fun hg2 => ?_) (fun hg2 => ?_)
      · skip
        refine Go.Sl.L.pu rfl rfl ⟨_, rfl, rfl⟩ (pu_move rfl) ?_
        refine Go.Sl.L.pu rfl rfl ⟨_, rfl, rfl⟩ (pu_move rfl) ?_
        refine Go.Sl.L.pu rfl rfl ⟨_, rfl, rfl⟩ (pu_len Tryz.underlying23 rfl) ?_
        refine Go.Sl.L.pu rfl rfl ⟨_, rfl, rfl⟩ (pu_eq rfl rfl) ?_
        refine Go.Sl.L.pu rfl rfl trivial (by first | exact pu_pick_t rfl rfl | exact pu_pick_f rfl rfl) ?_
        refine Go.Sl.L.nil ?_
        refine Gs.then_n ?_
        refine Gs.cond rfl (fun hc2 => ?_) (fun hc2 => ?_)
        · skip
          have hpos : 0 < n := by have := of_decide_eq_true hg2; omega
          have hyes : infB l ps = true := infB_iff.2 ⟨fun e => by rw [e] at hn; simp at hn; omega, i, hlt, fun k hk => hall k (by have := of_decide_eq_true hc2; omega)⟩
          refine Gs.seq ?_
          refine Gs.reg ?_
          refine Go.Sl.L.pu rfl rfl trivial (pu_assign rfl) ?_
          refine Go.Sl.L.nil ?_
          refine Gs.then_n ?_
          refine Gs.ret ?_
          refine Gs.blk_r ?_
          refine Gs.then_r ?_
          refine Gs.then_r ?_
          refine Gs.blk_r ?_
          refine Gs.then_r ?_
          exact Gs.fin1 Tryz.results158 rfl _ (⟨by rw [hv0, hyes], rfl⟩) (by repeat constructor)
        · skip
          have hfin : ps = [] ∨ ∀ j, j < i + 1 → ¬ ∀ k, k < ps.length → l[j + k]? = ps[k]? := by
            have hz : n ≠ ps.length := by have := of_decide_eq_false hc2; omega
            rcases hend with h | ⟨h1, h2⟩
            · exact absurd h hz
            · rcases hno with h3 | h3
              · exact .inl h3
              · refine .inr fun j hj hc => ?_
                by_cases ej : j = i
                · subst ej; exact h2 (hc n h1)
                · exact h3 j (by omega) hc
          refine Gs.skip ?_
          refine Gs.blk_n ?_
          refine Gs.then_n ?_
          refine Gs.reg ?_
          refine Go.Sl.L.pu rfl rfl trivial (by first | exact pu_addI rfl rfl rfl (by omega) (by omega) | exact pu_add rfl rfl) ?_
          refine Go.Sl.L.pu rfl rfl trivial (pu_move rfl) ?_
          refine Go.Sl.L.nil ?_
          refine Gs.then_n ?_
          exact Gs.again1 (i + 1) ⟨hlt, hfin⟩ (by omega) (by repeat constructor) (by repeat constructor)
      · skip
        have hfin : ps = [] ∨ ∀ j, j < i + 1 → ¬ ∀ k, k < ps.length → l[j + k]? = ps[k]? := by
          have hz : n = 0 := by have := of_decide_eq_false hg2; omega
          rcases hend with h | ⟨h1, h2⟩
          · exact .inl (List.length_eq_zero_iff.1 (by omega))
          · rcases hno with h3 | h3
            · exact .inl h3
            · refine .inr fun j hj hc => ?_
              by_cases ej : j = i
              · subst ej; exact h2 (hc n h1)
              · exact h3 j (by omega) hc
        refine Go.Sl.L.off rfl rfl rfl rfl rfl rfl ?_
        refine Go.Sl.L.off rfl rfl rfl rfl rfl rfl ?_
        refine Go.Sl.L.off rfl rfl rfl rfl rfl rfl ?_
        refine Go.Sl.L.off rfl rfl rfl rfl rfl rfl ?_
        refine Go.Sl.L.pu rfl rfl trivial (by first | exact pu_pick_t rfl rfl | exact pu_pick_f rfl rfl) ?_
        refine Go.Sl.L.nil ?_
        refine Gs.then_n ?_
        refine Gs.cond_f rfl ?_
        refine Gs.skip ?_
        refine Gs.blk_n ?_
        refine Gs.then_n ?_
        refine Gs.reg ?_
        refine Go.Sl.L.pu rfl rfl trivial (by first | exact pu_addI rfl rfl rfl (by omega) (by omega) | exact pu_add rfl rfl) ?_
        refine Go.Sl.L.pu rfl rfl trivial (pu_move rfl) ?_
        refine Go.Sl.L.nil ?_
        refine Gs.then_n ?_
        exact Gs.again1 (i + 1) ⟨hlt, hfin⟩ (by omega) (by repeat constructor) (by repeat constructor)
  · skip
    have hge : i = l.length := by have := of_decide_eq_false hc0; omega
    have hres : infB l ps = false := by
      rw [Bool.eq_false_iff]
      intro hc
      obtain ⟨h1, j, hj, h2⟩ := infB_iff.1 hc
      rcases hno with h3 | h3
      · exact h1 h3
      · exact h3 j (by omega) h2
    refine Gs.exit ?_
    refine Gs.then_x ?_
    refine Gs.then_x ?_
    refine Gs.blk_hit ?_
    refine Gs.then_n ?_
    refine Gs.seq ?_
    refine Gs.reg ?_
    refine Go.Sl.L.pu rfl rfl trivial (pu_assign rfl) ?_
    refine Go.Sl.L.nil ?_
    refine Gs.then_n ?_
    refine Gs.ret ?_
    exact Gs.fin1 Tryz.results158 rfl _ (⟨by rw [hv0, hres], rfl⟩) (by repeat constructor)
end Go.Proofs.YtklgiidfompdpaaGreatDoor
