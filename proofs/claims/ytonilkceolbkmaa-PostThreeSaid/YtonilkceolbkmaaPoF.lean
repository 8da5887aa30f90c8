/- Walks: each, And, Phrase (post). -/
import Derived.Test.YtonilkceolbkmaaPoE
namespace Go.Proofs.Ytonilkceolbkmaa
open Go Go.Sl Go.Gv Go.Po
set_option maxRecDepth 100000
theorem mayAll_of {ls : List (SlV PostV)} (h : mayAll (plain2 ls) = true) {l : SlV PostV} (hl : l ∈ ls) : mayB (plain1 l.xs) = true := by
  have := List.all_eq_true.1 h (plain1 l.xs) (List.mem_map.2 ⟨l, hl, rfl⟩)
  exact this
theorem AtOk.of {S : HProp} {a : Option Addr} {ls : List (SlV PostV)} (hS : LRd S a ls) (h : mayAll (plain2 ls) = true) {l : SlV PostV} (hl : l ∈ ls) {p : PostV} (hp : p ∈ l.xs) : AtOk S p :=
  ⟨((hS.2 l hl).1.2 p hp).1, ((hS.2 l hl).1.2 p hp).2, may_rises (mayAll_of h hl) p.p (List.mem_map.2 ⟨p, hp, rfl⟩)⟩
theorem filt_t {α β : Type} {f : α → Bool} {g : α → β} {l : List α} {i : Nat} {x : α} (h : l[i]? = some x) (hf : f x = true) : ((l.take (i + 1)).filter f).map g = ((l.take i).filter f).map g ++ [g x] := by
  rw [List.take_add_one, h]; simp [hf]
theorem filt_f {α β : Type} {f : α → Bool} {g : α → β} {l : List α} {i : Nat} {x : α} (h : l[i]? = some x) (hf : f x = false) : ((l.take (i + 1)).filter f).map g = ((l.take i).filter f).map g := by
  rw [List.take_add_one, h]; simp [hf]
theorem each_spec {S : HProp} {g : FuncId} {q : List PostV → Bool} {a : Option Addr} {c : Nat} {ls : List (SlV PostV)} (hS : LRd S a ls) (hl : ls.length ≤ 900) (hc : ls.length ≤ c)
    (hg : ∀ (pa : Option Addr) (pc : Nat) (ps : List PostV), ps ≠ [] → (∀ p ∈ ps, AtOk S p) → ps.length ≤ 1000 → Ct Try.prog g ([] ++ [.slice pa ps.length pc] ++ []) [sl 37 3 postC pa pc ps, S] (fun v hs => v = .bool (q ps) ∧ hs = [sl 37 3 postC pa pc ps, S])) :
    Ct Try.prog 30 [.slice a ls.length c, .func (.func g) #[] #[]] [S] (fun v hs => ∃ a' c', v = .slice a' (eachV q ls).length c' ∧ hs = [S, sl 34 2 keyC a' c' (eachV q ls)]) := by
  refine Ct.intro Try.func30 rfl (by kernel_rfl) 67 Try.ntmps30 (Nat.le_of_ble_eq_true rfl) fun w0 R => ?_
  refine Gs.slAddr (hS.1.h (by repeat constructor)) fun lb lo hla => ?_
  refine Gs.seq ?_
  refine Gs.reg ?_
  refine Go.Sl.L.pu rfl rfl trivial (pu_assign rfl) ?_
  refine Go.Sl.L.nil ?_
  refine Gs.then_n ?_
  refine Gs.seq ?_
  refine Gs.seq ?_
  refine Gs.reg ?_
  refine Go.Sl.L.pu rfl rfl trivial (pu_move rfl) ?_
  refine Go.Sl.L.pu rfl rfl trivial (pu_len Try.underlying22 rfl) ?_
  refine Go.Sl.L.pu rfl rfl trivial (pu_eq rfl rfl) ?_
  refine Go.Sl.L.puB rfl rfl trivial (pu_move rfl) (fun hg3 => ?_) (fun hg3 => ?_)
  · skip
    have hno : eachV q ls = [] := by
      have h0 : ls.length = 0 := by have := of_decide_eq_true hg3; omega
      rw [List.length_eq_zero_iff.1 h0]; rfl
    refine Go.Sl.L.off rfl rfl rfl rfl rfl rfl ?_
    refine Go.Sl.L.off rfl rfl rfl rfl rfl rfl ?_
    refine Go.Sl.L.pu rfl rfl trivial (by first | exact pu_pick_t rfl rfl | exact pu_pick_f rfl rfl) ?_
    refine Go.Sl.L.nil ?_
    refine Gs.then_n ?_
    refine Gs.cond_t rfl ?_
    refine Gs.seq ?_
    refine Gs.reg ?_
    refine Go.Sl.L.pu rfl rfl trivial (pu_assign rfl) ?_
    refine Go.Sl.L.nil ?_
    refine Gs.then_n ?_
    refine Gs.ret ?_
    refine Gs.then_r ?_
    refine Gs.slNil 34 2 keyC ?_
    exact Gs.fin1 Try.results30 rfl _ (⟨none, 0, by rw [hno]; rfl, by rw [hno]⟩) (by repeat constructor)
  · skip
    refine Go.Sl.L.pu rfl rfl ⟨_, rfl, rfl⟩ (pu_move rfl) ?_
    refine Go.Sl.L.ac rfl rfl ⟨_, rfl, rfl⟩ (as_call (odd_spec hS (by omega)) (by repeat constructor) (by repeat constructor)) ?_
    rintro _ _ ⟨_, ⟨rfl, rfl⟩, rfl⟩
    refine Go.Sl.L.pu rfl rfl trivial (by first | exact pu_pick_t rfl rfl | exact pu_pick_f rfl rfl) ?_
    refine Go.Sl.L.nil ?_
    refine Gs.then_n ?_
    refine Gs.cond rfl (fun hc0 => ?_) (fun hc0 => ?_)
    · skip
      have hno : eachV q ls = [] := by
        unfold eachV; split
        · rfl
        · rename_i l0 r; exact if_neg (by rw [not_t hc0]; simp)
      refine Gs.seq ?_
      refine Gs.reg ?_
      refine Go.Sl.L.pu rfl rfl trivial (pu_assign rfl) ?_
      refine Go.Sl.L.nil ?_
      refine Gs.then_n ?_
      refine Gs.ret ?_
      refine Gs.then_r ?_
      refine Gs.slNil 34 2 keyC ?_
      exact Gs.fin1 Try.results30 rfl _ (⟨none, 0, by rw [hno]; rfl, by rw [hno]⟩) (by repeat constructor)
    · skip
      have hmay := not_f hc0
      obtain ⟨l0, r, rfl⟩ : ∃ l0 r, ls = l0 :: r := by cases ls with
        | nil => exact absurd rfl (of_decide_eq_false hg3)
        | cons l0 r => exact ⟨l0, r, rfl⟩
      obtain ⟨la, lx, lc⟩ := l0
      obtain rfl := hla (by simp)
      have hl0 : PRd S la lx ∧ lx.length ≤ 1000 := hS.2 ⟨la, lx, lc⟩ (by simp)
      have hrn : (⟨la, lx, lc⟩ :: r : List (SlV PostV)).length = r.length + 1 := rfl
      have hrl : r.length ≤ 900 := by rw [List.length_cons] at hl; omega
      refine Gs.slAddr (hl0.1.1.h (by repeat constructor)) fun ab ao ha => ?_
      refine Gs.skip ?_
      refine Gs.then_n ?_
      refine Gs.seq ?_
      refine Gs.reg ?_
      refine Go.Sl.L.pu rfl rfl trivial (pu_assign rfl) ?_
      refine Go.Sl.L.nil ?_
      refine Gs.slNil 34 2 keyC ?_
      refine Gs.then_n ?_
      refine Gs.seq ?_
      refine Gs.seq ?_
      refine Gs.reg ?_
      refine Go.Sl.L.pu rfl rfl trivial (pu_move rfl) ?_
      refine Go.Sl.L.pu rfl rfl trivial (pu_ia se_22 rfl rfl (by decide) (by rw [List.length_cons]; omega)) ?_
      refine Go.Sl.L.rd rfl rfl trivial (rd_ld na_30 rfl (Rdc.el0 (i := 0) (x := ⟨la, lx, lc⟩) (xs := ⟨la, lx, lc⟩ :: r) (enc := slC) (sz := 1) (hS.1.h (by repeat constructor)) rfl rfl rfl)) ?_
      refine Go.Sl.L.pu rfl rfl trivial (pu_len Try.underlying30 rfl) ?_
      refine Go.Sl.L.pu rfl rfl trivial (pu_move rfl) ?_
      refine Go.Sl.L.nil ?_
      refine Gs.then_n ?_
      refine Gs.block ?_
      refine Gs.loop1 (fun s : Nat × (Option Addr × Nat) × List Key => s.1 ≤ lx.length ∧ s.2.2 = ((lx.take s.1).filter fun p => decide ((p :: foundV r p.k).length = (r.length + 1)) && q (p :: foundV r p.k)).map PostV.k) (fun s => [(0, .slice (some ⟨lb, lo, none⟩) ((⟨la, lx, lc⟩ : SlV PostV) :: r).length c), (1, .func (.func g) #[] #[]), (5, .slice s.2.1.1 s.2.2.length s.2.1.2), (22, .slice la lx.length lc), (23, int lx.length), (24, int s.1)]) (fun s => [S, sl 34 2 keyC s.2.1.1 s.2.1.2 s.2.2] ++ R) (fun s => lx.length - s.1) (0, (none, 0), []) (⟨Nat.zero_le _, rfl⟩) (by repeat constructor) (by repeat constructor) (fun s hs => ?_)
      obtain ⟨i, ⟨ka, kc⟩, K⟩ := s
      obtain ⟨hi, hK⟩ := hs
      dsimp only at hi hK ⊢
      have hKl : K.length ≤ 1000 := by rw [hK, List.length_map]; refine Nat.le_trans (List.length_filter_le ..) ?_; rw [List.length_take]; have := hl0.2; omega
      refine Gs.seq ?_
      refine Gs.reg ?_
      refine Go.Sl.L.pu rfl rfl trivial (pu_lt rfl rfl) ?_
      refine Go.Sl.L.nil ?_
      refine Gs.then_n ?_
      refine Gs.seq ?_
      refine Gs.cond rfl (fun hc1 => ?_) (fun hc1 => ?_)
      · skip
        have hlt : i < lx.length := by have := of_decide_eq_true hc1; omega
        obtain ⟨p, hp⟩ : ∃ x, lx[i]? = some x := ⟨lx[i], by simp [hlt]⟩
        have hpm := List.mem_of_getElem? hp
        obtain rfl := ha (by intro e; rw [e] at hp; simp at hp)
        refine Gs.skip ?_
        refine Gs.then_n ?_
        refine Gs.seq ?_
        refine Gs.block ?_
        refine Gs.seq ?_
        refine Gs.reg ?_
        refine Go.Sl.L.pu rfl rfl trivial (pu_ia se_30 rfl rfl (by omega) (by omega)) ?_
        refine Go.Sl.L.rd rfl rfl trivial (rd_lda ag_37 rfl (Rdc.el0 (hl0.1.1.h (by repeat constructor)) hp rfl rfl) rfl) ?_
        refine Go.Sl.L.ac rfl rfl trivial (ac_alloc zv_37 rfl) ?_
        rintro _ _ ⟨pb, rfl, rfl⟩
        refine Go.Sl.L.ac0 rfl trivial (ac_st sz_37 rfl rfl (by repeat constructor) rfl rfl rfl rfl) ?_
        rintro _ _ rfl
        refine Go.Sl.L.nil ?_
        refine Gs.then_n ?_
        refine Gs.seq ?_
        refine Gs.reg ?_
        refine Go.Sl.L.rd rfl rfl trivial (rd_lda ag_37 rfl (Rdc.cl 3 (by repeat constructor) rfl) rfl) ?_
        refine Go.Sl.L.ac rfl rfl trivial (ac_lit encC_37 ([p]) et_30 ek_37 rfl (by repeat constructor) rfl rfl (by decide)) ?_
        rintro _ _ ⟨a29, rfl, rfl⟩
        refine Go.Sl.L.pu rfl rfl trivial (pu_assign rfl) ?_
        refine Go.Sl.L.nil ?_
        refine Gs.then_n ?_
        refine Gs.seq ?_
        refine Gs.seq ?_
        refine Gs.reg ?_
        refine Go.Sl.L.pu rfl rfl trivial (pu_move rfl) ?_
        refine Go.Sl.L.pu rfl rfl trivial (pu_sliceL et_22 rfl rfl (by omega) (by rw [List.length_cons]; omega)) ?_
        refine Go.Sl.L.pu rfl rfl trivial (pu_len Try.underlying22 rfl) ?_
        refine Go.Sl.L.pu rfl rfl trivial (pu_move rfl) ?_
        refine Go.Sl.L.nil ?_
        refine Gs.then_n ?_
        refine Gs.block ?_
        refine Gs.loop1 (fun s : Nat × (Option Addr × Nat) × List PostV => s.1 ≤ r.length ∧ s.2.2 = p :: foundV (r.take s.1) p.k) (fun s => [(0, .slice (some ⟨lb, lo, none⟩) ((⟨some ⟨ab, ao, none⟩, lx, lc⟩ : SlV PostV) :: r).length c), (1, .func (.func g) #[] #[]), (5, .slice ka K.length kc), (7, ptr pb), (8, .slice s.2.1.1 s.2.2.length s.2.1.2), (22, .slice (some ⟨ab, ao, none⟩) lx.length lc), (23, int lx.length), (24, int i), (31, .slice (suba (some ⟨lb, lo, none⟩) 1 c 1) r.length (c - 1)), (32, int r.length), (33, int s.1)]) (fun s => [S, sl 34 2 keyC ka kc K, cl pb 37 (postC p), sl 37 3 postC s.2.1.1 s.2.1.2 s.2.2] ++ R) (fun s => r.length - s.1) (0, (some ⟨a29, 0, none⟩, 1), [p]) (⟨Nat.zero_le _, rfl⟩) (by repeat constructor) (by repeat constructor) (fun s hs1 => ?_)
        obtain ⟨j, ⟨xa, xc⟩, PS⟩ := s
        obtain ⟨hj, hPS⟩ := hs1
        dsimp only at hj hPS ⊢
        have hPl : PS.length ≤ 901 := by rw [hPS, List.length_cons]; have := found_length (r.take j) p.k; rw [List.length_take] at this; omega
        refine Gs.seq ?_
        refine Gs.reg ?_
        refine Go.Sl.L.pu rfl rfl trivial (pu_lt rfl rfl) ?_
        refine Go.Sl.L.nil ?_
        refine Gs.then_n ?_
        refine Gs.seq ?_
        refine Gs.cond rfl (fun hc2 => ?_) (fun hc2 => ?_)
        · skip
          have hlt1 : j < r.length := by have := of_decide_eq_true hc2; omega
          obtain ⟨y, hy⟩ : ∃ x, r[j]? = some x := ⟨r[j], by simp [hlt1]⟩
          have hyr := List.mem_of_getElem? hy
          have hyl := hS.2 y (List.mem_cons_of_mem _ hyr)
          have hsu : suba (some ⟨lb, lo, none⟩) 1 c 1 = some ⟨lb, lo + 1 * 1, none⟩ := suba_some (by omega)
          have hsr : Srd S 1 slC (some ⟨lb, lo + 1 * 1, none⟩) r := fun w0 H H' t => by
            have h := SlH.cutL (hS.1 w0 H H' t) 1 c hc
            rw [hsu] at h; exact h
          have hft := found_take (k := p.k) hy
          refine Gs.skip ?_
          refine Gs.then_n ?_
          refine Gs.seq ?_
          refine Gs.block ?_
          refine Gs.seq ?_
          refine Gs.reg ?_
          rw [hsu]
          refine Go.Sl.L.pu rfl rfl trivial (pu_ia se_22 rfl rfl (by omega) (by omega)) ?_
          refine Go.Sl.L.rd rfl rfl trivial (rd_ld na_30 rfl (Rdc.el0 (xs := r) (enc := slC) (sz := 1) (hsr.h (by repeat constructor)) hy rfl rfl)) ?_
          refine Go.Sl.L.pu rfl rfl trivial (pu_assign rfl) ?_
          refine Go.Sl.L.nil ?_
          refine Gs.then_n ?_
          refine Gs.seq ?_
          refine Gs.reg ?_
          refine Go.Sl.L.pu rfl rfl trivial (pu_move rfl) ?_
          refine Go.Sl.L.pu rfl rfl trivial (pu_fa fa_37_0 rfl) ?_
          refine Go.Sl.L.rd rfl rfl trivial (rd_lda ag_34 rfl (Rdc.cl 2 (by repeat constructor) rfl) rfl) ?_
          refine Go.Sl.L.ac rfl rfl trivial (as_call (pfind_spec hyl.1.1 hyl.2 (may_asc (mayAll_of hmay (List.mem_cons_of_mem _ hyr))) p.k) (by repeat constructor) (by repeat constructor)) ?_
          rintro _ _ ⟨_, ⟨rfl, rfl⟩, rfl⟩
          refine Go.Sl.L.pu rfl rfl trivial (pu_move rfl) ?_
          refine Go.Sl.L.pu rfl rfl trivial (pu_extract rfl rfl) ?_
          refine Go.Sl.L.pu rfl rfl trivial (pu_extract rfl rfl) ?_
          refine Go.Sl.L.ac rfl rfl trivial (ac_alloc zv_37 rfl) ?_
          rintro _ _ ⟨xb, rfl, rfl⟩
          refine Go.Sl.L.ac0 rfl trivial (ac_st sz_37 rfl rfl (by repeat constructor) rfl rfl rfl rfl) ?_
          rintro _ _ rfl
          refine Go.Sl.L.pu rfl rfl trivial (pu_assign rfl) ?_
          refine Go.Sl.L.nil ?_
          refine Gs.then_n ?_
          refine Gs.seq ?_
          refine Gs.reg ?_
          refine Go.Sl.L.pu rfl rfl trivial (pu_move rfl) ?_
          refine Go.Sl.L.nil ?_
          refine Gs.then_n ?_
          refine Gs.cond rfl (fun hc3 => ?_) (fun hc3 => ?_)
          · skip
            obtain ⟨x, hx⟩ := Option.isSome_iff_exists.1 hc3
            rw [hx] at hft ⊢
            refine Gs.reg ?_
            refine Go.Sl.L.pu rfl rfl trivial (pu_move rfl) ?_
            refine Go.Sl.L.rd rfl rfl trivial (rd_lda ag_37 rfl (Rdc.cl 3 (by repeat constructor) rfl) rfl) ?_
            refine Go.Sl.L.ac rfl rfl trivial (ac_lit encC_37 ([x]) et_30 ek_37 rfl (by repeat constructor) rfl rfl (by decide)) ?_
            rintro _ _ ⟨a47, rfl, rfl⟩
            refine Go.Sl.L.ac rfl rfl trivial (ac_append et_30 ek_37 rfl rfl (by repeat constructor) (SrcH.sl Try.underlying30 ek_37 (SlH.own (by repeat constructor))) (by first | omega | (simp; omega)) (by first | omega | (simp; omega))) ?_
            rintro _ _ ⟨a48, c48, rfl, rfl⟩
            refine Go.Sl.L.pu rfl rfl trivial (pu_assign rfl) ?_
            refine Go.Sl.L.nil ?_
            refine Gs.blk_n ?_
            refine Gs.then_n ?_
            refine Gs.reg ?_
            refine Go.Sl.L.pu rfl rfl trivial (by first | exact pu_addI rfl rfl rfl (by omega) (by omega) | exact pu_add rfl rfl) ?_
            refine Go.Sl.L.pu rfl rfl trivial (pu_move rfl) ?_
            refine Go.Sl.L.nil ?_
            refine Gs.then_n ?_
            first | exact Gs.again1 (j + 1, (a48, c48), PS ++ [x]) ⟨by show j + 1 ≤ r.length; omega, by show PS ++ [x] = _; rw [hPS, hft]; rfl⟩ (by show r.length - (j + 1) < r.length - j; omega) (by repeat constructor) (by repeat constructor) | exact Gs.again1 (j + 1, (xa, xc), PS) ⟨by show j + 1 ≤ r.length; omega, by show PS = _; rw [hPS, hft]; simp⟩ (by show r.length - (j + 1) < r.length - j; omega) (by repeat constructor) (by repeat constructor)
          · skip
            have hx : lookP y.xs p.k = none := by simpa using hc3
            rw [hx] at hft
            refine Gs.skip ?_
            refine Gs.blk_n ?_
            refine Gs.then_n ?_
            refine Gs.reg ?_
            refine Go.Sl.L.pu rfl rfl trivial (by first | exact pu_addI rfl rfl rfl (by omega) (by omega) | exact pu_add rfl rfl) ?_
            refine Go.Sl.L.pu rfl rfl trivial (pu_move rfl) ?_
            refine Go.Sl.L.nil ?_
            refine Gs.then_n ?_
            first | exact Gs.again1 (j + 1, (a48, c48), PS ++ [x]) ⟨by show j + 1 ≤ r.length; omega, by show PS ++ [x] = _; rw [hPS, hft]; rfl⟩ (by show r.length - (j + 1) < r.length - j; omega) (by repeat constructor) (by repeat constructor) | exact Gs.again1 (j + 1, (xa, xc), PS) ⟨by show j + 1 ≤ r.length; omega, by show PS = _; rw [hPS, hft]; simp⟩ (by show r.length - (j + 1) < r.length - j; omega) (by repeat constructor) (by repeat constructor)
        · skip
          have hge1 : j = r.length := by have := of_decide_eq_false hc2; omega
          rw [hge1, List.take_length] at hPS
          refine Gs.exit ?_
          refine Gs.then_x ?_
          refine Gs.then_x ?_
          refine Gs.blk_hit ?_
          refine Gs.then_n ?_
          refine Gs.seq ?_
          have hat : ∀ x ∈ PS, AtOk S x := fun x hx => by rw [hPS] at hx; rcases List.mem_cons.1 hx with rfl | hx; exact AtOk.of hS hmay (l := ⟨some ⟨ab, ao, none⟩, lx, lc⟩) (by simp) hpm; obtain ⟨l, h1, h2, -⟩ := found_mem hx; exact AtOk.of hS hmay (List.mem_cons_of_mem _ h1) h2
          have hPne : PS ≠ [] := by rw [hPS]; simp
          refine Gs.reg ?_
          refine Go.Sl.L.pu rfl rfl trivial (pu_move rfl) ?_
          refine Go.Sl.L.pu rfl rfl trivial (pu_len Try.underlying30 rfl) ?_
          refine Go.Sl.L.pu rfl rfl trivial (pu_move rfl) ?_
          refine Go.Sl.L.pu rfl rfl trivial (pu_len Try.underlying22 rfl) ?_
          refine Go.Sl.L.pu rfl rfl trivial (pu_eq rfl rfl) ?_
          refine Go.Sl.L.puB rfl rfl trivial (pu_move rfl) (fun hg5 => ?_) (fun hg5 => ?_)
          · skip
            have hcl : decide ((p :: foundV r p.k).length = r.length + 1) = true := by rw [← hPS]; exact decide_eq_true (by have h := of_decide_eq_true hg5; rw [List.length_cons] at h; omega)
            refine Go.Sl.L.pu rfl rfl ⟨_, rfl, rfl⟩ (pu_move rfl) ?_
            refine Go.Sl.L.pu rfl rfl ⟨_, rfl, rfl⟩ (pu_move rfl) ?_
            refine Go.Sl.L.ac rfl rfl ⟨_, rfl, rfl⟩ (as_callV rfl (hg xa xc PS hPne hat (by omega)) (by repeat constructor) (by repeat constructor)) ?_
            rintro _ _ ⟨_, ⟨rfl, rfl⟩, rfl⟩
            refine Go.Sl.L.pu rfl rfl trivial (by first | exact pu_pick_t rfl rfl | exact pu_pick_f rfl rfl) ?_
            refine Go.Sl.L.nil ?_
            refine Gs.then_n ?_
            refine Gs.cond rfl (fun hc4 => ?_) (fun hc4 => ?_)
            · skip
              have hy2 : (decide ((p :: foundV r p.k).length = r.length + 1) && q (p :: foundV r p.k)) = true := by rw [hcl, ← hPS, hc4]; rfl
              have hup := filt_t (g := PostV.k) (f := fun p => decide ((p :: foundV r p.k).length = r.length + 1) && q (p :: foundV r p.k)) hp hy2
              rw [← hK] at hup
              refine Gs.reg ?_
              refine Go.Sl.L.pu rfl rfl trivial (pu_move rfl) ?_
              refine Go.Sl.L.pu rfl rfl trivial (pu_fa fa_37_0 rfl) ?_
              refine Go.Sl.L.rd rfl rfl trivial (rd_lda ag_34 rfl (Rdc.cl 2 (by repeat constructor) rfl) rfl) ?_
              refine Go.Sl.L.ac rfl rfl trivial (ac_lit encC_34 ([p.k]) et_25 ek_34 rfl (by repeat constructor) rfl rfl (by decide)) ?_
              rintro _ _ ⟨a63, rfl, rfl⟩
              refine Go.Sl.L.ac rfl rfl trivial (ac_append et_25 ek_34 rfl rfl (by repeat constructor) (SrcH.sl Try.underlying25 ek_34 (SlH.own (by repeat constructor))) (by first | omega | (simp; omega)) (by first | omega | (simp; omega))) ?_
              rintro _ _ ⟨a64, c64, rfl, rfl⟩
              refine Go.Sl.L.pu rfl rfl trivial (pu_assign rfl) ?_
              refine Go.Sl.L.nil ?_
              refine Gs.blk_n ?_
              refine Gs.then_n ?_
              first | (have hX := hy2; skip) | (have hX := hn2; have hup := filt_f (g := PostV.k) (f := fun p => decide ((p :: foundV r p.k).length = r.length + 1) && q (p :: foundV r p.k)) hp hn2; rw [← hK] at hup)
              refine Gs.reg ?_
              refine Go.Sl.L.pu rfl rfl trivial (by first | exact pu_addI rfl rfl rfl (by omega) (by omega) | exact pu_add rfl rfl) ?_
              refine Go.Sl.L.pu rfl rfl trivial (pu_move rfl) ?_
              refine Go.Sl.L.nil ?_
              refine Gs.then_n ?_
              first | (have hX := hy2; exact Gs.again1 (i + 1, (a64, c64), K ++ [p.k]) ⟨by show i + 1 ≤ lx.length; omega, hup.symm⟩ (by show lx.length - (i + 1) < lx.length - i; omega) (by repeat constructor) (by repeat constructor)) | (have hX := hn2; exact Gs.again1 (i + 1, (ka, kc), K) ⟨by show i + 1 ≤ lx.length; omega, hup.symm⟩ (by show lx.length - (i + 1) < lx.length - i; omega) (by repeat constructor) (by repeat constructor))
            · skip
              have hn2 : (decide ((p :: foundV r p.k).length = r.length + 1) && q (p :: foundV r p.k)) = false := by rw [hcl, ← hPS, hc4]; rfl
              refine Gs.skip ?_
              refine Gs.blk_n ?_
              refine Gs.then_n ?_
              first | (have hX := hy2; skip) | (have hX := hn2; have hup := filt_f (g := PostV.k) (f := fun p => decide ((p :: foundV r p.k).length = r.length + 1) && q (p :: foundV r p.k)) hp hn2; rw [← hK] at hup)
              refine Gs.reg ?_
              refine Go.Sl.L.pu rfl rfl trivial (by first | exact pu_addI rfl rfl rfl (by omega) (by omega) | exact pu_add rfl rfl) ?_
              refine Go.Sl.L.pu rfl rfl trivial (pu_move rfl) ?_
              refine Go.Sl.L.nil ?_
              refine Gs.then_n ?_
              first | (have hX := hy2; exact Gs.again1 (i + 1, (a64, c64), K ++ [p.k]) ⟨by show i + 1 ≤ lx.length; omega, hup.symm⟩ (by show lx.length - (i + 1) < lx.length - i; omega) (by repeat constructor) (by repeat constructor)) | (have hX := hn2; exact Gs.again1 (i + 1, (ka, kc), K) ⟨by show i + 1 ≤ lx.length; omega, hup.symm⟩ (by show lx.length - (i + 1) < lx.length - i; omega) (by repeat constructor) (by repeat constructor))
          · skip
            have hcl : decide ((p :: foundV r p.k).length = r.length + 1) = false := by rw [← hPS]; exact decide_eq_false (by have h := of_decide_eq_false hg5; rw [List.length_cons] at h; omega)
            have hn2 : (decide ((p :: foundV r p.k).length = r.length + 1) && q (p :: foundV r p.k)) = false := by rw [hcl]; rfl
            refine Go.Sl.L.off rfl rfl rfl rfl rfl rfl ?_
            refine Go.Sl.L.off rfl rfl rfl rfl rfl rfl ?_
            refine Go.Sl.L.off rfl rfl rfl rfl rfl rfl ?_
            refine Go.Sl.L.pu rfl rfl trivial (by first | exact pu_pick_t rfl rfl | exact pu_pick_f rfl rfl) ?_
            refine Go.Sl.L.nil ?_
            refine Gs.then_n ?_
            refine Gs.cond_f rfl ?_
            refine Gs.skip ?_
            refine Gs.blk_n ?_
            refine Gs.then_n ?_
            first | (have hX := hy2; skip) | (have hX := hn2; have hup := filt_f (g := PostV.k) (f := fun p => decide ((p :: foundV r p.k).length = r.length + 1) && q (p :: foundV r p.k)) hp hn2; rw [← hK] at hup)
            refine Gs.reg ?_
            refine Go.Sl.L.pu rfl rfl trivial (by first | exact pu_addI rfl rfl rfl (by omega) (by omega) | exact pu_add rfl rfl) ?_
            refine Go.Sl.L.pu rfl rfl trivial (pu_move rfl) ?_
            refine Go.Sl.L.nil ?_
            refine Gs.then_n ?_
            first | (have hX := hy2; exact Gs.again1 (i + 1, (a64, c64), K ++ [p.k]) ⟨by show i + 1 ≤ lx.length; omega, hup.symm⟩ (by show lx.length - (i + 1) < lx.length - i; omega) (by repeat constructor) (by repeat constructor)) | (have hX := hn2; exact Gs.again1 (i + 1, (ka, kc), K) ⟨by show i + 1 ≤ lx.length; omega, hup.symm⟩ (by show lx.length - (i + 1) < lx.length - i; omega) (by repeat constructor) (by repeat constructor))
      · skip
        have hge : i = lx.length := by have := of_decide_eq_false hc1; omega
        have hfin : K = eachV q ((⟨la, lx, lc⟩ : SlV PostV) :: r) := by rw [hK, hge, List.take_length]; exact (if_pos hmay).symm
        refine Gs.exit ?_
        refine Gs.then_x ?_
        refine Gs.then_x ?_
        refine Gs.blk_hit ?_
        refine Gs.then_n ?_
        refine Gs.seq ?_
        refine Gs.reg ?_
        refine Go.Sl.L.pu rfl rfl trivial (pu_move rfl) ?_
        refine Go.Sl.L.pu rfl rfl trivial (pu_assign rfl) ?_
        refine Go.Sl.L.nil ?_
        refine Gs.then_n ?_
        refine Gs.ret ?_
        rw [hfin]
        exact Gs.fin1 Try.results30 rfl _ (⟨ka, kc, rfl, rfl⟩) (by repeat constructor)
theorem pand_spec {S : HProp} {a : Option Addr} {c : Nat} {ls : List (SlV PostV)} (hS : LRd S a ls) (hl : ls.length ≤ 900) (hc : ls.length ≤ c) :
    Ct Try.prog 10 [.slice a ls.length c] [S] (fun v hs => ∃ a' c', v = .slice a' (eachV (fun _ => true) ls).length c' ∧ hs = [S, sl 34 2 keyC a' c' (eachV (fun _ => true) ls)]) := by
  refine Ct.intro Try.func10 rfl (by kernel_rfl) 5 Try.ntmps10 (Nat.le_of_ble_eq_true rfl) fun w0 R => ?_
  refine Gs.seq ?_
  refine Gs.reg ?_
  refine Go.Sl.L.pu rfl rfl trivial (pu_assign rfl) ?_
  refine Go.Sl.L.nil ?_
  refine Gs.then_n ?_
  refine Gs.seq ?_
  refine Gs.reg ?_
  refine Go.Sl.L.pu rfl rfl trivial (pu_move rfl) ?_
  refine Go.Sl.L.ac rfl rfl trivial (as_call (each_spec (q := fun _ => true) hS hl hc (fun _ _ _ _ _ _ => and1_spec)) (by repeat constructor) (by repeat constructor)) ?_
  rintro _ _ ⟨_, ⟨ka, kc, rfl, rfl⟩, rfl⟩
  refine Go.Sl.L.pu rfl rfl trivial (pu_assign rfl) ?_
  refine Go.Sl.L.nil ?_
  refine Gs.then_n ?_
  refine Gs.ret ?_
  exact Gs.fin1 Try.results10 rfl _ (⟨_, _, rfl, rfl⟩) (by repeat constructor)
theorem pphrase_spec {S : HProp} {a : Option Addr} {c : Nat} {ls : List (SlV PostV)} (hS : LRd S a ls) (hl : ls.length ≤ 900) (hc : ls.length ≤ c) :
    Ct Try.prog 12 [.slice a ls.length c] [S] (fun v hs => ∃ a' c', v = .slice a' (eachV followV ls).length c' ∧ hs = [S, sl 34 2 keyC a' c' (eachV followV ls)]) := by
  refine Ct.intro Try.func12 rfl (by kernel_rfl) 5 Try.ntmps12 (Nat.le_of_ble_eq_true rfl) fun w0 R => ?_
  refine Gs.seq ?_
  refine Gs.reg ?_
  refine Go.Sl.L.pu rfl rfl trivial (pu_assign rfl) ?_
  refine Go.Sl.L.nil ?_
  refine Gs.then_n ?_
  refine Gs.seq ?_
  refine Gs.reg ?_
  refine Go.Sl.L.pu rfl rfl trivial (pu_move rfl) ?_
  refine Go.Sl.L.ac rfl rfl trivial (as_call (each_spec (q := followV) hS hl hc (fun _ _ _ h1 h2 h3 => follow_spec h1 h2 h3)) (by repeat constructor) (by repeat constructor)) ?_
  rintro _ _ ⟨_, ⟨ka, kc, rfl, rfl⟩, rfl⟩
  refine Go.Sl.L.pu rfl rfl trivial (pu_assign rfl) ?_
  refine Go.Sl.L.nil ?_
  refine Gs.then_n ?_
  refine Gs.ret ?_
  exact Gs.fin1 Try.results12 rfl _ (⟨_, _, rfl, rfl⟩) (by repeat constructor)
end Go.Proofs.Ytonilkceolbkmaa
