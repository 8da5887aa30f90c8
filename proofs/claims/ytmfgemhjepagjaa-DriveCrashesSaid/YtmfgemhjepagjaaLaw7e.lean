/- Walk: grapevinelaw7.DriveCrashes. -/
import Derived.Test.YtmfgemhjepagjaaLaw7b
import Derived.Test.YtmfgemhjepagjaaCr
import Derived.Test.YtmfgemhjepagjaaOpn
namespace Go.Proofs.Ytmfgemhjepagjaa
open Go Go.Sl Go.Gv Go.Kv Go.Dv Go.Bst
set_option maxRecDepth 100000
def fb (Fs : List (SlV UInt8)) (i : Nat) : List UInt8 := match Fs[i]? with
  | some x => x.xs
  | none => []
theorem fb_some {Fs : List (SlV UInt8)} {i : Nat} {x : SlV UInt8} (h : Fs[i]? = some x) : fb Fs i = x.xs := by unfold fb; rw [h]
theorem fb_none {Fs : List (SlV UInt8)} {i : Nat} (h : Fs.length ≤ i) : fb Fs i = [] := by unfold fb; rw [List.getElem?_eq_none h]
abbrev slgB (h0 : Hp) (x : SlV UInt8) : Prop := slR h0 1 byteC x.a x.xs ∧ x.xs.length ≤ 9223372036854775807 ∧ x.xs.length ≤ x.c ∧ x.c ≤ 9223372036854775807
theorem slg_of {W : World} {x : SlV UInt8} (h : SlGood W 1 byteC (fun _ => True) x) : slgB (whole W) x := ⟨h.1, by have := h.2.1; unfold maxLen at this; omega, h.2.2.1, by have := h.2.2.2.1; unfold maxLen at this; omega⟩
theorem driveCrashes_spec {h0 : Hp} {fa la : Option Addr} {fc lc : Nat} {Fs Ls : List (SlV UInt8)} (stay : Int) (h1 : slR h0 1 slC fa Fs) (h2 : slR h0 1 slC la Ls) (hl1 : Fs.length ≤ 9223372036854775807) (hl2 : Ls.length ≤ 9223372036854775807)
    (hF : ∀ x ∈ Fs, slgB h0 x) (hLs : ∀ x ∈ Ls, slgB h0 x) :
    Ct Try.prog 4 [.slice fa Fs.length fc, .slice la Ls.length lc, int stay] [ro h0] (fun v hs => v = .bool true ∧ hs = [ro h0]) := by
  refine Ct.intro Try.func4 rfl (by kernel_rfl) 194 Try.ntmps4 (Nat.le_of_ble_eq_true rfl) fun w0 R => ?_
  refine Gs.slAddr (SlH.ro (by repeat constructor) h1) fun fab fao hfa => ?_
  refine Gs.slAddr (SlH.ro (by repeat constructor) h2) fun lab lao hla => ?_
  obtain ⟨n, hn⟩ : ∃ n, n = Fs.length := ⟨_, rfl⟩
  obtain ⟨F, hFd⟩ : ∃ F, F = fb Fs := ⟨_, rfl⟩
  obtain ⟨L, hLd⟩ : ∃ L, L = fb Ls := ⟨_, rfl⟩
  refine Gs.seq ?_
  refine Gs.reg ?_
  refine Go.Sl.L.pu rfl rfl trivial (pu_assign rfl) ?_
  refine Go.Sl.L.nil ?_
  refine Gs.then_n ?_
  refine Gs.seq ?_
  refine Gs.seq ?_
  refine Gs.reg ?_
  refine Go.Sl.L.pu rfl rfl trivial (pu_move rfl) ?_
  refine Go.Sl.L.pu rfl rfl trivial (pu_len Try.underlying36 rfl) ?_
  refine Go.Sl.L.pu rfl rfl trivial (pu_gt rfl rfl) ?_
  refine Go.Sl.L.puB rfl rfl trivial (pu_move rfl) (fun hg3 => ?_) (fun hg3 => ?_)
  · skip
    have hg3' := of_decide_eq_true hg3
    refine Go.Sl.L.off rfl rfl rfl rfl rfl rfl ?_
    refine Go.Sl.L.off rfl rfl rfl rfl rfl rfl ?_
    refine Go.Sl.L.off rfl rfl rfl rfl rfl rfl ?_
    refine Go.Sl.L.off rfl rfl rfl rfl rfl rfl ?_
    refine Go.Sl.L.off rfl rfl rfl rfl rfl rfl ?_
    refine Go.Sl.L.pu rfl rfl trivial (by first | exact pu_pick_t rfl rfl | exact pu_pick_f rfl rfl) ?_
    refine Go.Sl.L.nil ?_
    refine Gs.then_n ?_
    refine Gs.cond_t rfl ?_
    refine Gs.seq ?_
    refine Gs.reg ?_
    refine Go.Sl.L.ac rfl rfl trivial (as_call (awake7_spec) (by repeat constructor) (by repeat constructor)) ?_
    rintro _ _ ⟨_, ⟨rfl, rfl⟩, rfl⟩
    refine Go.Sl.L.pu rfl rfl trivial (pu_assign rfl) ?_
    refine Go.Sl.L.nil ?_
    refine Gs.then_n ?_
    refine Gs.ret ?_
    refine Gs.then_r ?_
    exact Gs.fin1 Try.results4 rfl _ (⟨rfl, rfl⟩) (by repeat constructor)
  · skip
    have hg3' := of_decide_eq_false hg3
    refine Go.Sl.L.pu rfl rfl ⟨_, rfl, rfl⟩ (pu_move rfl) ?_
    refine Go.Sl.L.pu rfl rfl ⟨_, rfl, rfl⟩ (pu_len Try.underlying36 rfl) ?_
    refine Go.Sl.L.pu rfl rfl ⟨_, rfl, rfl⟩ (pu_move rfl) ?_
    refine Go.Sl.L.pu rfl rfl ⟨_, rfl, rfl⟩ (pu_len Try.underlying36 rfl) ?_
    refine Go.Sl.L.pu rfl rfl ⟨_, rfl, rfl⟩ (pu_gt rfl rfl) ?_
    refine Go.Sl.L.pu rfl rfl trivial (by first | exact pu_pick_t rfl rfl | exact pu_pick_f rfl rfl) ?_
    refine Go.Sl.L.nil ?_
    refine Gs.then_n ?_
    refine Gs.cond rfl (fun hc0 => ?_) (fun hc0 => ?_)
    · skip
      have hc0' := of_decide_eq_true hc0
      refine Gs.seq ?_
      refine Gs.reg ?_
      refine Go.Sl.L.ac rfl rfl trivial (as_call (awake7_spec) (by repeat constructor) (by repeat constructor)) ?_
      rintro _ _ ⟨_, ⟨rfl, rfl⟩, rfl⟩
      refine Go.Sl.L.pu rfl rfl trivial (pu_assign rfl) ?_
      refine Go.Sl.L.nil ?_
      refine Gs.then_n ?_
      refine Gs.ret ?_
      refine Gs.then_r ?_
      exact Gs.fin1 Try.results4 rfl _ (⟨rfl, rfl⟩) (by repeat constructor)
    · skip
      have hc0' := of_decide_eq_false hc0
      have hn5 : n ≤ 5 := by omega
      have hll : Ls.length ≤ n := by omega
      refine Gs.skip ?_
      refine Gs.then_n ?_
      refine Gs.seq ?_
      refine Gs.reg ?_
      refine Go.Sl.L.ac rfl rfl trivial (as_call (drvNew_ok 2000 (by decide) (by decide)) (by repeat constructor) (by repeat constructor)) ?_
      rintro _ _ ⟨_, ⟨b, rfl, rfl⟩, rfl⟩
      refine Go.Sl.L.pu rfl rfl trivial (pu_assign rfl) ?_
      refine Go.Sl.L.nil ?_
      refine Gs.then_n ?_
      refine Gs.seq ?_
      refine Gs.seq ?_
      refine Gs.reg ?_
      refine Go.Sl.L.pu rfl rfl trivial (pu_move rfl) ?_
      refine Go.Sl.L.pu rfl rfl trivial (pu_eqN Try.underlying24 rfl rfl) ?_
      refine Go.Sl.L.nil ?_
      refine Gs.then_n ?_
      refine Gs.cond_f rfl ?_
      refine Gs.skip ?_
      refine Gs.then_n ?_
      refine Gs.seq ?_
      refine Gs.reg ?_
      refine Go.Sl.L.ac rfl rfl trivial (ac_lit encC_9 (nms5) et_37 ek_9 rfl (by repeat constructor) rfl rfl (by decide)) ?_
      rintro _ _ ⟨a32, rfl, rfl⟩
      have h5l : nms5.length = 5 := rfl
      refine Go.Sl.L.pu rfl rfl trivial (pu_move rfl) ?_
      refine Go.Sl.L.pu rfl rfl trivial (pu_len Try.underlying36 rfl) ?_
      refine Go.Sl.L.pu rfl rfl trivial (pu_sliceH et_37 rfl rfl (by omega) (by omega)) ?_
      rw [Int.toNat_natCast, ← hn]
      have hN : Srd (sl 9 1 strC (at0 a32) 5 nms5) 1 strC (suba (at0 a32) 0 5 1) (nms5.take n) := (Srd.own (E := 9) (c := 5) : Srd _ 1 strC (at0 a32) nms5).cutH n 5 (Nat.le_refl _)
      obtain ⟨na, hna⟩ : ∃ na, na = suba (at0 a32) 0 5 1 := ⟨_, rfl⟩
      rw [show suba (some (⟨a32, 0, none⟩ : Addr)) 0 [(⟨#[97]⟩ : ByteArray), ⟨#[98]⟩, ⟨#[99]⟩, ⟨#[100]⟩, ⟨#[101]⟩].length 1 = na from hna.symm]
      rw [← hna] at hN
      have hna2 : na = some ⟨a32, 0, none⟩ := by rw [hna, suba_zero]
      have hN' : Srd (sl 9 1 strC (at0 a32) 5 nms5) 1 strC (some ⟨a32, 0, none⟩) (nms5.take n) := by rw [hna2] at hN; exact hN
      refine Go.Sl.L.pu rfl rfl trivial (pu_assign rfl) ?_
      refine Go.Sl.L.nil ?_
      refine Gs.then_n ?_
      refine Gs.seq ?_
      refine Gs.reg ?_
      refine Go.Sl.L.pu rfl rfl trivial (pu_assign rfl) ?_
      refine Go.Sl.L.nil ?_
      refine Gs.then_n ?_
      refine Gs.seq ?_
      refine Gs.seq ?_
      refine Gs.reg ?_
      refine Go.Sl.L.pu rfl rfl trivial (pu_move rfl) ?_
      refine Go.Sl.L.pu rfl rfl trivial (pu_len Try.underlying36 rfl) ?_
      refine Go.Sl.L.pu rfl rfl trivial (by first | exact pu_subI rfl rfl rfl (by omega) (by omega) | exact pu_sub rfl rfl) ?_
      refine Go.Sl.L.pu rfl rfl trivial (pu_assign rfl) ?_
      refine Go.Sl.L.nil ?_
      refine Gs.then_n ?_
      refine Gs.block ?_
      refine Gs.loop1 (fun s : Nat × Nat × List Fl => s.1 ≤ n ∧ s.2.1 = sumL L s.1 (n - s.1) ∧ s.2.2 = Ds F L n s.1 ∧ used s.2.2 ≤ 120 * (n - s.1) ∧ s.2.1 ≤ 60 * (n - s.1)) (fun s => [(0, .slice fa n fc), (1, .slice la Ls.length lc), (2, int stay), (7, ptr b), (8, .slice na n 5), (9, int s.2.1), (10, int ((s.1 : Int) - 1))]) (fun s => [ro h0, drv b 2000 s.2.2, sl 9 1 strC (at0 a32) 5 nms5] ++ R) (fun s => s.1) (n, 0, []) (⟨Nat.le_refl _, by show 0 = sumL L n (n - n); rw [Nat.sub_self]; simp [sumL], (Ds_end F L n).symm, by simp [used], by simp⟩) (by repeat constructor) (by repeat constructor) (fun s hs => ?_)
      obtain ⟨j, acc, D⟩ := s
      obtain ⟨hs, hac, hD, hu, ha⟩ := hs
      dsimp only at hs hac hD hu ha ⊢
      refine Gs.seq ?_
      refine Gs.seq ?_
      refine Gs.reg ?_
      refine Go.Sl.L.pu rfl rfl trivial (pu_move rfl) ?_
      refine Go.Sl.L.pu rfl rfl trivial (pu_ge rfl rfl) ?_
      refine Go.Sl.L.nil ?_
      refine Gs.then_n ?_
      refine Gs.cond rfl (fun hc2 => ?_) (fun hc2 => ?_)
      · skip
        obtain ⟨i, rfl⟩ : ∃ i, j = i + 1 := ⟨j - 1, by have := of_decide_eq_true hc2; omega⟩
        rw [show (((i + 1 : Nat) : Int) - 1) = (i : Int) by omega]
        obtain ⟨x, hx⟩ : ∃ x, Fs[i]? = some x := ⟨Fs[i]'(by omega), by simp⟩
        obtain rfl := hfa (by rintro rfl; simp at hx)
        have hxg := hF x (List.mem_of_getElem? hx)
        have hFi : F i = x.xs := by rw [hFd]; exact fb_some hx
        obtain ⟨k1, k2, k3⟩ := nm_ok (i := i) (by omega)
        have hnone := Ds_none F L hn5 (j := i) (by omega)
        rw [← hD] at hnone
        have hni := nm_at (i := i) (n := n) (by omega) hn5
        have hmul : 120 * (n - i) = 120 * (n - (i + 1)) + 120 := by omega
        have hmul2 : 60 * (n - i) = 60 * (n - (i + 1)) + 60 := by omega
        have hmul3 : 120 * (n - (i + 1)) ≤ 600 := by omega
        have hmul4 : 60 * (n - (i + 1)) ≤ 300 := by omega
        have hDl : D.length ≤ 5 := by rw [hD]; simp [Ds]; omega
        refine Gs.skip ?_
        refine Gs.then_n ?_
        refine Gs.seq ?_
        refine Gs.block ?_
        refine Gs.seq ?_
        refine Gs.seq ?_
        refine Gs.reg ?_
        refine Go.Sl.L.pu rfl rfl trivial (pu_move rfl) ?_
        refine Go.Sl.L.pu rfl rfl trivial (pu_move rfl) ?_
        refine Go.Sl.L.pu rfl rfl trivial (pu_ia se_36 rfl rfl (by omega) (by omega)) ?_
        refine Go.Sl.L.rd rfl rfl trivial (rd_ld na_22 rfl (Rdc.el0 (SlH.ro (by repeat constructor) h1) hx rfl rfl)) ?_
        refine Go.Sl.L.pu rfl rfl trivial (pu_len Try.underlying22 rfl) ?_
        refine Go.Sl.L.pu rfl rfl trivial (pu_gt rfl rfl) ?_
        refine Go.Sl.L.puB rfl rfl trivial (pu_move rfl) (fun hg6 => ?_) (fun hg6 => ?_)
        · skip
          have hg6' := of_decide_eq_true hg6
          refine Go.Sl.L.off rfl rfl rfl rfl rfl rfl ?_
          refine Go.Sl.L.off rfl rfl rfl rfl rfl rfl ?_
          refine Go.Sl.L.off rfl rfl rfl rfl rfl rfl ?_
          refine Go.Sl.L.off rfl rfl rfl rfl rfl rfl ?_
          refine Go.Sl.L.off rfl rfl rfl rfl rfl rfl ?_
          refine Go.Sl.L.offU rfl rfl rfl rfl rfl ?_
          refine Go.Sl.L.offU rfl rfl rfl rfl rfl ?_
          refine Go.Sl.L.offU rfl rfl rfl rfl rfl ?_
          refine Go.Sl.L.offU rfl rfl rfl rfl rfl ?_
          refine Go.Sl.L.offU rfl rfl rfl rfl rfl ?_
          refine Go.Sl.L.offU rfl rfl rfl rfl rfl ?_
          refine Go.Sl.L.off rfl rfl rfl rfl rfl rfl ?_
          refine Go.Sl.L.pu rfl rfl trivial (by first | exact pu_pick_t rfl rfl | exact pu_pick_f rfl rfl) ?_
          refine Go.Sl.L.nil ?_
          refine Gs.then_n ?_
          refine Gs.cond_t rfl ?_
          refine Gs.seq ?_
          refine Gs.reg ?_
          refine Go.Sl.L.ac rfl rfl trivial (as_call (awake7_spec) (by repeat constructor) (by repeat constructor)) ?_
          rintro _ _ ⟨_, ⟨rfl, rfl⟩, rfl⟩
          refine Go.Sl.L.pu rfl rfl trivial (pu_assign rfl) ?_
          refine Go.Sl.L.nil ?_
          refine Gs.then_n ?_
          refine Gs.ret ?_
          refine Gs.then_r ?_
          refine Gs.blk_r ?_
          refine Gs.then_r ?_
          refine Gs.then_r ?_
          refine Gs.blk_r ?_
          refine Gs.then_r ?_
          exact Gs.fin1 Try.results4 rfl _ (⟨rfl, rfl⟩) (by repeat constructor)
        · skip
          have hg6' := of_decide_eq_false hg6
          refine Go.Sl.L.pu rfl rfl ⟨_, rfl, rfl⟩ (pu_move rfl) ?_
          refine Go.Sl.L.pu rfl rfl ⟨_, rfl, rfl⟩ (pu_move rfl) ?_
          refine Go.Sl.L.pu rfl rfl ⟨_, rfl, rfl⟩ (pu_len Try.underlying36 rfl) ?_
          refine Go.Sl.L.pu rfl rfl ⟨_, rfl, rfl⟩ (pu_lt rfl rfl) ?_
          refine Go.Sl.L.puB rfl rfl ⟨_, rfl, rfl⟩ (pu_move rfl) (fun hg11 => ?_) (fun hg11 => ?_)
          · skip
            have hg11' := of_decide_eq_true hg11
            obtain ⟨y, hy⟩ : ∃ y, Ls[i]? = some y := ⟨Ls[i]'(by omega), by simp⟩
            obtain rfl := hla (by rintro rfl; simp at hy)
            have hyg := hLs y (List.mem_of_getElem? hy)
            have hLi : L i = y.xs := by rw [hLd]; exact fb_some hy
            refine Go.Sl.L.pu rfl rfl ⟨_, rfl, rfl⟩ (pu_move rfl) ?_
            refine Go.Sl.L.pu rfl rfl ⟨_, rfl, rfl⟩ (pu_move rfl) ?_
            refine Go.Sl.L.pu rfl rfl ⟨_, rfl, rfl⟩ (pu_ia se_36 rfl rfl (by omega) (by omega)) ?_
            refine Go.Sl.L.rd rfl rfl ⟨_, rfl, rfl⟩ (rd_ld na_22 rfl (Rdc.el0 (SlH.ro (by repeat constructor) h2) hy rfl rfl)) ?_
            refine Go.Sl.L.pu rfl rfl ⟨_, rfl, rfl⟩ (pu_len Try.underlying22 rfl) ?_
            refine Go.Sl.L.pu rfl rfl ⟨_, rfl, rfl⟩ (pu_gt rfl rfl) ?_
            refine Go.Sl.L.pu rfl rfl ⟨_, rfl, rfl⟩ (by first | exact pu_pick_t rfl rfl | exact pu_pick_f rfl rfl) ?_
            refine Go.Sl.L.pu rfl rfl trivial (by first | exact pu_pick_t rfl rfl | exact pu_pick_f rfl rfl) ?_
            refine Go.Sl.L.nil ?_
            refine Gs.then_n ?_
            refine Gs.cond rfl (fun hc3 => ?_) (fun hc3 => ?_)
            · skip
              have hc3' := of_decide_eq_true hc3
              refine Gs.seq ?_
              refine Gs.reg ?_
              refine Go.Sl.L.ac rfl rfl trivial (as_call (awake7_spec) (by repeat constructor) (by repeat constructor)) ?_
              rintro _ _ ⟨_, ⟨rfl, rfl⟩, rfl⟩
              refine Go.Sl.L.pu rfl rfl trivial (pu_assign rfl) ?_
              refine Go.Sl.L.nil ?_
              refine Gs.then_n ?_
              refine Gs.ret ?_
              refine Gs.then_r ?_
              refine Gs.blk_r ?_
              refine Gs.then_r ?_
              refine Gs.then_r ?_
              refine Gs.blk_r ?_
              refine Gs.then_r ?_
              exact Gs.fin1 Try.results4 rfl _ (⟨rfl, rfl⟩) (by repeat constructor)
            · skip
              have hc3' := of_decide_eq_false hc3
              have hL60 : (L i).length ≤ 60 := by rw [hLi]; omega
              refine Gs.skip ?_
              refine Gs.then_n ?_
              refine Gs.seq ?_
              refine Gs.seq ?_
              obtain ⟨e1, e2⟩ := last_new (most := 2000) (bs := x.xs) hnone k2 (by omega)
              obtain ⟨e3, e4⟩ := last_sync (b := x.xs) (s := 0) hnone
              obtain ⟨e5, e6⟩ := last_more (most := 2000) (b := x.xs) (bs := L i) (s := x.xs.length) hnone k2 (by omega)
              have hnext : D ++ [⟨nm i, x.xs ++ L i, x.xs.length⟩] = Ds F L n i := by rw [Ds_snoc F L (by omega), ← hD, FL, hFi]
              have hus : used (D ++ [⟨nm i, x.xs ++ L i, x.xs.length⟩]) ≤ 120 * (n - i) := by rw [used_app]; simp only [used, List.map_cons, List.map_nil, List.sum_cons, List.sum_nil, List.length_append] at hu ⊢; omega
              have hacs : acc + (L i).length = sumL L i (n - i) := by rw [show n - i = (n - (i + 1)) + 1 by omega, sumL_cons, hac]; omega
              have hloose : looseD (D ++ [⟨nm i, x.xs ++ L i, x.xs.length⟩]) (nm i) = (L i).length := by
                simp only [looseD, last_look hnone ⟨nm i, x.xs ++ L i, x.xs.length⟩ rfl, List.length_append]; omega
              have h5l : nms5.length = 5 := rfl
              rw [hna2]
              refine Gs.regD mixed (by kernel_rfl) ?_
              refine Rg.pu 0 rfl rfl (by kernel_rfl) trivial (pu_move rfl) ?_
              refine Rg.pu 1 rfl rfl (by kernel_rfl) trivial (pu_move rfl) ?_
              refine Rg.pu 2 rfl rfl (by kernel_rfl) trivial (pu_move rfl) ?_
              refine Rg.pu 3 rfl rfl (by kernel_rfl) trivial (pu_ia se_37 rfl rfl (by omega) (by omega)) ?_
              refine Rg.rd 4 rfl rfl (by kernel_rfl) trivial (rd_ld na_9 rfl (Rdc.el0 (i := i) (hN'.h (by repeat constructor)) hni (by simp) rfl)) ?_
              refine Rg.pu 5 rfl rfl (by kernel_rfl) trivial (pu_move rfl) ?_
              refine Rg.pu 6 rfl rfl (by kernel_rfl) trivial (pu_move rfl) ?_
              refine Rg.pu 7 rfl rfl (by kernel_rfl) trivial (pu_ia se_36 rfl rfl (by omega) (by omega)) ?_
              refine Rg.rd 8 rfl rfl (by kernel_rfl) trivial (rd_ld na_22 rfl (Rdc.el0 (SlH.ro (by repeat constructor) h1) hx rfl rfl)) ?_
              refine Rg.one (by kernel_rfl) (Stp.ac 9 rfl rfl (by kernel_rfl) trivial (as_call (append_spec b 2000 D (nm i) k1 k3 (Srd.ro hxg.1) (by omega) (by omega)) (by repeat constructor) (by repeat constructor))  ?_)
              rintro _ _ ⟨_, ⟨rfl, rfl⟩, rfl⟩
              rw [e1, e2]
              refine Rg.pu 10 rfl rfl (by kernel_rfl) trivial (pu_ne rfl rfl) ?_
              refine Rg.puBf 11 rfl rfl (by kernel_rfl) trivial (pu_move rfl) rfl ?_
              refine Rg.pu 12 rfl rfl (by kernel_rfl) ⟨_, rfl, rfl⟩ (pu_move rfl) ?_
              refine Rg.pu 13 rfl rfl (by kernel_rfl) ⟨_, rfl, rfl⟩ (pu_move rfl) ?_
              refine Rg.pu 14 rfl rfl (by kernel_rfl) ⟨_, rfl, rfl⟩ (pu_move rfl) ?_
              refine Rg.pu 15 rfl rfl (by kernel_rfl) ⟨_, rfl, rfl⟩ (pu_ia se_37 rfl rfl (by omega) (by omega)) ?_
              refine Rg.rd 16 rfl rfl (by kernel_rfl) ⟨_, rfl, rfl⟩ (rd_ld na_9 rfl (Rdc.el0 (i := i) (hN'.h (by repeat constructor)) hni (by simp) rfl)) ?_
              refine Rg.one (by kernel_rfl) (Stp.ac 17 rfl rfl (by kernel_rfl) ⟨_, rfl, rfl⟩ (ac_lit encC_9 ([nm i]) et_37 ek_9 rfl (by repeat constructor) rfl rfl (by decide))  ?_)
              rintro _ _ ⟨a81, rfl, rfl⟩
              refine Rg.one (by kernel_rfl) (Stp.ac 18 rfl rfl (by kernel_rfl) ⟨_, rfl, rfl⟩ (as_call (sync_spec (S := sl 9 1 strC (at0 a81) 1 [nm i]) b 2000 (D ++ [⟨nm i, x.xs, 0⟩]) Srd.own (by simp)) (by repeat constructor) (by repeat constructor))  ?_)
              rintro _ _ ⟨_, ⟨rfl, rfl⟩, rfl⟩
              rw [show syncE (D ++ [⟨nm i, x.xs, 0⟩]) [nm i] = 0 by simp [syncE, e3], if_pos rfl, e4]
              refine Rg.pu 19 rfl rfl (by kernel_rfl) ⟨_, rfl, rfl⟩ (pu_ne rfl rfl) ?_
              refine Rg.pu 20 rfl rfl (by kernel_rfl) trivial (by first | exact pu_pick_t rfl rfl | exact pu_pick_f rfl rfl) ?_
              refine Rg.puBf 21 rfl rfl (by kernel_rfl) trivial (pu_move rfl) rfl ?_
              refine Rg.pu 22 rfl rfl (by kernel_rfl) ⟨_, rfl, rfl⟩ (pu_move rfl) ?_
              refine Rg.pu 23 rfl rfl (by kernel_rfl) ⟨_, rfl, rfl⟩ (pu_move rfl) ?_
              refine Rg.pu 24 rfl rfl (by kernel_rfl) ⟨_, rfl, rfl⟩ (pu_len Try.underlying36 rfl) ?_
              refine Rg.pu 25 rfl rfl (by kernel_rfl) ⟨_, rfl, rfl⟩ (pu_lt rfl rfl) ?_
              refine Rg.puB 26 rfl rfl (by kernel_rfl) ⟨_, rfl, rfl⟩ (pu_move rfl) (fun hg26 => ?_) (fun hg26 => ?_)
              · skip
                have hg26' := of_decide_eq_true hg26
                obtain ⟨y2, hy2⟩ : ∃ y, Ls[i]? = some y := ⟨Ls[i]'(by omega), by simp⟩
                first | (obtain rfl := hla (by rintro rfl; simp at hy2)) | skip
                have hyg2 := hLs y2 (List.mem_of_getElem? hy2)
                have hLi2 : L i = y2.xs := by rw [hLd]; exact fb_some hy2
                refine Rg.pu 27 rfl rfl (by kernel_rfl) ⟨_, rfl, rfl⟩ (pu_move rfl) ?_
                refine Rg.pu 28 rfl rfl (by kernel_rfl) ⟨_, rfl, rfl⟩ (pu_move rfl) ?_
                refine Rg.pu 29 rfl rfl (by kernel_rfl) ⟨_, rfl, rfl⟩ (pu_move rfl) ?_
                refine Rg.pu 30 rfl rfl (by kernel_rfl) ⟨_, rfl, rfl⟩ (pu_ia se_37 rfl rfl (by omega) (by omega)) ?_
                refine Rg.rd 31 rfl rfl (by kernel_rfl) ⟨_, rfl, rfl⟩ (rd_ld na_9 rfl (Rdc.el0 (i := i) (hN'.h (by repeat constructor)) hni (by simp) rfl)) ?_
                refine Rg.pu 32 rfl rfl (by kernel_rfl) ⟨_, rfl, rfl⟩ (pu_move rfl) ?_
                refine Rg.pu 33 rfl rfl (by kernel_rfl) ⟨_, rfl, rfl⟩ (pu_move rfl) ?_
                refine Rg.pu 34 rfl rfl (by kernel_rfl) ⟨_, rfl, rfl⟩ (pu_ia se_36 rfl rfl (by omega) (by omega)) ?_
                refine Rg.rd 35 rfl rfl (by kernel_rfl) ⟨_, rfl, rfl⟩ (rd_ld na_22 rfl (Rdc.el0 (SlH.ro (by repeat constructor) h2) hy2 rfl rfl)) ?_
                refine Rg.one (by kernel_rfl) (Stp.ac 36 rfl rfl (by kernel_rfl) ⟨_, rfl, rfl⟩ (as_call (append_spec b 2000 (D ++ [⟨nm i, x.xs, x.xs.length⟩]) (nm i) k1 k3 (Srd.ro hyg2.1) (by rw [← hLi2]; omega) (by simp; omega)) (by repeat constructor) (by repeat constructor))  ?_)
                rintro _ _ ⟨_, ⟨rfl, rfl⟩, rfl⟩
                rw [← hLi2, e5, e6]
                refine Rg.pu 37 rfl rfl (by kernel_rfl) ⟨_, rfl, rfl⟩ (pu_ne rfl rfl) ?_
                refine Rg.pu 38 rfl rfl (by kernel_rfl) ⟨_, rfl, rfl⟩ (by first | exact pu_pick_t rfl rfl | exact pu_pick_f rfl rfl) ?_
                refine Rg.pu 39 rfl rfl (by kernel_rfl) trivial (by first | exact pu_pick_t rfl rfl | exact pu_pick_f rfl rfl) ?_
                refine Rg.end (by kernel_rfl) ?_
                refine Gs.then_n ?_
                refine Gs.cond_ff rfl rfl ?_
                refine Gs.skip ?_
                refine Gs.then_n ?_
                try rw [show D ++ [⟨nm i, x.xs, x.xs.length⟩] = D ++ [⟨nm i, x.xs ++ L i, x.xs.length⟩] by rw [hLn, List.append_nil]]
                refine Gs.reg ?_
                refine Go.Sl.L.pu rfl rfl trivial (pu_move rfl) ?_
                refine Go.Sl.L.pu rfl rfl trivial (pu_move rfl) ?_
                refine Go.Sl.L.pu rfl rfl trivial (pu_move rfl) ?_
                refine Go.Sl.L.pu rfl rfl trivial (pu_move rfl) ?_
                refine Go.Sl.L.pu rfl rfl trivial (pu_ia se_37 rfl rfl (by omega) (by omega)) ?_
                refine Go.Sl.L.rd rfl rfl trivial (rd_ld na_9 rfl (Rdc.el0 (i := i) (hN'.h (by repeat constructor)) hni (by simp) rfl)) ?_
                refine Go.Sl.L.ac rfl rfl trivial (as_call (loose_spec b 2000 (D ++ [⟨nm i, x.xs ++ L i, x.xs.length⟩]) (nm i)) (by repeat constructor) (by repeat constructor)) ?_
                rintro _ _ ⟨_, ⟨rfl, rfl⟩, rfl⟩
                rw [hloose]
                refine Go.Sl.L.pu rfl rfl trivial (pu_addI (z := ((acc + (L i).length : Nat) : Int)) rfl rfl (by omega) (by omega) (by omega)) ?_
                refine Go.Sl.L.pu rfl rfl trivial (pu_assign rfl) ?_
                refine Go.Sl.L.nil ?_
                refine Gs.blk_n ?_
                refine Gs.then_n ?_
                refine Gs.reg ?_
                refine Go.Sl.L.pu rfl rfl trivial (pu_move rfl) ?_
                refine Go.Sl.L.pu rfl rfl trivial (by first | exact pu_subI rfl rfl rfl (by omega) (by omega) | exact pu_sub rfl rfl) ?_
                refine Go.Sl.L.pu rfl rfl trivial (pu_assign rfl) ?_
                refine Go.Sl.L.nil ?_
                refine Gs.then_n ?_
                exact Gs.again1 (i, acc + (L i).length, D ++ [⟨nm i, x.xs ++ L i, x.xs.length⟩]) ⟨by show i ≤ n; omega, hacs, hnext, hus, by show acc + (L i).length ≤ 60 * (n - i); omega⟩ (by show i < i + 1; omega) (by repeat constructor) (by repeat constructor)
              · skip
                have hg26' := of_decide_eq_false hg26
                have hLn : L i = [] := by rw [hLd, fb_none (by omega)]
                refine Rg.off 27 rfl rfl (by kernel_rfl) rfl rfl rfl rfl ?_
                refine Rg.off 28 rfl rfl (by kernel_rfl) rfl rfl rfl rfl ?_
                refine Rg.off 29 rfl rfl (by kernel_rfl) rfl rfl rfl rfl ?_
                refine Rg.off 30 rfl rfl (by kernel_rfl) rfl rfl rfl rfl ?_
                refine Rg.off 31 rfl rfl (by kernel_rfl) rfl rfl rfl rfl ?_
                refine Rg.off 32 rfl rfl (by kernel_rfl) rfl rfl rfl rfl ?_
                refine Rg.off 33 rfl rfl (by kernel_rfl) rfl rfl rfl rfl ?_
                refine Rg.off 34 rfl rfl (by kernel_rfl) rfl rfl rfl rfl ?_
                refine Rg.off 35 rfl rfl (by kernel_rfl) rfl rfl rfl rfl ?_
                refine Rg.off 36 rfl rfl (by kernel_rfl) rfl rfl rfl rfl ?_
                refine Rg.off 37 rfl rfl (by kernel_rfl) rfl rfl rfl rfl ?_
                refine Rg.pu 38 rfl rfl (by kernel_rfl) ⟨_, rfl, rfl⟩ (by first | exact pu_pick_t rfl rfl | exact pu_pick_f rfl rfl) ?_
                refine Rg.pu 39 rfl rfl (by kernel_rfl) trivial (by first | exact pu_pick_t rfl rfl | exact pu_pick_f rfl rfl) ?_
                refine Rg.end (by kernel_rfl) ?_
                refine Gs.then_n ?_
                refine Gs.cond_f rfl ?_
                refine Gs.skip ?_
                refine Gs.then_n ?_
                try rw [show D ++ [⟨nm i, x.xs, x.xs.length⟩] = D ++ [⟨nm i, x.xs ++ L i, x.xs.length⟩] by rw [hLn, List.append_nil]]
                refine Gs.reg ?_
                refine Go.Sl.L.pu rfl rfl trivial (pu_move rfl) ?_
                refine Go.Sl.L.pu rfl rfl trivial (pu_move rfl) ?_
                refine Go.Sl.L.pu rfl rfl trivial (pu_move rfl) ?_
                refine Go.Sl.L.pu rfl rfl trivial (pu_move rfl) ?_
                refine Go.Sl.L.pu rfl rfl trivial (pu_ia se_37 rfl rfl (by omega) (by omega)) ?_
                refine Go.Sl.L.rd rfl rfl trivial (rd_ld na_9 rfl (Rdc.el0 (i := i) (hN'.h (by repeat constructor)) hni (by simp) rfl)) ?_
                refine Go.Sl.L.ac rfl rfl trivial (as_call (loose_spec b 2000 (D ++ [⟨nm i, x.xs ++ L i, x.xs.length⟩]) (nm i)) (by repeat constructor) (by repeat constructor)) ?_
                rintro _ _ ⟨_, ⟨rfl, rfl⟩, rfl⟩
                rw [hloose]
                refine Go.Sl.L.pu rfl rfl trivial (pu_addI (z := ((acc + (L i).length : Nat) : Int)) rfl rfl (by omega) (by omega) (by omega)) ?_
                refine Go.Sl.L.pu rfl rfl trivial (pu_assign rfl) ?_
                refine Go.Sl.L.nil ?_
                refine Gs.blk_n ?_
                refine Gs.then_n ?_
                refine Gs.reg ?_
                refine Go.Sl.L.pu rfl rfl trivial (pu_move rfl) ?_
                refine Go.Sl.L.pu rfl rfl trivial (by first | exact pu_subI rfl rfl rfl (by omega) (by omega) | exact pu_sub rfl rfl) ?_
                refine Go.Sl.L.pu rfl rfl trivial (pu_assign rfl) ?_
                refine Go.Sl.L.nil ?_
                refine Gs.then_n ?_
                exact Gs.again1 (i, acc + (L i).length, D ++ [⟨nm i, x.xs ++ L i, x.xs.length⟩]) ⟨by show i ≤ n; omega, hacs, hnext, hus, by show acc + (L i).length ≤ 60 * (n - i); omega⟩ (by show i < i + 1; omega) (by repeat constructor) (by repeat constructor)
          · skip
            have hg11' := of_decide_eq_false hg11
            have hL60 : (L i).length ≤ 60 := by rw [hLd, fb_none (by omega)]; simp
            refine Go.Sl.L.off rfl rfl rfl rfl rfl rfl ?_
            refine Go.Sl.L.off rfl rfl rfl rfl rfl rfl ?_
            refine Go.Sl.L.off rfl rfl rfl rfl rfl rfl ?_
            refine Go.Sl.L.off rfl rfl rfl rfl rfl rfl ?_
            refine Go.Sl.L.off rfl rfl rfl rfl rfl rfl ?_
            refine Go.Sl.L.off rfl rfl rfl rfl rfl rfl ?_
            refine Go.Sl.L.pu rfl rfl ⟨_, rfl, rfl⟩ (by first | exact pu_pick_t rfl rfl | exact pu_pick_f rfl rfl) ?_
            refine Go.Sl.L.pu rfl rfl trivial (by first | exact pu_pick_t rfl rfl | exact pu_pick_f rfl rfl) ?_
            refine Go.Sl.L.nil ?_
            refine Gs.then_n ?_
            refine Gs.cond_f rfl ?_
            refine Gs.skip ?_
            refine Gs.then_n ?_
            refine Gs.seq ?_
            refine Gs.seq ?_
            obtain ⟨e1, e2⟩ := last_new (most := 2000) (bs := x.xs) hnone k2 (by omega)
            obtain ⟨e3, e4⟩ := last_sync (b := x.xs) (s := 0) hnone
            obtain ⟨e5, e6⟩ := last_more (most := 2000) (b := x.xs) (bs := L i) (s := x.xs.length) hnone k2 (by omega)
            have hnext : D ++ [⟨nm i, x.xs ++ L i, x.xs.length⟩] = Ds F L n i := by rw [Ds_snoc F L (by omega), ← hD, FL, hFi]
            have hus : used (D ++ [⟨nm i, x.xs ++ L i, x.xs.length⟩]) ≤ 120 * (n - i) := by rw [used_app]; simp only [used, List.map_cons, List.map_nil, List.sum_cons, List.sum_nil, List.length_append] at hu ⊢; omega
            have hacs : acc + (L i).length = sumL L i (n - i) := by rw [show n - i = (n - (i + 1)) + 1 by omega, sumL_cons, hac]; omega
            have hloose : looseD (D ++ [⟨nm i, x.xs ++ L i, x.xs.length⟩]) (nm i) = (L i).length := by
              simp only [looseD, last_look hnone ⟨nm i, x.xs ++ L i, x.xs.length⟩ rfl, List.length_append]; omega
            have h5l : nms5.length = 5 := rfl
            rw [hna2]
            refine Gs.regD mixed (by kernel_rfl) ?_
            refine Rg.pu 0 rfl rfl (by kernel_rfl) trivial (pu_move rfl) ?_
            refine Rg.pu 1 rfl rfl (by kernel_rfl) trivial (pu_move rfl) ?_
            refine Rg.pu 2 rfl rfl (by kernel_rfl) trivial (pu_move rfl) ?_
            refine Rg.pu 3 rfl rfl (by kernel_rfl) trivial (pu_ia se_37 rfl rfl (by omega) (by omega)) ?_
            refine Rg.rd 4 rfl rfl (by kernel_rfl) trivial (rd_ld na_9 rfl (Rdc.el0 (i := i) (hN'.h (by repeat constructor)) hni (by simp) rfl)) ?_
            refine Rg.pu 5 rfl rfl (by kernel_rfl) trivial (pu_move rfl) ?_
            refine Rg.pu 6 rfl rfl (by kernel_rfl) trivial (pu_move rfl) ?_
            refine Rg.pu 7 rfl rfl (by kernel_rfl) trivial (pu_ia se_36 rfl rfl (by omega) (by omega)) ?_
            refine Rg.rd 8 rfl rfl (by kernel_rfl) trivial (rd_ld na_22 rfl (Rdc.el0 (SlH.ro (by repeat constructor) h1) hx rfl rfl)) ?_
            refine Rg.one (by kernel_rfl) (Stp.ac 9 rfl rfl (by kernel_rfl) trivial (as_call (append_spec b 2000 D (nm i) k1 k3 (Srd.ro hxg.1) (by omega) (by omega)) (by repeat constructor) (by repeat constructor))  ?_)
            rintro _ _ ⟨_, ⟨rfl, rfl⟩, rfl⟩
            rw [e1, e2]
            refine Rg.pu 10 rfl rfl (by kernel_rfl) trivial (pu_ne rfl rfl) ?_
            refine Rg.puBf 11 rfl rfl (by kernel_rfl) trivial (pu_move rfl) rfl ?_
            refine Rg.pu 12 rfl rfl (by kernel_rfl) ⟨_, rfl, rfl⟩ (pu_move rfl) ?_
            refine Rg.pu 13 rfl rfl (by kernel_rfl) ⟨_, rfl, rfl⟩ (pu_move rfl) ?_
            refine Rg.pu 14 rfl rfl (by kernel_rfl) ⟨_, rfl, rfl⟩ (pu_move rfl) ?_
            refine Rg.pu 15 rfl rfl (by kernel_rfl) ⟨_, rfl, rfl⟩ (pu_ia se_37 rfl rfl (by omega) (by omega)) ?_
            refine Rg.rd 16 rfl rfl (by kernel_rfl) ⟨_, rfl, rfl⟩ (rd_ld na_9 rfl (Rdc.el0 (i := i) (hN'.h (by repeat constructor)) hni (by simp) rfl)) ?_
            refine Rg.one (by kernel_rfl) (Stp.ac 17 rfl rfl (by kernel_rfl) ⟨_, rfl, rfl⟩ (ac_lit encC_9 ([nm i]) et_37 ek_9 rfl (by repeat constructor) rfl rfl (by decide))  ?_)
            rintro _ _ ⟨a81, rfl, rfl⟩
            refine Rg.one (by kernel_rfl) (Stp.ac 18 rfl rfl (by kernel_rfl) ⟨_, rfl, rfl⟩ (as_call (sync_spec (S := sl 9 1 strC (at0 a81) 1 [nm i]) b 2000 (D ++ [⟨nm i, x.xs, 0⟩]) Srd.own (by simp)) (by repeat constructor) (by repeat constructor))  ?_)
            rintro _ _ ⟨_, ⟨rfl, rfl⟩, rfl⟩
            rw [show syncE (D ++ [⟨nm i, x.xs, 0⟩]) [nm i] = 0 by simp [syncE, e3], if_pos rfl, e4]
            refine Rg.pu 19 rfl rfl (by kernel_rfl) ⟨_, rfl, rfl⟩ (pu_ne rfl rfl) ?_
            refine Rg.pu 20 rfl rfl (by kernel_rfl) trivial (by first | exact pu_pick_t rfl rfl | exact pu_pick_f rfl rfl) ?_
            refine Rg.puBf 21 rfl rfl (by kernel_rfl) trivial (pu_move rfl) rfl ?_
            refine Rg.pu 22 rfl rfl (by kernel_rfl) ⟨_, rfl, rfl⟩ (pu_move rfl) ?_
            refine Rg.pu 23 rfl rfl (by kernel_rfl) ⟨_, rfl, rfl⟩ (pu_move rfl) ?_
            refine Rg.pu 24 rfl rfl (by kernel_rfl) ⟨_, rfl, rfl⟩ (pu_len Try.underlying36 rfl) ?_
            refine Rg.pu 25 rfl rfl (by kernel_rfl) ⟨_, rfl, rfl⟩ (pu_lt rfl rfl) ?_
            refine Rg.puB 26 rfl rfl (by kernel_rfl) ⟨_, rfl, rfl⟩ (pu_move rfl) (fun hg26 => ?_) (fun hg26 => ?_)
            · skip
              have hg26' := of_decide_eq_true hg26
              obtain ⟨y2, hy2⟩ : ∃ y, Ls[i]? = some y := ⟨Ls[i]'(by omega), by simp⟩
              first | (obtain rfl := hla (by rintro rfl; simp at hy2)) | skip
              have hyg2 := hLs y2 (List.mem_of_getElem? hy2)
              have hLi2 : L i = y2.xs := by rw [hLd]; exact fb_some hy2
              refine Rg.pu 27 rfl rfl (by kernel_rfl) ⟨_, rfl, rfl⟩ (pu_move rfl) ?_
              refine Rg.pu 28 rfl rfl (by kernel_rfl) ⟨_, rfl, rfl⟩ (pu_move rfl) ?_
              refine Rg.pu 29 rfl rfl (by kernel_rfl) ⟨_, rfl, rfl⟩ (pu_move rfl) ?_
              refine Rg.pu 30 rfl rfl (by kernel_rfl) ⟨_, rfl, rfl⟩ (pu_ia se_37 rfl rfl (by omega) (by omega)) ?_
              refine Rg.rd 31 rfl rfl (by kernel_rfl) ⟨_, rfl, rfl⟩ (rd_ld na_9 rfl (Rdc.el0 (i := i) (hN'.h (by repeat constructor)) hni (by simp) rfl)) ?_
              refine Rg.pu 32 rfl rfl (by kernel_rfl) ⟨_, rfl, rfl⟩ (pu_move rfl) ?_
              refine Rg.pu 33 rfl rfl (by kernel_rfl) ⟨_, rfl, rfl⟩ (pu_move rfl) ?_
              refine Rg.pu 34 rfl rfl (by kernel_rfl) ⟨_, rfl, rfl⟩ (pu_ia se_36 rfl rfl (by omega) (by omega)) ?_
              refine Rg.rd 35 rfl rfl (by kernel_rfl) ⟨_, rfl, rfl⟩ (rd_ld na_22 rfl (Rdc.el0 (SlH.ro (by repeat constructor) h2) hy2 rfl rfl)) ?_
              refine Rg.one (by kernel_rfl) (Stp.ac 36 rfl rfl (by kernel_rfl) ⟨_, rfl, rfl⟩ (as_call (append_spec b 2000 (D ++ [⟨nm i, x.xs, x.xs.length⟩]) (nm i) k1 k3 (Srd.ro hyg2.1) (by rw [← hLi2]; omega) (by simp; omega)) (by repeat constructor) (by repeat constructor))  ?_)
              rintro _ _ ⟨_, ⟨rfl, rfl⟩, rfl⟩
              rw [← hLi2, e5, e6]
              refine Rg.pu 37 rfl rfl (by kernel_rfl) ⟨_, rfl, rfl⟩ (pu_ne rfl rfl) ?_
              refine Rg.pu 38 rfl rfl (by kernel_rfl) ⟨_, rfl, rfl⟩ (by first | exact pu_pick_t rfl rfl | exact pu_pick_f rfl rfl) ?_
              refine Rg.pu 39 rfl rfl (by kernel_rfl) trivial (by first | exact pu_pick_t rfl rfl | exact pu_pick_f rfl rfl) ?_
              refine Rg.end (by kernel_rfl) ?_
              refine Gs.then_n ?_
              refine Gs.cond_ff rfl rfl ?_
              refine Gs.skip ?_
              refine Gs.then_n ?_
              try rw [show D ++ [⟨nm i, x.xs, x.xs.length⟩] = D ++ [⟨nm i, x.xs ++ L i, x.xs.length⟩] by rw [hLn, List.append_nil]]
              refine Gs.reg ?_
              refine Go.Sl.L.pu rfl rfl trivial (pu_move rfl) ?_
              refine Go.Sl.L.pu rfl rfl trivial (pu_move rfl) ?_
              refine Go.Sl.L.pu rfl rfl trivial (pu_move rfl) ?_
              refine Go.Sl.L.pu rfl rfl trivial (pu_move rfl) ?_
              refine Go.Sl.L.pu rfl rfl trivial (pu_ia se_37 rfl rfl (by omega) (by omega)) ?_
              refine Go.Sl.L.rd rfl rfl trivial (rd_ld na_9 rfl (Rdc.el0 (i := i) (hN'.h (by repeat constructor)) hni (by simp) rfl)) ?_
              refine Go.Sl.L.ac rfl rfl trivial (as_call (loose_spec b 2000 (D ++ [⟨nm i, x.xs ++ L i, x.xs.length⟩]) (nm i)) (by repeat constructor) (by repeat constructor)) ?_
              rintro _ _ ⟨_, ⟨rfl, rfl⟩, rfl⟩
              rw [hloose]
              refine Go.Sl.L.pu rfl rfl trivial (pu_addI (z := ((acc + (L i).length : Nat) : Int)) rfl rfl (by omega) (by omega) (by omega)) ?_
              refine Go.Sl.L.pu rfl rfl trivial (pu_assign rfl) ?_
              refine Go.Sl.L.nil ?_
              refine Gs.blk_n ?_
              refine Gs.then_n ?_
              refine Gs.reg ?_
              refine Go.Sl.L.pu rfl rfl trivial (pu_move rfl) ?_
              refine Go.Sl.L.pu rfl rfl trivial (by first | exact pu_subI rfl rfl rfl (by omega) (by omega) | exact pu_sub rfl rfl) ?_
              refine Go.Sl.L.pu rfl rfl trivial (pu_assign rfl) ?_
              refine Go.Sl.L.nil ?_
              refine Gs.then_n ?_
              exact Gs.again1 (i, acc + (L i).length, D ++ [⟨nm i, x.xs ++ L i, x.xs.length⟩]) ⟨by show i ≤ n; omega, hacs, hnext, hus, by show acc + (L i).length ≤ 60 * (n - i); omega⟩ (by show i < i + 1; omega) (by repeat constructor) (by repeat constructor)
            · skip
              have hg26' := of_decide_eq_false hg26
              have hLn : L i = [] := by rw [hLd, fb_none (by omega)]
              refine Rg.off 27 rfl rfl (by kernel_rfl) rfl rfl rfl rfl ?_
              refine Rg.off 28 rfl rfl (by kernel_rfl) rfl rfl rfl rfl ?_
              refine Rg.off 29 rfl rfl (by kernel_rfl) rfl rfl rfl rfl ?_
              refine Rg.off 30 rfl rfl (by kernel_rfl) rfl rfl rfl rfl ?_
              refine Rg.off 31 rfl rfl (by kernel_rfl) rfl rfl rfl rfl ?_
              refine Rg.off 32 rfl rfl (by kernel_rfl) rfl rfl rfl rfl ?_
              refine Rg.off 33 rfl rfl (by kernel_rfl) rfl rfl rfl rfl ?_
              refine Rg.off 34 rfl rfl (by kernel_rfl) rfl rfl rfl rfl ?_
              refine Rg.off 35 rfl rfl (by kernel_rfl) rfl rfl rfl rfl ?_
              refine Rg.off 36 rfl rfl (by kernel_rfl) rfl rfl rfl rfl ?_
              refine Rg.off 37 rfl rfl (by kernel_rfl) rfl rfl rfl rfl ?_
              refine Rg.pu 38 rfl rfl (by kernel_rfl) ⟨_, rfl, rfl⟩ (by first | exact pu_pick_t rfl rfl | exact pu_pick_f rfl rfl) ?_
              refine Rg.pu 39 rfl rfl (by kernel_rfl) trivial (by first | exact pu_pick_t rfl rfl | exact pu_pick_f rfl rfl) ?_
              refine Rg.end (by kernel_rfl) ?_
              refine Gs.then_n ?_
              refine Gs.cond_f rfl ?_
              refine Gs.skip ?_
              refine Gs.then_n ?_
              try rw [show D ++ [⟨nm i, x.xs, x.xs.length⟩] = D ++ [⟨nm i, x.xs ++ L i, x.xs.length⟩] by rw [hLn, List.append_nil]]
              refine Gs.reg ?_
              refine Go.Sl.L.pu rfl rfl trivial (pu_move rfl) ?_
              refine Go.Sl.L.pu rfl rfl trivial (pu_move rfl) ?_
              refine Go.Sl.L.pu rfl rfl trivial (pu_move rfl) ?_
              refine Go.Sl.L.pu rfl rfl trivial (pu_move rfl) ?_
              refine Go.Sl.L.pu rfl rfl trivial (pu_ia se_37 rfl rfl (by omega) (by omega)) ?_
              refine Go.Sl.L.rd rfl rfl trivial (rd_ld na_9 rfl (Rdc.el0 (i := i) (hN'.h (by repeat constructor)) hni (by simp) rfl)) ?_
              refine Go.Sl.L.ac rfl rfl trivial (as_call (loose_spec b 2000 (D ++ [⟨nm i, x.xs ++ L i, x.xs.length⟩]) (nm i)) (by repeat constructor) (by repeat constructor)) ?_
              rintro _ _ ⟨_, ⟨rfl, rfl⟩, rfl⟩
              rw [hloose]
              refine Go.Sl.L.pu rfl rfl trivial (pu_addI (z := ((acc + (L i).length : Nat) : Int)) rfl rfl (by omega) (by omega) (by omega)) ?_
              refine Go.Sl.L.pu rfl rfl trivial (pu_assign rfl) ?_
              refine Go.Sl.L.nil ?_
              refine Gs.blk_n ?_
              refine Gs.then_n ?_
              refine Gs.reg ?_
              refine Go.Sl.L.pu rfl rfl trivial (pu_move rfl) ?_
              refine Go.Sl.L.pu rfl rfl trivial (by first | exact pu_subI rfl rfl rfl (by omega) (by omega) | exact pu_sub rfl rfl) ?_
              refine Go.Sl.L.pu rfl rfl trivial (pu_assign rfl) ?_
              refine Go.Sl.L.nil ?_
              refine Gs.then_n ?_
              exact Gs.again1 (i, acc + (L i).length, D ++ [⟨nm i, x.xs ++ L i, x.xs.length⟩]) ⟨by show i ≤ n; omega, hacs, hnext, hus, by show acc + (L i).length ≤ 60 * (n - i); omega⟩ (by show i < i + 1; omega) (by repeat constructor) (by repeat constructor)
      · skip
        have hj0 : j = 0 := by have := of_decide_eq_false hc2; omega
        subst hj0
        rw [Nat.sub_zero] at hac hu ha
        refine Gs.drvOk (by repeat constructor) fun hok => ?_
        have hacb : acc ≤ 300 := by omega
        have hk1 := lowZ_in (a := stay) (b := (acc : Int) + 3) (by omega) (by omega)
        obtain ⟨st, hst⟩ : ∃ st : Nat, lowZ stay ((acc : Int) + 3) = st := ⟨(lowZ stay ((acc : Int) + 3)).toNat, by omega⟩
        rw [hst] at hk1
        have hDl : D.length ≤ 5 := by rw [hD]; simp [Ds]; omega
        have hud : used D = sumL F 0 n + acc := by rw [hD, hac]; exact Ds_used (n := n) F L n 0 rfl (Nat.zero_le _)
        have hua : used (crashL st D) = sumL F 0 n + min st acc := by rw [hD, hac]; exact Ds_usedAfter F L hn5 st (by rw [← hD]; exact hok.nd)
        have hDl2 : (crashL st D).length ≤ 5 := by have := congrArg List.length (names_crashN (sortB (names D)) (st : Int) D); simp only [List.length_map] at this; unfold crashL; omega
        refine Gs.exit ?_
        refine Gs.then_x ?_
        refine Gs.then_x ?_
        refine Gs.blk_hit ?_
        refine Gs.then_n ?_
        refine Gs.seq ?_
        refine Gs.reg ?_
        refine Go.Sl.L.pu rfl rfl trivial (pu_move rfl) ?_
        refine Go.Sl.L.pu rfl rfl trivial (pu_move rfl) ?_
        refine Go.Sl.L.pu rfl rfl trivial (pu_addI (z := (acc : Int) + 3) rfl rfl rfl (by omega) (by omega)) ?_
        refine Go.Sl.L.ac rfl rfl trivial (as_call (low_spec stay ((acc : Int) + 3) (by omega) (by omega)) (by repeat constructor) (by repeat constructor)) ?_
        rintro _ _ ⟨_, ⟨rfl, rfl⟩, rfl⟩
        rw [hst]
        refine Go.Sl.L.pu rfl rfl trivial (pu_assign rfl) ?_
        refine Go.Sl.L.nil ?_
        refine Gs.then_n ?_
        refine Gs.seq ?_
        refine Gs.reg ?_
        refine Go.Sl.L.pu rfl rfl trivial (pu_move rfl) ?_
        refine Go.Sl.L.ac rfl rfl trivial (as_call (used_spec b 2000 D (by omega)) (by repeat constructor) (by repeat constructor)) ?_
        rintro _ _ ⟨_, ⟨rfl, rfl⟩, rfl⟩
        refine Go.Sl.L.pu rfl rfl trivial (pu_assign rfl) ?_
        refine Go.Sl.L.nil ?_
        refine Gs.then_n ?_
        refine Gs.seq ?_
        refine Gs.reg ?_
        refine Go.Sl.L.pu rfl rfl trivial (pu_move rfl) ?_
        refine Go.Sl.L.pu rfl rfl trivial (pu_move rfl) ?_
        refine Go.Sl.L.ac rfl rfl trivial (as_call (crash_spec b 2000 D st (by omega) (by omega) (by omega)) (by repeat constructor) (by repeat constructor)) ?_
        rintro _ _ ⟨_, ⟨rfl, rfl⟩, rfl⟩
        refine Go.Sl.L.nil ?_
        refine Gs.then_n ?_
        refine Gs.seq ?_
        refine Gs.reg ?_
        refine Go.Sl.L.pu rfl rfl trivial (pu_move rfl) ?_
        refine Go.Sl.L.pu rfl rfl trivial (pu_assign rfl) ?_
        refine Go.Sl.L.nil ?_
        refine Gs.then_n ?_
        refine Gs.seq ?_
        refine Gs.seq ?_
        refine Gs.reg ?_
        refine Go.Sl.L.pu rfl rfl trivial (pu_assign rfl) ?_
        refine Go.Sl.L.nil ?_
        refine Gs.then_n ?_
        refine Gs.block ?_
        refine Gs.loop1 (fun s : Nat × Nat => s.1 ≤ n ∧ s.2 = st - sumL L 0 s.1) (fun s => [(0, .slice fa n fc), (1, .slice la Ls.length lc), (2, int st), (7, ptr b), (8, .slice na n 5), (9, int acc), (11, int (used D)), (12, int s.2), (13, int s.1)]) (fun s => [ro h0, drv b 2000 (crashL st D), sl 9 1 strC (at0 a32) 5 nms5] ++ R) (fun s => n - s.1) (0, st) (⟨Nat.zero_le _, by simp [sumL]⟩) (by repeat constructor) (by repeat constructor) (fun s hs => ?_)
        obtain ⟨i, lf⟩ := s
        obtain ⟨hi, hlf⟩ := hs
        dsimp only at hi hlf ⊢
        refine Gs.seq ?_
        refine Gs.seq ?_
        refine Gs.reg ?_
        refine Go.Sl.L.pu rfl rfl trivial (pu_move rfl) ?_
        refine Go.Sl.L.pu rfl rfl trivial (pu_move rfl) ?_
        refine Go.Sl.L.pu rfl rfl trivial (pu_len Try.underlying36 rfl) ?_
        refine Go.Sl.L.pu rfl rfl trivial (pu_lt rfl rfl) ?_
        refine Go.Sl.L.nil ?_
        refine Gs.then_n ?_
        refine Gs.cond rfl (fun hc5 => ?_) (fun hc5 => ?_)
        · skip
          have hlt : i < n := by have := of_decide_eq_true hc5; omega
          obtain ⟨x, hx⟩ : ∃ x, Fs[i]? = some x := ⟨Fs[i]'(by omega), by simp⟩
          obtain rfl := hfa (by rintro rfl; simp at hx)
          have hxg := hF x (List.mem_of_getElem? hx)
          have hFi : F i = x.xs := by rw [hFd]; exact fb_some hx
          have hni := nm_at (i := i) (n := n) hlt hn5
          have hlook : lookF (crashL st D) (nm i) = some (crashF (lf : Int) (FL F L i)) := by rw [hlf, hD]; exact Ds_after F L hn5 st hlt
          have hbytes : (crashF (lf : Int) (FL F L i)).b = x.xs ++ (L i).take (min lf (L i).length) := by rw [hlf, ← hFi]; exact Ds_bytes F L st i
          have hread : readL (crashL st D) (nm i) = x.xs ++ (L i).take (min lf (L i).length) := by simp only [readL, hlook]; exact hbytes
          have hreadE : readE (crashL st D) (nm i) = 0 := by simp only [readE, hlook]
          have hloose : looseD (crashL st D) (nm i) = 0 := by
            simp only [looseD, hlook]
            have := Ds_safe F L st i
            rw [← hlf] at this; omega
          have hok' : (F i).length ≤ 2000 ∧ (L i).length ≤ 2000 := by
            have h1 : FL F L i ∈ D := by have := Ds_look F L hn5 (Nat.zero_le i) hlt; rw [← hD] at this; exact List.mem_of_find?_eq_some this
            have h2 := used_mem h1
            simp only [FL, List.length_append] at h2
            omega
          have hxl : x.xs.length ≤ 2000 := by rw [← hFi]; exact hok'.1
          obtain ⟨wn, hwn⟩ : ∃ wn, wn = x.xs ++ (L i).take (min lf (L i).length) := ⟨_, rfl⟩
          have hwl : wn.length ≤ 4000 := by rw [hwn, List.length_append, List.length_take]; omega
          have hnext : lf - (L i).length = st - sumL L 0 (i + 1) := by rw [sumL_succ, Nat.zero_add, hlf]; omega
          have h5l : nms5.length = 5 := rfl
          rw [hna2]
          refine Gs.skip ?_
          refine Gs.then_n ?_
          refine Gs.seq ?_
          refine Gs.block ?_
          refine Gs.seq ?_
          refine Gs.reg ?_
          refine Go.Sl.L.pu rfl rfl trivial (pu_move rfl) ?_
          refine Go.Sl.L.pu rfl rfl trivial (pu_move rfl) ?_
          refine Go.Sl.L.pu rfl rfl trivial (pu_ia se_36 rfl rfl (by omega) (by omega)) ?_
          refine Go.Sl.L.rd rfl rfl trivial (rd_ld na_22 rfl (Rdc.el0 (SlH.ro (by repeat constructor) h1) hx rfl rfl)) ?_
          refine Go.Sl.L.ac rfl rfl trivial (ac_copy et_22 ek_5 rfl rfl (SrcH.sl Try.underlying22 ek_5 (SlH.ro (by repeat constructor) hxg.1)) (by first | omega | (simp; omega)) (by first | omega | (simp; omega))) ?_
          rintro _ _ ⟨a132, c132, rfl, rfl⟩
          refine Go.Sl.L.pu rfl rfl trivial (pu_assign rfl) ?_
          refine Go.Sl.L.nil ?_
          refine Gs.then_n ?_
          refine Gs.seq ?_
          refine Gs.seq ?_
          refine Gs.reg ?_
          refine Go.Sl.L.pu rfl rfl trivial (pu_move rfl) ?_
          refine Go.Sl.L.pu rfl rfl trivial (pu_move rfl) ?_
          refine Go.Sl.L.pu rfl rfl trivial (pu_len Try.underlying36 rfl) ?_
          refine Go.Sl.L.pu rfl rfl trivial (pu_lt rfl rfl) ?_
          refine Go.Sl.L.nil ?_
          refine Gs.then_n ?_
          refine Gs.cond rfl (fun hc6 => ?_) (fun hc6 => ?_)
          · skip
            have hc6' := of_decide_eq_true hc6
            obtain ⟨y, hy⟩ : ∃ y, Ls[i]? = some y := ⟨Ls[i]'(by omega), by simp⟩
            obtain rfl := hla (by rintro rfl; simp at hy)
            have hyg := hLs y (List.mem_of_getElem? hy)
            have hLi : L i = y.xs := by rw [hLd]; exact fb_some hy
            have hyl : y.xs.length ≤ 2000 := by rw [← hLi]; exact hok'.2
            have hkk : min (lf : Int) (y.xs.length : Int) = ((min lf y.xs.length : Nat) : Int) := by omega
            have hcutl : (y.xs.take (min lf y.xs.length)).length = min lf y.xs.length := by rw [List.length_take]; omega
            have hwant : x.xs ++ y.xs.take (min lf y.xs.length) = wn := by rw [hwn, hLi]
            have hlf2 : lf - min lf y.xs.length = st - sumL L 0 (i + 1) := by rw [← hnext, hLi]; omega
            refine Gs.seq ?_
            refine Gs.reg ?_
            refine Go.Sl.L.pu rfl rfl trivial (pu_move rfl) ?_
            refine Go.Sl.L.pu rfl rfl trivial (pu_move rfl) ?_
            refine Go.Sl.L.pu rfl rfl trivial (pu_move rfl) ?_
            refine Go.Sl.L.pu rfl rfl trivial (pu_ia se_36 rfl rfl (by omega) (by omega)) ?_
            refine Go.Sl.L.rd rfl rfl trivial (rd_ld na_22 rfl (Rdc.el0 (SlH.ro (by repeat constructor) h2) hy rfl rfl)) ?_
            refine Go.Sl.L.pu rfl rfl trivial (pu_len Try.underlying22 rfl) ?_
            refine Go.Sl.L.pu rfl rfl trivial (pu_min rfl rfl) ?_
            rw [hkk]
            refine Go.Sl.L.pu rfl rfl trivial (pu_assign rfl) ?_
            refine Go.Sl.L.nil ?_
            refine Gs.then_n ?_
            refine Gs.seq ?_
            refine Gs.reg ?_
            refine Go.Sl.L.pu rfl rfl trivial (pu_move rfl) ?_
            refine Go.Sl.L.pu rfl rfl trivial (pu_move rfl) ?_
            refine Go.Sl.L.pu rfl rfl trivial (pu_move rfl) ?_
            refine Go.Sl.L.pu rfl rfl trivial (pu_ia se_36 rfl rfl (by omega) (by omega)) ?_
            refine Go.Sl.L.rd rfl rfl trivial (rd_ld na_22 rfl (Rdc.el0 (SlH.ro (by repeat constructor) h2) hy rfl rfl)) ?_
            refine Go.Sl.L.pu rfl rfl trivial (pu_move rfl) ?_
            refine Go.Sl.L.pu rfl rfl trivial (pu_sliceH et_22 rfl rfl (by omega) (by omega)) ?_
            rw [Int.toNat_natCast]
            refine Go.Sl.L.ac rfl rfl trivial (ac_append et_22 ek_5 rfl rfl (by repeat constructor) (SrcH.sl' (ys := y.xs.take (min lf y.xs.length)) Try.underlying22 ek_5 hcutl.symm ((SlH.ro (by repeat constructor) hyg.1).cutH _ _ hyg.2.2.1)) (by first | omega | (simp; omega)) (by first | omega | (simp; omega))) ?_
            rintro _ _ ⟨a151, c151, rfl, rfl⟩
            refine Go.Sl.L.pu rfl rfl trivial (pu_assign rfl) ?_
            refine Go.Sl.L.nil ?_
            refine Gs.then_n ?_
            refine Gs.reg ?_
            refine Go.Sl.L.pu rfl rfl trivial (pu_move rfl) ?_
            refine Go.Sl.L.pu rfl rfl trivial (pu_move rfl) ?_
            refine Go.Sl.L.pu rfl rfl trivial (pu_subI (z := ((lf - min lf y.xs.length : Nat) : Int)) rfl rfl (by omega) (by omega) (by omega)) ?_
            refine Go.Sl.L.pu rfl rfl trivial (pu_assign rfl) ?_
            refine Go.Sl.L.nil ?_
            rw [hwant]
            obtain ⟨wa, rfl⟩ : ∃ wa, wa = a151 := ⟨_, rfl⟩
            obtain ⟨wc, rfl⟩ : ∃ wc, wc = c151 := ⟨_, rfl⟩
            refine Gs.then_n ?_
            refine Gs.seq ?_
            refine Gs.reg ?_
            refine Go.Sl.L.pu rfl rfl trivial (pu_move rfl) ?_
            refine Go.Sl.L.pu rfl rfl trivial (pu_move rfl) ?_
            refine Go.Sl.L.pu rfl rfl trivial (pu_move rfl) ?_
            refine Go.Sl.L.pu rfl rfl trivial (pu_ia se_37 rfl rfl (by omega) (by omega)) ?_
            refine Go.Sl.L.rd rfl rfl trivial (rd_ld na_9 rfl (Rdc.el0 (i := i) (hN'.h (by repeat constructor)) hni (by simp) rfl)) ?_
            refine Go.Sl.L.ac rfl rfl trivial (as_call (read_spec b 2000 (crashL st D) (nm i)) (by repeat constructor) (by repeat constructor)) ?_
            rintro _ _ ⟨_, ⟨ra, rc, rfl, rfl⟩, rfl⟩
            rw [hreadE, hread, ← hwn]
            refine Go.Sl.L.pu rfl rfl trivial (pu_move rfl) ?_
            refine Go.Sl.L.pu rfl rfl trivial (pu_extract rfl rfl) ?_
            refine Go.Sl.L.pu rfl rfl trivial (pu_extract rfl rfl) ?_
            refine Go.Sl.L.pu rfl rfl trivial (pu_assign rfl) ?_
            refine Go.Sl.L.pu rfl rfl trivial (pu_assign rfl) ?_
            refine Go.Sl.L.nil ?_
            refine Gs.then_n ?_
            refine Gs.seq ?_
            refine Gs.reg ?_
            refine Go.Sl.L.pu rfl rfl trivial (pu_move rfl) ?_
            refine Go.Sl.L.pu rfl rfl trivial (pu_ne rfl rfl) ?_
            refine Go.Sl.L.puBf rfl rfl trivial (pu_move rfl) rfl ?_
            refine Go.Sl.L.pu rfl rfl ⟨_, rfl, rfl⟩ (pu_move rfl) ?_
            refine Go.Sl.L.pu rfl rfl ⟨_, rfl, rfl⟩ (pu_move rfl) ?_
            refine Go.Sl.L.ac rfl rfl ⟨_, rfl, rfl⟩ (as_call (sameBytes_spec (S := sl 5 1 byteC ra rc wn) (U := sl 5 1 byteC wa wc wn) Srd.own Srd.own (by omega)) (by repeat constructor) (by repeat constructor)) ?_
            rintro _ _ ⟨_, ⟨rfl, rfl⟩, rfl⟩
            refine Go.Sl.L.pu rfl rfl ⟨_, rfl, rfl⟩ (pu_not rfl) ?_
            refine Go.Sl.L.pu rfl rfl trivial (by first | exact pu_pick_t rfl rfl | exact pu_pick_f rfl rfl) ?_
            refine Go.Sl.L.puBf rfl rfl trivial (pu_move rfl) (by simp) ?_
            refine Go.Sl.L.pu rfl rfl ⟨_, rfl, rfl⟩ (pu_move rfl) ?_
            refine Go.Sl.L.pu rfl rfl ⟨_, rfl, rfl⟩ (pu_move rfl) ?_
            refine Go.Sl.L.pu rfl rfl ⟨_, rfl, rfl⟩ (pu_move rfl) ?_
            refine Go.Sl.L.pu rfl rfl ⟨_, rfl, rfl⟩ (pu_ia se_37 rfl rfl (by omega) (by omega)) ?_
            refine Go.Sl.L.rd rfl rfl ⟨_, rfl, rfl⟩ (rd_ld na_9 rfl (Rdc.el0 (i := i) (hN'.h (by repeat constructor)) hni (by simp) rfl)) ?_
            refine Go.Sl.L.ac rfl rfl ⟨_, rfl, rfl⟩ (as_call (loose_spec b 2000 (crashL st D) (nm i)) (by repeat constructor) (by repeat constructor)) ?_
            rintro _ _ ⟨_, ⟨rfl, rfl⟩, rfl⟩
            rw [hloose]
            refine Go.Sl.L.pu rfl rfl ⟨_, rfl, rfl⟩ (pu_ne rfl rfl) ?_
            refine Go.Sl.L.pu rfl rfl trivial (by first | exact pu_pick_t rfl rfl | exact pu_pick_f rfl rfl) ?_
            refine Go.Sl.L.nil ?_
            refine Gs.then_n ?_
            refine Gs.cond_ff rfl rfl ?_
            refine Gs.skip ?_
            refine Gs.blk_n ?_
            refine Gs.then_n ?_
            refine Gs.reg ?_
            refine Go.Sl.L.pu rfl rfl trivial (pu_move rfl) ?_
            refine Go.Sl.L.pu rfl rfl trivial (by first | exact pu_addI rfl rfl rfl (by omega) (by omega) | exact pu_add rfl rfl) ?_
            refine Go.Sl.L.pu rfl rfl trivial (pu_assign rfl) ?_
            refine Go.Sl.L.nil ?_
            refine Gs.then_n ?_
            exact Gs.again1 (i + 1, st - sumL L 0 (i + 1)) ⟨by show i + 1 ≤ n; omega, rfl⟩ (by show n - (i + 1) < n - i; omega) (by rw [← hlf2]; repeat constructor) (by repeat constructor)
          · skip
            have hc6' := of_decide_eq_false hc6
            have hLn : L i = [] := by rw [hLd, fb_none (by omega)]
            have hwant : x.xs = wn := by rw [hwn, hLn]; simp
            obtain ⟨wa, rfl⟩ : ∃ wa, wa = a132 := ⟨_, rfl⟩
            obtain ⟨wc, rfl⟩ : ∃ wc, wc = c132 := ⟨_, rfl⟩
            rw [hwant]
            have hlf2 : lf = st - sumL L 0 (i + 1) := by rw [← hnext, hLn]; simp
            refine Gs.skip ?_
            refine Gs.then_n ?_
            refine Gs.seq ?_
            refine Gs.reg ?_
            refine Go.Sl.L.pu rfl rfl trivial (pu_move rfl) ?_
            refine Go.Sl.L.pu rfl rfl trivial (pu_move rfl) ?_
            refine Go.Sl.L.pu rfl rfl trivial (pu_move rfl) ?_
            refine Go.Sl.L.pu rfl rfl trivial (pu_ia se_37 rfl rfl (by omega) (by omega)) ?_
            refine Go.Sl.L.rd rfl rfl trivial (rd_ld na_9 rfl (Rdc.el0 (i := i) (hN'.h (by repeat constructor)) hni (by simp) rfl)) ?_
            refine Go.Sl.L.ac rfl rfl trivial (as_call (read_spec b 2000 (crashL st D) (nm i)) (by repeat constructor) (by repeat constructor)) ?_
            rintro _ _ ⟨_, ⟨ra, rc, rfl, rfl⟩, rfl⟩
            rw [hreadE, hread, ← hwn]
            refine Go.Sl.L.pu rfl rfl trivial (pu_move rfl) ?_
            refine Go.Sl.L.pu rfl rfl trivial (pu_extract rfl rfl) ?_
            refine Go.Sl.L.pu rfl rfl trivial (pu_extract rfl rfl) ?_
            refine Go.Sl.L.pu rfl rfl trivial (pu_assign rfl) ?_
            refine Go.Sl.L.pu rfl rfl trivial (pu_assign rfl) ?_
            refine Go.Sl.L.nil ?_
            refine Gs.then_n ?_
            refine Gs.seq ?_
            refine Gs.reg ?_
            refine Go.Sl.L.pu rfl rfl trivial (pu_move rfl) ?_
            refine Go.Sl.L.pu rfl rfl trivial (pu_ne rfl rfl) ?_
            refine Go.Sl.L.puBf rfl rfl trivial (pu_move rfl) rfl ?_
            refine Go.Sl.L.pu rfl rfl ⟨_, rfl, rfl⟩ (pu_move rfl) ?_
            refine Go.Sl.L.pu rfl rfl ⟨_, rfl, rfl⟩ (pu_move rfl) ?_
            refine Go.Sl.L.ac rfl rfl ⟨_, rfl, rfl⟩ (as_call (sameBytes_spec (S := sl 5 1 byteC ra rc wn) (U := sl 5 1 byteC wa wc wn) Srd.own Srd.own (by omega)) (by repeat constructor) (by repeat constructor)) ?_
            rintro _ _ ⟨_, ⟨rfl, rfl⟩, rfl⟩
            refine Go.Sl.L.pu rfl rfl ⟨_, rfl, rfl⟩ (pu_not rfl) ?_
            refine Go.Sl.L.pu rfl rfl trivial (by first | exact pu_pick_t rfl rfl | exact pu_pick_f rfl rfl) ?_
            refine Go.Sl.L.puBf rfl rfl trivial (pu_move rfl) (by simp) ?_
            refine Go.Sl.L.pu rfl rfl ⟨_, rfl, rfl⟩ (pu_move rfl) ?_
            refine Go.Sl.L.pu rfl rfl ⟨_, rfl, rfl⟩ (pu_move rfl) ?_
            refine Go.Sl.L.pu rfl rfl ⟨_, rfl, rfl⟩ (pu_move rfl) ?_
            refine Go.Sl.L.pu rfl rfl ⟨_, rfl, rfl⟩ (pu_ia se_37 rfl rfl (by omega) (by omega)) ?_
            refine Go.Sl.L.rd rfl rfl ⟨_, rfl, rfl⟩ (rd_ld na_9 rfl (Rdc.el0 (i := i) (hN'.h (by repeat constructor)) hni (by simp) rfl)) ?_
            refine Go.Sl.L.ac rfl rfl ⟨_, rfl, rfl⟩ (as_call (loose_spec b 2000 (crashL st D) (nm i)) (by repeat constructor) (by repeat constructor)) ?_
            rintro _ _ ⟨_, ⟨rfl, rfl⟩, rfl⟩
            rw [hloose]
            refine Go.Sl.L.pu rfl rfl ⟨_, rfl, rfl⟩ (pu_ne rfl rfl) ?_
            refine Go.Sl.L.pu rfl rfl trivial (by first | exact pu_pick_t rfl rfl | exact pu_pick_f rfl rfl) ?_
            refine Go.Sl.L.nil ?_
            refine Gs.then_n ?_
            refine Gs.cond_ff rfl rfl ?_
            refine Gs.skip ?_
            refine Gs.blk_n ?_
            refine Gs.then_n ?_
            refine Gs.reg ?_
            refine Go.Sl.L.pu rfl rfl trivial (pu_move rfl) ?_
            refine Go.Sl.L.pu rfl rfl trivial (by first | exact pu_addI rfl rfl rfl (by omega) (by omega) | exact pu_add rfl rfl) ?_
            refine Go.Sl.L.pu rfl rfl trivial (pu_assign rfl) ?_
            refine Go.Sl.L.nil ?_
            refine Gs.then_n ?_
            exact Gs.again1 (i + 1, st - sumL L 0 (i + 1)) ⟨by show i + 1 ≤ n; omega, rfl⟩ (by show n - (i + 1) < n - i; omega) (by rw [← hlf2]; repeat constructor) (by repeat constructor)
        · skip
          have hge : i = n := by have := of_decide_eq_false hc5; omega
          refine Gs.exit ?_
          refine Gs.then_x ?_
          refine Gs.then_x ?_
          refine Gs.blk_hit ?_
          refine Gs.then_n ?_
          refine Gs.seq ?_
          refine Gs.reg ?_
          refine Go.Sl.L.pu rfl rfl trivial (pu_move rfl) ?_
          refine Go.Sl.L.ac rfl rfl trivial (as_call (used_spec b 2000 (crashL st D) (by omega)) (by repeat constructor) (by repeat constructor)) ?_
          rintro _ _ ⟨_, ⟨rfl, rfl⟩, rfl⟩
          rw [hua]
          refine Go.Sl.L.pu rfl rfl trivial (pu_move rfl) ?_
          refine Go.Sl.L.pu rfl rfl trivial (pu_move rfl) ?_
          refine Go.Sl.L.pu rfl rfl trivial (by first | exact pu_subI rfl rfl rfl (by omega) (by omega) | exact pu_sub rfl rfl) ?_
          refine Go.Sl.L.pu rfl rfl trivial (pu_move rfl) ?_
          refine Go.Sl.L.pu rfl rfl trivial (pu_move rfl) ?_
          refine Go.Sl.L.pu rfl rfl trivial (pu_min rfl rfl) ?_
          refine Go.Sl.L.pu rfl rfl trivial (by first | exact pu_addI rfl rfl rfl (by omega) (by omega) | exact pu_add rfl rfl) ?_
          refine Go.Sl.L.pu rfl rfl trivial (pu_eq rfl rfl) ?_
          refine Go.Sl.L.puBt rfl rfl trivial (pu_move rfl) (decide_eq_true (by omega)) ?_
          refine Go.Sl.L.ac rfl rfl ⟨_, rfl, rfl⟩ (as_call (awake7_spec) (by repeat constructor) (by repeat constructor)) ?_
          rintro _ _ ⟨_, ⟨rfl, rfl⟩, rfl⟩
          refine Go.Sl.L.pu rfl rfl trivial (by first | exact pu_pick_t rfl rfl | exact pu_pick_f rfl rfl) ?_
          refine Go.Sl.L.pu rfl rfl trivial (pu_assign rfl) ?_
          refine Go.Sl.L.nil ?_
          refine Gs.then_n ?_
          refine Gs.ret ?_
          exact Gs.fin1 Try.results4 rfl _ (⟨rfl, rfl⟩) (by repeat constructor)
end Go.Proofs.Ytmfgemhjepagjaa
