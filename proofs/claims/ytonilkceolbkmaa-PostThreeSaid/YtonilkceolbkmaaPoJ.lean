/- Walks: slices.Compact at keys. -/
import Derived.Test.YtonilkceolbkmaaPoI
import Derived.Test.YtonilkceolbkmaaClear
namespace Go.Po
open Go Go.Sl Go.Gv
/-- Without those that are as the one ahead. -/
def dd : List Key → List Key
  | [] => []
  | [x] => [x]
  | x :: y :: l => if x = y then dd (y :: l) else x :: dd (y :: l)
theorem dd_snoc : ∀ (l : List Key) (x : Key), dd (l ++ [x]) = if l.getLast? = some x then dd l else dd l ++ [x]
  | [], x => by simp [dd]
  | [y], x => by
    by_cases h : y = x
    · simp [dd, h]
    · simp [dd, h]
  | y :: z :: l, x => by
    have ih := dd_snoc (z :: l) x
    have e : (y :: z :: l).getLast? = (z :: l).getLast? := by simp [List.getLast?_cons]
    rw [e]
    simp only [List.cons_append] at ih ⊢
    by_cases h : y = z
    · simp only [dd, h, if_true, ih]
    · simp only [dd, h, if_false, ih]
      split <;> rfl
theorem dd_take_t {l : List Key} {i : Nat} {x y : Key} (h0 : 0 < i) (hx : l[i]? = some x) (hy : l[i - 1]? = some y) (h : x = y) : dd (l.take (i + 1)) = dd (l.take i) := by
  have hl : (l.take i).getLast? = some y := by
    have e : i = i - 1 + 1 := by omega
    rw [e, List.take_add_one, hy]; simp
  rw [List.take_add_one, hx, show (some x).toList = [x] from rfl, dd_snoc, hl, h, if_pos rfl]
theorem dd_take_f {l : List Key} {i : Nat} {x y : Key} (h0 : 0 < i) (hx : l[i]? = some x) (hy : l[i - 1]? = some y) (h : x ≠ y) : dd (l.take (i + 1)) = dd (l.take i) ++ [x] := by
  have hl : (l.take i).getLast? = some y := by
    have e : i = i - 1 + 1 := by omega
    rw [e, List.take_add_one, hy]; simp
  rw [List.take_add_one, hx, show (some x).toList = [x] from rfl, dd_snoc, hl, if_neg (fun e => h (Option.some.inj e).symm)]
theorem drop_at {l m : List Key} {d i : Nat} (h : l.drop d = m.drop d) (hi : d ≤ i) : l[i]? = m[i]? := by
  have := congrArg (·[i - d]?) h
  simp only [List.getElem?_drop] at this
  rwa [show d + (i - d) = i by omega] at this
theorem set_take {l : List Key} {w : Nat} {x : Key} (h : w < l.length) : (l.set w x).take (w + 1) = l.take w ++ [x] := by
  rw [List.take_add_one, List.getElem?_set_self h, List.take_set_of_le (Nat.le_refl _)]; rfl
end Go.Po
namespace Go.Proofs.Ytonilkceolbkmaa
open Go Go.Sl Go.Gv Go.Po
set_option maxRecDepth 100000
theorem suba_0 {b o c sz : Nat} : suba (some ⟨b, o, none⟩) 0 c sz = some ⟨b, o, none⟩ := by
  unfold suba; split
  · rfl
  · simp [Addr.add]
theorem compact_spec {a : Option Addr} {c : Nat} {xs : List Key} (hl : xs.length ≤ 100000) :
    Ct Try.prog 36 [.slice a xs.length c] [sl 34 2 keyC a c xs] (fun v hs => v = .slice a (dd xs).length c ∧ hs = [sl 34 2 keyC a c (dd xs)]) := by
  refine Ct.intro Try.func36 rfl (by kernel_rfl) 61 Try.ntmps36 (Nat.le_of_ble_eq_true rfl) fun w0 R => ?_
  refine Gs.slAddr (xs := xs) (SlH.own (E := 34) (enc := keyC) (by repeat constructor)) fun ab ao ha => Gs.slLen (xs := xs) (by repeat constructor) fun hlc => ?_
  refine Gs.seq ?_
  refine Gs.reg ?_
  refine Go.Sl.L.pu rfl rfl trivial (pu_assign rfl) ?_
  refine Go.Sl.L.nil ?_
  refine Gs.then_n ?_
  refine Gs.seq ?_
  refine Gs.seq ?_
  refine Gs.reg ?_
  refine Go.Sl.L.pu rfl rfl trivial (pu_move rfl) ?_
  refine Go.Sl.L.pu rfl rfl trivial (pu_len Try.underlying25 rfl) ?_
  refine Go.Sl.L.pu rfl rfl trivial (pu_lt rfl rfl) ?_
  refine Go.Sl.L.nil ?_
  refine Gs.then_n ?_
  refine Gs.cond rfl (fun hc0 => ?_) (fun hc0 => ?_)
  · skip
    have hdd : dd xs = xs := by
      have h := of_decide_eq_true hc0
      match xs, h with
      | [], _ => rfl
      | [x], _ => rfl
      | x :: y :: l, h => simp at h; omega
    refine Gs.seq ?_
    refine Gs.reg ?_
    refine Go.Sl.L.pu rfl rfl trivial (pu_move rfl) ?_
    refine Go.Sl.L.pu rfl rfl trivial (pu_assign rfl) ?_
    refine Go.Sl.L.nil ?_
    refine Gs.then_n ?_
    refine Gs.ret ?_
    refine Gs.then_r ?_
    exact Gs.fin1 Try.results36 rfl _ (⟨by rw [hdd], by rw [hdd]⟩) (by repeat constructor)
  · skip
    have h2 : 2 ≤ xs.length := by have := of_decide_eq_false hc0; omega
    obtain rfl := ha (by rintro rfl; simp at h2)
    have h1 : dd (xs.take 1) = xs.take 1 := by
      match xs, h2 with
      | x :: l, _ => rfl
    refine Gs.skip ?_
    refine Gs.then_n ?_
    refine Gs.seq ?_
    refine Gs.seq ?_
    refine Gs.reg ?_
    refine Go.Sl.L.pu rfl rfl trivial (pu_assign rfl) ?_
    refine Go.Sl.L.nil ?_
    refine Gs.then_n ?_
    refine Gs.block ?_
    refine Gs.loop1 (fun i : Nat => 1 ≤ i ∧ i ≤ xs.length ∧ dd (xs.take i) = xs.take i) (fun i => [(0, .slice (some ⟨ab, ao, none⟩) xs.length c), (3, int i)]) (fun i => [sl 34 2 keyC (some ⟨ab, ao, none⟩) c xs] ++ R) (fun i => xs.length - i) 1 (⟨Nat.le_refl _, by omega, h1⟩) (by repeat constructor) (by repeat constructor) (fun i ⟨hi1, hi2, hdi⟩ => ?_)
    refine Gs.seq ?_
    refine Gs.seq ?_
    refine Gs.reg ?_
    refine Go.Sl.L.pu rfl rfl trivial (pu_move rfl) ?_
    refine Go.Sl.L.pu rfl rfl trivial (pu_move rfl) ?_
    refine Go.Sl.L.pu rfl rfl trivial (pu_len Try.underlying25 rfl) ?_
    refine Go.Sl.L.pu rfl rfl trivial (pu_lt rfl rfl) ?_
    refine Go.Sl.L.nil ?_
    refine Gs.then_n ?_
    refine Gs.cond rfl (fun hc1 => ?_) (fun hc1 => ?_)
    · skip
      have hlt : i < xs.length := by have := of_decide_eq_true hc1; omega
      obtain ⟨x, hx⟩ : ∃ x, xs[i]? = some x := ⟨xs[i], by simp [hlt]⟩
      obtain ⟨y, hy⟩ : ∃ x, xs[i - 1]? = some x := ⟨xs[i - 1]'(by omega), by simp⟩
      refine Gs.skip ?_
      refine Gs.then_n ?_
      refine Gs.seq ?_
      refine Gs.block ?_
      refine Gs.seq ?_
      refine Gs.regD mixed (by kernel_rfl) ?_
      refine Rg.pu 0 rfl rfl (by kernel_rfl) trivial (pu_move rfl) ?_
      refine Rg.pu 1 rfl rfl (by kernel_rfl) trivial (pu_move rfl) ?_
      refine Rg.pu 2 rfl rfl (by kernel_rfl) trivial (pu_ia se_25 rfl rfl (by omega) (by omega)) ?_
      refine Rg.rd 3 rfl rfl (by kernel_rfl) trivial (rd_lda ag_34 rfl (Rdc.el0 (xs := xs) (enc := keyC) (sz := 2) (SlH.own (E := 34) (c := c) (by repeat constructor)) hx rfl rfl) rfl) ?_
      refine Rg.pu 4 rfl rfl (by kernel_rfl) trivial (pu_move rfl) ?_
      refine Rg.pu 5 rfl rfl (by kernel_rfl) trivial (pu_move rfl) ?_
      refine Rg.pu 6 rfl rfl (by kernel_rfl) trivial (pu_subI (z := ((i - 1 : Nat) : Int)) rfl rfl (by omega) (by omega) (by omega)) ?_
      refine Rg.pu 7 rfl rfl (by kernel_rfl) trivial (pu_ia se_25 rfl rfl (by omega) (by omega)) ?_
      refine Rg.rd 8 rfl rfl (by kernel_rfl) trivial (rd_lda ag_34 rfl (Rdc.el0 (xs := xs) (enc := keyC) (sz := 2) (SlH.own (E := 34) (c := c) (by repeat constructor)) hy rfl rfl) rfl) ?_
      refine Rg.pu 9 rfl rfl (by kernel_rfl) trivial (pu_eqT (a := x) (b := y) cmp_34 (by decide) Try.eqGuardType34 rfl rfl) ?_
      refine Rg.end (by kernel_rfl) ?_
      refine Gs.then_n ?_
      refine Gs.cond rfl (fun hc2 => ?_) (fun hc2 => ?_)
      · skip
        have heq : x = y := of_decide_eq_true hc2
        have hst : dd (xs.take (i + 1)) = xs.take i := by rw [dd_take_t hi1 hx hy heq, hdi]
        have hsu : suba (some ⟨ab, ao, none⟩) i c 2 = some ⟨ab, ao + i * 2, none⟩ := suba_some (by omega)
        refine Gs.seq ?_
        refine Gs.reg ?_
        refine Go.Sl.L.pu rfl rfl trivial (pu_move rfl) ?_
        refine Go.Sl.L.pu rfl rfl trivial (pu_move rfl) ?_
        refine Go.Sl.L.pu rfl rfl trivial (pu_sliceL et_25 rfl rfl (by omega) (by omega)) ?_
        refine Go.Sl.L.pu rfl rfl trivial (pu_assign rfl) ?_
        refine Go.Sl.L.nil ?_
        rw [show (i : Int).toNat = i from rfl, hsu]
        refine Gs.then_n ?_
        refine Gs.seq ?_
        refine Gs.seq ?_
        refine Gs.reg ?_
        refine Go.Sl.L.pu rfl rfl trivial (pu_assign rfl) ?_
        refine Go.Sl.L.nil ?_
        refine Gs.then_n ?_
        refine Gs.block ?_
        refine Gs.loop1 (fun s : Nat × Nat × List Key => 1 ≤ s.1 ∧ i + s.1 ≤ xs.length ∧ s.2.1 + 1 ≤ i + s.1 ∧ s.2.2.length = xs.length ∧ s.2.2.take s.2.1 = dd (xs.take (i + s.1)) ∧ s.2.2.drop (i + s.1 - 1) = xs.drop (i + s.1 - 1)) (fun s => [(0, .slice (some ⟨ab, ao, none⟩) xs.length c), (3, int s.2.1), (4, .slice (some ⟨ab, ao + i * 2, none⟩) (xs.length - i) (c - i)), (5, int s.1)]) (fun s => [sl 34 2 keyC (some ⟨ab, ao, none⟩) c s.2.2] ++ R) (fun s => xs.length - s.1) (1, i, xs) (⟨Nat.le_refl _, by show i + 1 ≤ xs.length; omega, Nat.le_refl _, rfl, hst.symm, rfl⟩) (by repeat constructor) (by repeat constructor) (fun s hs => ?_)
        obtain ⟨m, w, ys⟩ := s
        obtain ⟨hm1, hm2, hw, hyl, hyt, hyd⟩ := hs
        dsimp only at hm1 hm2 hw hyl hyt hyd ⊢
        refine Gs.seq ?_
        refine Gs.seq ?_
        refine Gs.reg ?_
        refine Go.Sl.L.pu rfl rfl trivial (pu_move rfl) ?_
        refine Go.Sl.L.pu rfl rfl trivial (pu_move rfl) ?_
        refine Go.Sl.L.pu rfl rfl trivial (pu_len Try.underlying25 rfl) ?_
        refine Go.Sl.L.pu rfl rfl trivial (pu_lt rfl rfl) ?_
        refine Go.Sl.L.nil ?_
        refine Gs.then_n ?_
        refine Gs.cond rfl (fun hc3 => ?_) (fun hc3 => ?_)
        · skip
          have hlt3 : i + m < xs.length := by have := of_decide_eq_true hc3; omega
          obtain ⟨u, hu⟩ : ∃ x, xs[i + m]? = some x := ⟨xs[i + m], by simp [hlt3]⟩
          obtain ⟨v, hv⟩ : ∃ x, xs[i + m - 1]? = some x := ⟨xs[i + m - 1]'(by omega), by simp⟩
          have hu2 : (ys.drop i)[m]? = some u := by rw [List.getElem?_drop, drop_at hyd (by omega)]; exact hu
          have hv2 : (ys.drop i)[m - 1]? = some v := by rw [List.getElem?_drop, show i + (m - 1) = i + m - 1 by omega, drop_at hyd (by omega)]; exact hv
          have hcut : ∀ {H : List HProp}, SlH w0 (sl 34 2 keyC (some ⟨ab, ao, none⟩) c ys :: H) 2 keyC (some ⟨ab, ao + i * 2, none⟩) (ys.drop i) := fun {H} => by
            have h := SlH.cutL (SlH.own (H := sl 34 2 keyC (some ⟨ab, ao, none⟩) c ys :: H) (w0 := w0) .hd) i c (by omega)
            rw [hsu] at h; exact h
          refine Gs.skip ?_
          refine Gs.then_n ?_
          refine Gs.seq ?_
          refine Gs.block ?_
          refine Gs.seq ?_
          refine Gs.regD mixed (by kernel_rfl) ?_
          refine Rg.pu 0 rfl rfl (by kernel_rfl) trivial (pu_move rfl) ?_
          refine Rg.pu 1 rfl rfl (by kernel_rfl) trivial (pu_move rfl) ?_
          refine Rg.pu 2 rfl rfl (by kernel_rfl) trivial (pu_ia se_25 rfl rfl (by omega) (by omega)) ?_
          refine Rg.rd 3 rfl rfl (by kernel_rfl) trivial (rd_lda ag_34 rfl (Rdc.el0 (xs := ys.drop i) (enc := keyC) (sz := 2) hcut hu2 rfl rfl) rfl) ?_
          refine Rg.pu 4 rfl rfl (by kernel_rfl) trivial (pu_move rfl) ?_
          refine Rg.pu 5 rfl rfl (by kernel_rfl) trivial (pu_move rfl) ?_
          refine Rg.pu 6 rfl rfl (by kernel_rfl) trivial (pu_subI (z := ((m - 1 : Nat) : Int)) rfl rfl (by omega) (by omega) (by omega)) ?_
          refine Rg.pu 7 rfl rfl (by kernel_rfl) trivial (pu_ia se_25 rfl rfl (by omega) (by omega)) ?_
          refine Rg.rd 8 rfl rfl (by kernel_rfl) trivial (rd_lda ag_34 rfl (Rdc.el0 (xs := ys.drop i) (enc := keyC) (sz := 2) hcut hv2 rfl rfl) rfl) ?_
          refine Rg.pu 9 rfl rfl (by kernel_rfl) trivial (pu_neT (a := u) (b := v) cmp_34 (by decide) Try.eqGuardType34 rfl rfl) ?_
          refine Rg.end (by kernel_rfl) ?_
          refine Gs.then_n ?_
          refine Gs.cond rfl (fun hc4 => ?_) (fun hc4 => ?_)
          · skip
            have hne4 : u ≠ v := by simpa using hc4
            have k1 : (ys.set w u).length = xs.length := by rw [List.length_set]; exact hyl
            have k2 : (ys.set w u).take (w + 1) = dd (xs.take (i + (m + 1))) := by rw [set_take (by omega), hyt, ← Nat.add_assoc, dd_take_f (by omega) hu hv hne4]
            have k3 : (ys.set w u).drop (i + (m + 1) - 1) = xs.drop (i + (m + 1) - 1) := by rw [List.drop_set_of_lt (by omega), show i + (m + 1) - 1 = (i + m - 1) + 1 by omega, ← List.drop_drop, hyd, List.drop_drop]
            refine Gs.seq ?_
            refine Gs.reg ?_
            refine Go.Sl.L.pu rfl rfl trivial (pu_move rfl) ?_
            refine Go.Sl.L.pu rfl rfl trivial (pu_move rfl) ?_
            refine Go.Sl.L.pu rfl rfl trivial (pu_move rfl) ?_
            refine Go.Sl.L.pu rfl rfl trivial (pu_move rfl) ?_
            refine Go.Sl.L.pu rfl rfl trivial (pu_ia se_25 rfl rfl (by omega) (by omega)) ?_
            refine Go.Sl.L.rd rfl rfl trivial (rd_lda ag_34 rfl (Rdc.el0 (xs := ys.drop i) (enc := keyC) (sz := 2) hcut hu2 rfl rfl) rfl) ?_
            refine Go.Sl.L.pu rfl rfl trivial (pu_ia se_25 rfl rfl (by omega) (by omega)) ?_
            refine Go.Sl.L.ac0 rfl trivial (ac_stE (enc := keyC) (xs := ys) (i := w) (x0 := ys[w]'(by omega)) (y0 := u) (vs := keyC u) (fo := 0) sz_34 ek_34 rfl rfl (by repeat constructor) rfl rfl rfl (by simp) rfl rfl) ?_
            rintro _ _ rfl
            refine Go.Sl.L.nil ?_
            refine Gs.then_n ?_
            refine Gs.reg ?_
            refine Go.Sl.L.pu rfl rfl trivial (pu_move rfl) ?_
            refine Go.Sl.L.pu rfl rfl trivial (pu_addI (z := ((w + 1 : Nat) : Int)) rfl rfl (by omega) (by omega) (by omega)) ?_
            refine Go.Sl.L.pu rfl rfl trivial (pu_assign rfl) ?_
            refine Go.Sl.L.nil ?_
            refine Gs.blk_n ?_
            refine Gs.then_n ?_
            refine Gs.reg ?_
            refine Go.Sl.L.pu rfl rfl trivial (pu_move rfl) ?_
            refine Go.Sl.L.pu rfl rfl trivial (by first | exact pu_addI rfl rfl rfl (by omega) (by omega) | exact pu_add rfl rfl) ?_
            refine Go.Sl.L.pu rfl rfl trivial (pu_assign rfl) ?_
            refine Go.Sl.L.nil ?_
            refine Gs.then_n ?_
            first | exact Gs.again1 (m + 1, w + 1, ys.set w u) ⟨by show 1 ≤ m + 1; omega, by show i + (m + 1) ≤ xs.length; omega, by show w + 1 + 1 ≤ i + (m + 1); omega, k1, k2, k3⟩ (by show xs.length - (m + 1) < xs.length - m; omega) (by repeat constructor) (by repeat constructor) | exact Gs.again1 (m + 1, w, ys) ⟨by show 1 ≤ m + 1; omega, by show i + (m + 1) ≤ xs.length; omega, by show w + 1 ≤ i + (m + 1); omega, hyl, k2, k3⟩ (by show xs.length - (m + 1) < xs.length - m; omega) (by repeat constructor) (by repeat constructor)
          · skip
            have hne4 : u = v := by simpa using hc4
            have k2 : ys.take w = dd (xs.take (i + (m + 1))) := by rw [hyt, ← Nat.add_assoc, dd_take_t (by omega) hu hv hne4]
            have k3 : ys.drop (i + (m + 1) - 1) = xs.drop (i + (m + 1) - 1) := by rw [show i + (m + 1) - 1 = (i + m - 1) + 1 by omega, ← List.drop_drop, hyd, List.drop_drop]
            refine Gs.skip ?_
            refine Gs.blk_n ?_
            refine Gs.then_n ?_
            refine Gs.reg ?_
            refine Go.Sl.L.pu rfl rfl trivial (pu_move rfl) ?_
            refine Go.Sl.L.pu rfl rfl trivial (by first | exact pu_addI rfl rfl rfl (by omega) (by omega) | exact pu_add rfl rfl) ?_
            refine Go.Sl.L.pu rfl rfl trivial (pu_assign rfl) ?_
            refine Go.Sl.L.nil ?_
            refine Gs.then_n ?_
            first | exact Gs.again1 (m + 1, w + 1, ys.set w u) ⟨by show 1 ≤ m + 1; omega, by show i + (m + 1) ≤ xs.length; omega, by show w + 1 + 1 ≤ i + (m + 1); omega, k1, k2, k3⟩ (by show xs.length - (m + 1) < xs.length - m; omega) (by repeat constructor) (by repeat constructor) | exact Gs.again1 (m + 1, w, ys) ⟨by show 1 ≤ m + 1; omega, by show i + (m + 1) ≤ xs.length; omega, by show w + 1 ≤ i + (m + 1); omega, hyl, k2, k3⟩ (by show xs.length - (m + 1) < xs.length - m; omega) (by repeat constructor) (by repeat constructor)
        · skip
          have hge3 : i + m = xs.length := by have := of_decide_eq_false hc3; omega
          rw [hge3, List.take_length] at hyt
          have hml : (ys.take w).length = w := by rw [List.length_take]; omega
          have hdl : (ys.drop w).length = xs.length - w := by rw [List.length_drop]; omega
          refine Gs.exit ?_
          refine Gs.then_x ?_
          refine Gs.then_x ?_
          refine Gs.blk_hit ?_
          refine Gs.then_n ?_
          refine Gs.seq ?_
          refine Gs.reg ?_
          refine Go.Sl.L.pu rfl rfl trivial (pu_move rfl) ?_
          refine Go.Sl.L.pu rfl rfl trivial (pu_move rfl) ?_
          refine Go.Sl.L.pu rfl rfl trivial (pu_sliceL et_25 rfl rfl (by omega) (by omega)) ?_
          refine Go.Sl.L.ac0 rfl trivial (ac_clear (enc := keyC) (xs := ys.take w) (zs := ys.drop w) Try.underlying25 zv_34 rfl rfl rfl (by decide) (by rw [hml]; rfl) hdl.symm ek_34 (by rw [List.take_append_drop]; repeat constructor)) ?_
          rintro _ _ rfl
          refine Go.Sl.L.nil ?_
          refine Gs.then_n ?_
          refine Gs.seq ?_
          refine Gs.reg ?_
          refine Go.Sl.L.pu rfl rfl trivial (pu_move rfl) ?_
          refine Go.Sl.L.pu rfl rfl trivial (pu_move rfl) ?_
          refine Go.Sl.L.pu rfl rfl trivial (pu_sliceH et_25 rfl rfl (by omega) (by omega)) ?_
          refine Go.Sl.L.pu rfl rfl trivial (pu_assign rfl) ?_
          refine Go.Sl.L.nil ?_
          rw [show suba (some ⟨ab, ao, none⟩) 0 c 2 = some ⟨ab, ao, none⟩ from suba_0, hyt]
          refine Gs.then_n ?_
          refine Gs.ret ?_
          refine Gs.blk_r ?_
          refine Gs.then_r ?_
          refine Gs.then_r ?_
          refine Gs.blk_r ?_
          refine Gs.then_r ?_
          exact Gs.fin1 Try.results36 rfl _ (⟨by rw [← hyt, hml]; rfl, rfl⟩) (by repeat constructor)
      · skip
        have hne : x ≠ y := of_decide_eq_false hc2
        have hnx : dd (xs.take (i + 1)) = xs.take (i + 1) := by rw [dd_take_f hi1 hx hy hne, hdi, List.take_add_one (i := i), hx]; rfl
        refine Gs.skip ?_
        refine Gs.blk_n ?_
        refine Gs.then_n ?_
        refine Gs.reg ?_
        refine Go.Sl.L.pu rfl rfl trivial (pu_move rfl) ?_
        refine Go.Sl.L.pu rfl rfl trivial (by first | exact pu_addI rfl rfl rfl (by omega) (by omega) | exact pu_add rfl rfl) ?_
        refine Go.Sl.L.pu rfl rfl trivial (pu_assign rfl) ?_
        refine Go.Sl.L.nil ?_
        refine Gs.then_n ?_
        exact Gs.again1 (i + 1) ⟨by omega, by omega, hnx⟩ (by omega) (by repeat constructor) (by repeat constructor)
    · skip
      have hge : i = xs.length := by have := of_decide_eq_false hc1; omega
      rw [hge, List.take_length] at hdi
      refine Gs.exit ?_
      refine Gs.then_x ?_
      refine Gs.then_x ?_
      refine Gs.blk_hit ?_
      refine Gs.then_n ?_
      refine Gs.seq ?_
      refine Gs.reg ?_
      refine Go.Sl.L.pu rfl rfl trivial (pu_move rfl) ?_
      refine Go.Sl.L.pu rfl rfl trivial (pu_assign rfl) ?_
      refine Go.Sl.L.nil ?_
      refine Gs.then_n ?_
      refine Gs.ret ?_
      exact Gs.fin1 Try.results36 rfl _ (⟨by rw [hdi], by rw [hdi]⟩) (by repeat constructor)
end Go.Proofs.Ytonilkceolbkmaa
