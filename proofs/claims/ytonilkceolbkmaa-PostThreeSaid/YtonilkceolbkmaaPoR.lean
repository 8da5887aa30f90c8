/- Walks: slices.Insert at posts, of one. -/
import Derived.Test.YtonilkceolbkmaaPoQ
namespace Go.Sl
theorem ins_grown {α : Type} {xs Z : List α} {x : α} {i : Nat} (hi : i < xs.length) (hz : Z.take i = xs.take i) (hl : Z.length = xs.length + 1) :
    (Z.take i ++ [x] ++ Z.drop (i + [x].length)).take (i + 1) ++ xs.drop i ++ (Z.take i ++ [x] ++ Z.drop (i + [x].length)).drop (i + 1 + (xs.drop i).length) = xs.take i ++ [x] ++ xs.drop i := by
  have h1 : (Z.take i ++ [x]).length = i + 1 := by simp; omega
  have h2 : (Z.take i ++ [x] ++ Z.drop (i + [x].length)).length ≤ i + 1 + (xs.drop i).length := by simp; omega
  rw [List.drop_eq_nil_of_le h2, List.append_nil]
  congr 1
  rw [List.take_append_of_le_length (by omega), List.take_of_length_le (by omega), hz]
theorem ins_room {α : Type} {xs : List α} {x : α} {i : Nat} (hi : i < xs.length) :
    (xs.take (i + 1) ++ xs.drop i ++ xs.drop (i + 1 + (xs.drop i).length)).take i ++ [x] ++ (xs.take (i + 1) ++ xs.drop i ++ xs.drop (i + 1 + (xs.drop i).length)).drop (i + [x].length) = xs.take i ++ [x] ++ xs.drop i := by
  have h0 : xs.drop (i + 1 + (xs.drop i).length) = [] := List.drop_eq_nil_of_le (by simp; omega)
  have h1 : (xs.take (i + 1)).length = i + 1 := by simp; omega
  rw [h0, List.append_nil]
  congr 1
  · congr 1
    rw [List.take_append_of_le_length (by omega), List.take_take]; congr 1; omega
  · show (xs.take (i + 1) ++ xs.drop i).drop (i + 1) = _
    rw [List.drop_append_of_le_length (by omega), List.drop_eq_nil_of_le (by omega), List.nil_append]
end Go.Sl
namespace Go.Proofs.Ytonilkceolbkmaa
open Go Go.Sl Go.Gv Go.Po
set_option maxRecDepth 100000
theorem insert_spec {a : Option Addr} {c vb i : Nat} {xs : List PostV} {x : PostV} (hi : i ≤ xs.length) (hl : xs.length ≤ 100000) :
    Ct Try.prog 48 [.slice a xs.length c, int i, .slice (some ⟨vb, 0, none⟩) 1 1] [sl 37 3 postC a c xs, sl 37 3 postC (some ⟨vb, 0, none⟩) 1 [x]]
      (fun v hs => ∃ a' c', v = .slice a' (xs.take i ++ [x] ++ xs.drop i).length c' ∧ hs = [sl 37 3 postC a' c' (xs.take i ++ [x] ++ xs.drop i)]) := by
  have hlen : (xs.take i ++ [x] ++ xs.drop i).length = xs.length + 1 := by simp; omega
  refine Ct.intro Try.func48 rfl (by kernel_rfl) 95 Try.ntmps48 (Nat.le_of_ble_eq_true rfl) fun w0 R => ?_
  refine Gs.slAddr (xs := xs) (SlH.own (E := 37) (enc := postC) (by repeat constructor)) fun ab ao ha => Gs.slLen (xs := xs) (by repeat constructor) fun hlc => ?_
  refine Gs.seq ?_
  refine Gs.reg ?_
  refine Go.Sl.L.pu rfl rfl trivial (pu_assign rfl) ?_
  refine Go.Sl.L.nil ?_
  refine Gs.then_n ?_
  refine Gs.seq ?_
  refine Gs.reg ?_
  refine Go.Sl.L.pu rfl rfl trivial (pu_move rfl) ?_
  refine Go.Sl.L.pu rfl rfl trivial (pu_move rfl) ?_
  refine Go.Sl.L.pu rfl rfl trivial (pu_sliceL et_30 rfl rfl (by omega) (by omega)) ?_
  refine Go.Sl.L.nil ?_
  refine Gs.then_n ?_
  refine Gs.seq ?_
  refine Gs.reg ?_
  refine Go.Sl.L.pu rfl rfl trivial (pu_move rfl) ?_
  refine Go.Sl.L.pu rfl rfl trivial (pu_len Try.underlying30 rfl) ?_
  refine Go.Sl.L.pu rfl rfl trivial (pu_assign rfl) ?_
  refine Go.Sl.L.nil ?_
  refine Gs.then_n ?_
  refine Gs.seq ?_
  refine Gs.seq ?_
  refine Gs.reg ?_
  refine Go.Sl.L.pu rfl rfl trivial (pu_move rfl) ?_
  refine Go.Sl.L.pu rfl rfl trivial (pu_eq rfl rfl) ?_
  refine Go.Sl.L.nil ?_
  refine Gs.then_n ?_
  refine Gs.cond_ff rfl (by decide) ?_
  refine Gs.skip ?_
  refine Gs.then_n ?_
  refine Gs.seq ?_
  refine Gs.reg ?_
  refine Go.Sl.L.pu rfl rfl trivial (pu_move rfl) ?_
  refine Go.Sl.L.pu rfl rfl trivial (pu_len Try.underlying30 rfl) ?_
  refine Go.Sl.L.pu rfl rfl trivial (pu_assign rfl) ?_
  refine Go.Sl.L.nil ?_
  refine Gs.then_n ?_
  refine Gs.seq ?_
  refine Gs.seq ?_
  refine Gs.reg ?_
  refine Go.Sl.L.pu rfl rfl trivial (pu_move rfl) ?_
  refine Go.Sl.L.pu rfl rfl trivial (pu_move rfl) ?_
  refine Go.Sl.L.pu rfl rfl trivial (pu_eq rfl rfl) ?_
  refine Go.Sl.L.nil ?_
  refine Gs.then_n ?_
  refine Gs.cond rfl (fun hc1 => ?_) (fun hc1 => ?_)
  · skip
    have hie : i = xs.length := by have := of_decide_eq_true hc1; omega
    refine Gs.seq ?_
    refine Gs.reg ?_
    refine Go.Sl.L.pu rfl rfl trivial (pu_move rfl) ?_
    refine Go.Sl.L.pu rfl rfl trivial (pu_move rfl) ?_
    refine Go.Sl.L.ac rfl rfl trivial (ac_append (xs := xs) (ys := [x]) et_30 ek_37 rfl rfl (by repeat constructor) (SrcH.sl (ys := [x]) Try.underlying30 ek_37 (SlH.own (xs := [x]) (E := 37) (c := 1) (by repeat constructor))) (by simp; omega) (by simp; omega)) ?_
    rintro _ _ ⟨a25, c25, rfl, rfl⟩
    refine Go.Sl.L.pu rfl rfl trivial (pu_assign rfl) ?_
    refine Go.Sl.L.nil ?_
    have hfin : xs ++ [x] = xs.take i ++ [x] ++ xs.drop i := by rw [hie]; simp
    rw [hfin]
    refine Gs.then_n ?_
    refine Gs.ret ?_
    refine Gs.then_r ?_
    exact Gs.fin1 Try.results48 rfl _ (⟨a25, c25, rfl, rfl⟩) (by repeat constructor)
  · skip
    have hil : i < xs.length := by have := of_decide_eq_false hc1; omega
    obtain rfl := ha (by rintro rfl; simp at hil)
    refine Gs.skip ?_
    refine Gs.then_n ?_
    refine Gs.seq ?_
    refine Gs.seq ?_
    refine Gs.reg ?_
    refine Go.Sl.L.pu rfl rfl trivial (pu_move rfl) ?_
    refine Go.Sl.L.pu rfl rfl trivial (pu_move rfl) ?_
    refine Go.Sl.L.pu rfl rfl trivial (pu_addI (z := ((xs.length + 1 : Nat) : Int)) rfl rfl (by omega) (by omega) (by omega)) ?_
    refine Go.Sl.L.pu rfl rfl trivial (pu_move rfl) ?_
    refine Go.Sl.L.pu rfl rfl trivial (pu_cap Try.underlying30 rfl) ?_
    refine Go.Sl.L.pu rfl rfl trivial (pu_gt rfl rfl) ?_
    refine Go.Sl.L.nil ?_
    refine Gs.then_n ?_
    refine Gs.cond rfl (fun hc2 => ?_) (fun hc2 => ?_)
    · skip
      have hg : c < xs.length + 1 := by have := of_decide_eq_true hc2; omega
      have htl : (xs.take i).length = i := by rw [List.length_take]; omega
      have hsz : (xs.take i ++ List.replicate (xs.length + 1 - i) PostV.zero).length = xs.length + 1 := by simp; omega
      refine Gs.seq ?_
      refine Gs.reg ?_
      refine Go.Sl.L.pu rfl rfl trivial (pu_move rfl) ?_
      refine Go.Sl.L.pu rfl rfl trivial (pu_move rfl) ?_
      refine Go.Sl.L.pu rfl rfl trivial (pu_sliceH et_30 rfl rfl (by omega) (by omega)) ?_
      rw [suba_zero, show (i : Int).toNat = i from rfl]
      refine Go.Sl.L.pu rfl rfl trivial (pu_move rfl) ?_
      refine Go.Sl.L.pu rfl rfl trivial (pu_move rfl) ?_
      refine Go.Sl.L.pu rfl rfl trivial (pu_addI (z := ((xs.length + 1 : Nat) : Int)) rfl rfl (by omega) (by omega) (by omega)) ?_
      refine Go.Sl.L.pu rfl rfl trivial (pu_move rfl) ?_
      refine Go.Sl.L.pu rfl rfl trivial (pu_subI (z := ((xs.length + 1 - i : Nat) : Int)) rfl rfl (by omega) (by omega) (by omega)) ?_
      refine Go.Sl.L.ac rfl rfl trivial (ac_appendZ (xs := xs.take i) (z0 := PostV.zero) (k := xs.length + 1 - i) (enc := postC) et_30 (.inl zv_37) Try.underlying3 ek_37 rfl htl.symm rfl (SlH.pre (ys := xs.drop i) (by rw [List.take_append_drop]; exact SlH.own (by repeat constructor))) (by omega) (by decide) (by omega) (by omega) (by omega)) ?_
      rintro _ _ ⟨nb, nc, rfl, hnc, rfl⟩
      refine Go.Sl.L.pu rfl rfl trivial (pu_assign rfl) ?_
      refine Go.Sl.L.nil ?_
      refine Gs.then_n ?_
      refine Gs.seq ?_
      refine Gs.reg ?_
      refine Go.Sl.L.pu rfl rfl trivial (pu_move rfl) ?_
      refine Go.Sl.L.pu rfl rfl trivial (pu_move rfl) ?_
      refine Go.Sl.L.pu rfl rfl trivial (pu_sliceL et_30 rfl rfl (by omega) (by omega)) ?_
      rw [show (i : Int).toNat = i from rfl, suba_some (by omega)]
      refine Go.Sl.L.pu rfl rfl trivial (pu_move rfl) ?_
      refine Go.Sl.L.ac rfl rfl trivial (ac_cp (xs := xs.take i ++ List.replicate (xs.length + 1 - i) PostV.zero) (ys := [x]) (p := i) (enc := postC) Try.underlying30 sz_37 ek_37 rfl rfl rfl (by show 1 = min 1 _; omega) (by repeat constructor) (SlH.own (by repeat constructor)) (by omega) (by show i + 1 ≤ nc; omega)) ?_
      rintro _ _ ⟨rfl, rfl⟩
      refine Go.Sl.L.nil ?_
      refine Gs.then_n ?_
      refine Gs.seq ?_
      refine Gs.regD mixed (by kernel_rfl) ?_
      refine Rg.pu 0 rfl rfl (by kernel_rfl) trivial (pu_move rfl) ?_
      refine Rg.pu 1 rfl rfl (by kernel_rfl) trivial (pu_move rfl) ?_
      refine Rg.pu 2 rfl rfl (by kernel_rfl) trivial (pu_move rfl) ?_
      refine Rg.pu 3 rfl rfl (by kernel_rfl) trivial (pu_addI (z := ((i + 1 : Nat) : Int)) rfl rfl (by omega) (by omega) (by omega)) ?_
      refine Rg.pu 4 rfl rfl (by kernel_rfl) trivial (pu_sliceL et_30 rfl rfl (by omega) (by omega)) ?_
      rw [show ((i + 1 : Nat) : Int).toNat = i + 1 from rfl, suba_some (by omega)]
      refine Rg.pu 5 rfl rfl (by kernel_rfl) trivial (pu_move rfl) ?_
      refine Rg.pu 6 rfl rfl (by kernel_rfl) trivial (pu_move rfl) ?_
      refine Rg.pu 7 rfl rfl (by kernel_rfl) trivial (pu_sliceL et_30 rfl rfl (by omega) (by omega)) ?_
      rw [show (i : Int).toNat = i from rfl, suba_some (by omega)]
      refine Rg.one (by kernel_rfl) (Stp.ac 8 rfl rfl (by kernel_rfl) trivial (ac_cp (xs := (xs.take i ++ List.replicate (xs.length + 1 - i) PostV.zero).take i ++ [x] ++ (xs.take i ++ List.replicate (xs.length + 1 - i) PostV.zero).drop (i + [x].length)) (ys := xs.drop i) (p := i + 1) (enc := postC) Try.underlying30 sz_37 ek_37 rfl rfl rfl (by rw [List.length_drop]; show _ = min _ _; omega) (by repeat constructor) (SlH.cutS (SlH.own (xs := xs) (E := 37) (c := c) (by repeat constructor)) i c (by omega) (by omega)) (by simp; omega) (by rw [List.length_drop]; omega))  ?_)
      rintro _ _ ⟨rfl, rfl⟩
      refine Rg.end (by kernel_rfl) ?_
      refine Gs.then_n ?_
      refine Gs.seq ?_
      rw [ins_grown hil (by rw [List.take_append_of_le_length (by omega), List.take_take, Nat.min_self]) hsz]
      refine Gs.reg ?_
      refine Go.Sl.L.pu rfl rfl trivial (pu_move rfl) ?_
      refine Go.Sl.L.pu rfl rfl trivial (pu_assign rfl) ?_
      refine Go.Sl.L.nil ?_
      refine Gs.then_n ?_
      refine Gs.ret ?_
      refine Gs.then_r ?_
      exact Gs.fin1 Try.results48 rfl _ (⟨some ⟨nb, 0, none⟩, nc, by rw [hlen]; congr 1; omega, rfl⟩) (by repeat constructor)
    · skip
      have hg : xs.length + 1 ≤ c := by have := of_decide_eq_false hc2; omega
      refine Gs.skip ?_
      refine Gs.then_n ?_
      refine Gs.seq ?_
      refine Gs.reg ?_
      refine Go.Sl.L.pu rfl rfl trivial (pu_move rfl) ?_
      refine Go.Sl.L.pu rfl rfl trivial (pu_move rfl) ?_
      refine Go.Sl.L.pu rfl rfl trivial (pu_move rfl) ?_
      refine Go.Sl.L.pu rfl rfl trivial (pu_addI (z := ((xs.length + 1 : Nat) : Int)) rfl rfl (by omega) (by omega) (by omega)) ?_
      refine Go.Sl.L.pu rfl rfl trivial (pu_sliceH et_30 rfl rfl (by omega) (by omega)) ?_
      rw [suba_zero, show ((xs.length + 1 : Nat) : Int).toNat = xs.length + 1 from rfl]
      refine Go.Sl.L.pu rfl rfl trivial (pu_assign rfl) ?_
      refine Go.Sl.L.nil ?_
      refine Gs.then_n ?_
      refine Gs.seq ?_
      refine Gs.seq ?_
      refine Gs.reg ?_
      refine Go.Sl.L.pu rfl rfl trivial (pu_move rfl) ?_
      refine Go.Sl.L.pu rfl rfl trivial (pu_move rfl) ?_
      refine Go.Sl.L.pu rfl rfl trivial (pu_move rfl) ?_
      refine Go.Sl.L.pu rfl rfl trivial (pu_move rfl) ?_
      refine Go.Sl.L.pu rfl rfl trivial (pu_addI (z := ((i + 1 : Nat) : Int)) rfl rfl (by omega) (by omega) (by omega)) ?_
      refine Go.Sl.L.pu rfl rfl trivial (pu_sliceL et_30 rfl rfl (by omega) (by omega)) ?_
      rw [show ((i + 1 : Nat) : Int).toNat = i + 1 from rfl, suba_some (by omega)]
      refine Go.Sl.L.rd rfl rfl trivial (rd_overlaps (R := 4) (xs := [x]) (ys := xs) Try.func62 (by kernel_rfl) (by kernel_rfl) (by kernel_rfl) (by kernel_rfl) Try.underlying30 sz_37 rfl rfl (by repeat constructor) (by repeat constructor) (by omega)) ?_
      refine Go.Sl.L.pu rfl rfl trivial (pu_not rfl) ?_
      refine Go.Sl.L.nil ?_
      refine Gs.then_n ?_
      refine Gs.cond_tt rfl rfl ?_
      refine Gs.seq ?_
      refine Gs.regD mixed (by kernel_rfl) ?_
      refine Rg.pu 0 rfl rfl (by kernel_rfl) trivial (pu_move rfl) ?_
      refine Rg.pu 1 rfl rfl (by kernel_rfl) trivial (pu_move rfl) ?_
      refine Rg.pu 2 rfl rfl (by kernel_rfl) trivial (pu_move rfl) ?_
      refine Rg.pu 3 rfl rfl (by kernel_rfl) trivial (pu_addI (z := ((i + 1 : Nat) : Int)) rfl rfl (by omega) (by omega) (by omega)) ?_
      refine Rg.pu 4 rfl rfl (by kernel_rfl) trivial (pu_sliceL et_30 rfl rfl (by omega) (by omega)) ?_
      rw [show ((i + 1 : Nat) : Int).toNat = i + 1 from rfl, suba_some (by omega)]
      refine Rg.pu 5 rfl rfl (by kernel_rfl) trivial (pu_move rfl) ?_
      refine Rg.pu 6 rfl rfl (by kernel_rfl) trivial (pu_move rfl) ?_
      refine Rg.pu 7 rfl rfl (by kernel_rfl) trivial (pu_sliceL et_30 rfl rfl (by omega) (by omega)) ?_
      rw [show (i : Int).toNat = i from rfl, suba_some (by omega)]
      refine Rg.one (by kernel_rfl) (Stp.ac 8 rfl rfl (by kernel_rfl) trivial (ac_cp (xs := xs) (ys := xs.drop i) (p := i + 1) (enc := postC) Try.underlying30 sz_37 ek_37 rfl rfl rfl (by rw [List.length_drop]; show _ = min _ _; omega) (by repeat constructor) (SlH.cutS (SlH.own (xs := xs) (E := 37) (c := c) (by repeat constructor)) i c (by omega) (by omega)) (by omega) (by rw [List.length_drop]; omega))  ?_)
      rintro _ _ ⟨rfl, rfl⟩
      refine Rg.end (by kernel_rfl) ?_
      refine Gs.then_n ?_
      refine Gs.seq ?_
      refine Gs.reg ?_
      refine Go.Sl.L.pu rfl rfl trivial (pu_move rfl) ?_
      refine Go.Sl.L.pu rfl rfl trivial (pu_move rfl) ?_
      refine Go.Sl.L.pu rfl rfl trivial (pu_sliceL et_30 rfl rfl (by omega) (by omega)) ?_
      rw [show (i : Int).toNat = i from rfl, suba_some (by omega)]
      refine Go.Sl.L.pu rfl rfl trivial (pu_move rfl) ?_
      refine Go.Sl.L.ac rfl rfl trivial (ac_cp (xs := xs.take (i + 1) ++ xs.drop i ++ xs.drop (i + 1 + (xs.drop i).length)) (ys := [x]) (p := i) (enc := postC) Try.underlying30 sz_37 ek_37 rfl rfl rfl (by show 1 = min 1 _; omega) (by repeat constructor) (SlH.own (by repeat constructor)) (by simp; omega) (by show i + 1 ≤ c; omega)) ?_
      rintro _ _ ⟨rfl, rfl⟩
      refine Go.Sl.L.nil ?_
      refine Gs.then_n ?_
      refine Gs.seq ?_
      rw [ins_room hil]
      refine Gs.reg ?_
      refine Go.Sl.L.pu rfl rfl trivial (pu_move rfl) ?_
      refine Go.Sl.L.pu rfl rfl trivial (pu_assign rfl) ?_
      refine Go.Sl.L.nil ?_
      refine Gs.then_n ?_
      refine Gs.ret ?_
      refine Gs.then_r ?_
      exact Gs.fin1 Try.results48 rfl _ (⟨some ⟨ab, ao, none⟩, c, by rw [hlen], rfl⟩) (by repeat constructor)
end Go.Proofs.Ytonilkceolbkmaa
