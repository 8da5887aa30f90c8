/- Walks: slices.Grow, Concat of bytes; ledger.note. -/
import Derived.Test.YtjaafkakeccniaaGreatDoorLga
namespace Go.Sl
open Go
/-- The same cells, other names. -/
theorem sl_enc {α : Type} {E sz : Nat} {enc : α → List Value} {a : Option Addr} {c : Nat} {xs ys : List α} (h : xs.map enc = ys.map enc) : ∀ hh, sl E sz enc a c xs hh → sl E sz enc a c ys hh := fun hh x => by
  have hl : xs.length = ys.length := by have := congrArg List.length h; simpa using this
  rcases x with ⟨rfl, rfl, rfl⟩ | ⟨b, off, cells, rfl, hp, h1, h2, h3⟩
  · exact .inl ⟨rfl, List.length_eq_zero_iff.1 hl.symm, rfl⟩
  · refine .inr ⟨b, off, cells, rfl, hp, by omega, h2, fun i y hi j v hj => ?_⟩
    have hx : (ys.map enc)[i]? = some (enc y) := by rw [List.getElem?_map, hi]; rfl
    rw [← h, List.getElem?_map] at hx
    obtain ⟨x, hx1, hx2⟩ := Option.map_eq_some_iff.1 hx
    exact h3 i x hx1 j v (by rw [hx2]; exact hj)
theorem Gs.slPre {α : Type} {w0 : World} {n : Nat} {env : Env} {H H' : List HProp} {X : Act → World → Prop} {E sz : Nat} {enc : α → List Value} {a : Option Addr} {c : Nat} {xs ys : List α} (t : Take (sl E sz enc a c (xs ++ ys)) H H') (g : Gs w0 n env (sl E sz enc a c xs :: H') X) : Gs w0 n env H X :=
  fun ac w e s => g ac w e ((s.take t).ent sl_pre)
theorem Gs.slEnc {α : Type} {w0 : World} {n : Nat} {env : Env} {H H' : List HProp} {X : Act → World → Prop} {E sz : Nat} {enc : α → List Value} {a : Option Addr} {c : Nat} {xs ys : List α} (h : xs.map enc = ys.map enc) (t : Take (sl E sz enc a c xs) H H') (g : Gs w0 n env (sl E sz enc a c ys :: H') X) : Gs w0 n env H X :=
  fun ac w e s => g ac w e ((s.take t).ent (sl_enc h))
end Go.Sl
namespace Go.Proofs.YtjaafkakeccniaaGreatDoor
open Go Go.Sl Go.Gv Go.Dv
set_option maxRecDepth 100000
theorem growB_spec {k : Nat} (h0 : 0 < k) (hk : k ≤ 1000000) : Ct Tryz.prog 69 [.slice none 0 0, int k] [] (fun v hs => ∃ b c, v = .slice (some ⟨b, 0, none⟩) 0 c ∧ hs = [sl 5 1 byteC (some ⟨b, 0, none⟩) c []]) := by
  refine Ct.intro Tryz.func69 rfl (by kernel_rfl) 27 Tryz.ntmps69 (Nat.le_of_ble_eq_true rfl) fun w0 R => ?_
  refine Gs.seq ?_
  refine Gs.reg ?_
  refine Go.Sl.L.pu rfl rfl trivial (pu_assign rfl) ?_
  refine Go.Sl.L.nil ?_
  refine Gs.then_n ?_
  refine Gs.seq ?_
  refine Gs.seq ?_
  refine Gs.reg ?_
  refine Go.Sl.L.pu rfl rfl trivial (pu_move rfl) ?_
  refine Go.Sl.L.pu rfl rfl trivial (pu_lt rfl rfl) ?_
  refine Go.Sl.L.nil ?_
  refine Gs.then_n ?_
  refine Gs.cond_ff rfl (decide_eq_false (by omega)) ?_
  refine Gs.skip ?_
  refine Gs.then_n ?_
  refine Gs.seq ?_
  refine Gs.seq ?_
  refine Gs.reg ?_
  refine Go.Sl.L.pu rfl rfl trivial (pu_move rfl) ?_
  refine Go.Sl.L.pu rfl rfl trivial (pu_move rfl) ?_
  refine Go.Sl.L.pu rfl rfl trivial (pu_cap Tryz.underlying75 rfl) ?_
  refine Go.Sl.L.pu rfl rfl trivial (pu_move rfl) ?_
  refine Go.Sl.L.pu rfl rfl trivial (pu_len Tryz.underlying75 rfl) ?_
  refine Go.Sl.L.pu rfl rfl trivial (pu_subI (z := 0) rfl rfl rfl (by decide) (by decide)) ?_
  refine Go.Sl.L.pu rfl rfl trivial (pu_subI (z := (k : Int)) rfl rfl (by omega) (by omega) (by omega)) ?_
  refine Go.Sl.L.pu rfl rfl trivial (pu_assign rfl) ?_
  refine Go.Sl.L.nil ?_
  refine Gs.then_n ?_
  refine Gs.seq ?_
  refine Gs.reg ?_
  refine Go.Sl.L.pu rfl rfl trivial (pu_move rfl) ?_
  refine Go.Sl.L.pu rfl rfl trivial (pu_gt rfl rfl) ?_
  refine Go.Sl.L.nil ?_
  refine Gs.then_n ?_
  refine Gs.cond_tt rfl (decide_eq_true (by omega)) ?_
  refine Gs.reg ?_
  refine Go.Sl.L.pu rfl rfl trivial (pu_move rfl) ?_
  refine Go.Sl.L.pu rfl rfl trivial (pu_move rfl) ?_
  refine Go.Sl.L.pu rfl rfl trivial (pu_cap Tryz.underlying75 rfl) ?_
  refine Go.Sl.L.pu rfl rfl trivial (pu_sliceH et_75 rfl rfl (by decide) (by decide)) ?_
  refine Go.Sl.L.pu rfl rfl trivial (pu_move rfl) ?_
  refine Go.Sl.L.ac rfl rfl trivial (ac_appendZ (a := none) (c := 0) (l := 0) (xs := []) (z0 := (0 : UInt8)) (k := k) (enc := byteC) et_75 (.inr ⟨.int .u8 0, rfl, zv_5, rfl⟩) Tryz.underlying3 ek_5 rfl rfl rfl (fun _ _ h => (h rfl).elim) h0 (by decide) (by simp; omega) (by simp; omega) (by simp; omega)) ?_
  rintro _ _ ⟨nb, nc, rfl, hnc, rfl⟩
  refine Go.Sl.L.pu rfl rfl trivial (pu_move rfl) ?_
  refine Go.Sl.L.pu rfl rfl trivial (pu_len Tryz.underlying75 rfl) ?_
  refine Go.Sl.L.pu rfl rfl trivial (pu_sliceH et_75 rfl rfl (by decide) (by omega)) ?_
  rw [suba_zero]
  refine Go.Sl.L.pu rfl rfl trivial (pu_assign rfl) ?_
  refine Go.Sl.L.nil ?_
  refine Gs.then_n ?_
  refine Gs.seq ?_
  refine Gs.reg ?_
  refine Go.Sl.L.pu rfl rfl trivial (pu_move rfl) ?_
  refine Go.Sl.L.pu rfl rfl trivial (pu_assign rfl) ?_
  refine Go.Sl.L.nil ?_
  refine Gs.then_n ?_
  refine Gs.ret ?_
  refine Gs.slPre (E := 5) (sz := 1) (enc := byteC) (a := some ⟨nb, 0, none⟩) (c := nc) (xs := ([] : List UInt8)) (ys := List.replicate k (0 : UInt8)) (by repeat constructor) ?_
  exact Gs.fin1 Tryz.results69 rfl _ (⟨nb, nc, rfl, rfl⟩) (by repeat constructor)
theorem concat_spec {U S : HProp} {a : Option Addr} {c : Nat} {ps : List (SlV UInt8)} (hU : Srd U 1 slC a ps) (hS : ∀ p ∈ ps, Srd S 1 byteC p.a p.xs) (hl : ps.length ≤ 1000) (hb : (flat ps).length ≤ 100000) (h0 : 0 < (flat ps).length) :
    Ct Tryz.prog 44 [.slice a ps.length c] [U, S] (fun v hs => ∃ a' c', v = .slice a' (flat ps).length c' ∧ hs = [U, S, sl 5 1 byteC a' c' (flat ps)]) := by
  have hle : ∀ i, (flat (ps.take i)).length ≤ (flat ps).length := fun i => by
    conv => rhs; rw [← List.take_append_drop i ps]
    unfold flat; rw [List.flatMap_append, List.length_append]; omega
  refine Ct.intro Tryz.func44 rfl (by kernel_rfl) 36 Tryz.ntmps44 (Nat.le_of_ble_eq_true rfl) fun w0 R => ?_
  refine Gs.slAddr (hU.h (by repeat constructor)) fun ab ao ha => ?_
  refine Gs.seq ?_
  refine Gs.reg ?_
  refine Go.Sl.L.pu rfl rfl trivial (pu_assign rfl) ?_
  refine Go.Sl.L.nil ?_
  refine Gs.then_n ?_
  refine Gs.seq ?_
  refine Gs.reg ?_
  refine Go.Sl.L.pu rfl rfl trivial (pu_assign rfl) ?_
  refine Go.Sl.L.nil ?_
  refine Gs.then_n ?_
  refine Gs.seq ?_
  refine Gs.seq ?_
  refine Gs.reg ?_
  refine Go.Sl.L.pu rfl rfl trivial (pu_move rfl) ?_
  refine Go.Sl.L.pu rfl rfl trivial (pu_len Tryz.underlying115 rfl) ?_
  refine Go.Sl.L.pu rfl rfl trivial (pu_move rfl) ?_
  refine Go.Sl.L.nil ?_
  refine Gs.then_n ?_
  refine Gs.block ?_
  refine Gs.loop1 (fun i : Nat => i ≤ ps.length) (fun i => [(0, .slice a ps.length c), (3, int ((flat (ps.take i)).length : Nat)), (9, .slice a ps.length c), (10, int ps.length), (11, int i)]) (fun i => [U, S] ++ R) (fun i => ps.length - i) 0 (Nat.zero_le _) (by repeat constructor) (by repeat constructor) (fun i hi => ?_)
  refine Gs.seq ?_
  refine Gs.reg ?_
  refine Go.Sl.L.pu rfl rfl trivial (pu_lt rfl rfl) ?_
  refine Go.Sl.L.nil ?_
  refine Gs.then_n ?_
  refine Gs.seq ?_
  refine Gs.cond rfl (fun hc0 => ?_) (fun hc0 => ?_)
  · skip
    have hlt : i < ps.length := by have := of_decide_eq_true hc0; omega
    obtain ⟨x, hx⟩ : ∃ x, ps[i]? = some x := ⟨ps[i], by simp [hlt]⟩
    obtain rfl := ha (by rintro rfl; simp at hlt)
    have hst : (flat (ps.take (i + 1))).length = (flat (ps.take i)).length + x.xs.length := by rw [flat_take hx, List.length_append]
    have h1 := hle (i + 1)
    refine Gs.skip ?_
    refine Gs.then_n ?_
    refine Gs.seq ?_
    refine Gs.block ?_
    refine Gs.seq ?_
    refine Gs.reg ?_
    refine Go.Sl.L.pu rfl rfl trivial (pu_ia se_115 rfl rfl (by omega) (by omega)) ?_
    refine Go.Sl.L.rd rfl rfl trivial (rd_ld na_75 rfl (Rdc.el0 (hU.h (by repeat constructor)) hx rfl rfl)) ?_
    refine Go.Sl.L.pu rfl rfl trivial (pu_assign rfl) ?_
    refine Go.Sl.L.nil ?_
    refine Gs.then_n ?_
    refine Gs.seq ?_
    refine Gs.reg ?_
    refine Go.Sl.L.pu rfl rfl trivial (pu_move rfl) ?_
    refine Go.Sl.L.pu rfl rfl trivial (pu_move rfl) ?_
    refine Go.Sl.L.pu rfl rfl trivial (pu_len Tryz.underlying75 rfl) ?_
    refine Go.Sl.L.pu rfl rfl trivial (pu_addI (z := ((flat (ps.take (i + 1))).length : Nat)) rfl rfl (by rw [hst]; omega) (by omega) (by omega)) ?_
    refine Go.Sl.L.pu rfl rfl trivial (pu_assign rfl) ?_
    refine Go.Sl.L.nil ?_
    refine Gs.then_n ?_
    refine Gs.seq ?_
    refine Gs.reg ?_
    refine Go.Sl.L.pu rfl rfl trivial (pu_move rfl) ?_
    refine Go.Sl.L.pu rfl rfl trivial (pu_lt rfl rfl) ?_
    refine Go.Sl.L.nil ?_
    refine Gs.then_n ?_
    refine Gs.cond_ff rfl (decide_eq_false (by omega)) ?_
    refine Gs.skip ?_
    refine Gs.blk_n ?_
    refine Gs.then_n ?_
    refine Gs.reg ?_
    refine Go.Sl.L.pu rfl rfl trivial (by first | exact pu_addI rfl rfl rfl (by omega) (by omega) | exact pu_add rfl rfl) ?_
    refine Go.Sl.L.pu rfl rfl trivial (pu_move rfl) ?_
    refine Go.Sl.L.nil ?_
    refine Gs.then_n ?_
    exact Gs.again1 (i + 1) (by omega) (by omega) (by repeat constructor) (by repeat constructor)
  · skip
    have hge : i = ps.length := by have := of_decide_eq_false hc0; omega
    rw [hge, List.take_length]
    refine Gs.exit ?_
    refine Gs.then_x ?_
    refine Gs.then_x ?_
    refine Gs.blk_hit ?_
    refine Gs.then_n ?_
    refine Gs.seq ?_
    refine Gs.reg ?_
    refine Go.Sl.L.pu rfl rfl trivial (pu_move rfl) ?_
    refine Go.Sl.L.ac rfl rfl trivial (as_call (growB_spec h0 (by omega)) (by repeat constructor) (by repeat constructor)) ?_
    rintro _ _ ⟨_, ⟨gb, gc, rfl, rfl⟩, rfl⟩
    refine Go.Sl.L.pu rfl rfl trivial (pu_assign rfl) ?_
    refine Go.Sl.L.nil ?_
    refine Gs.then_n ?_
    refine Gs.seq ?_
    refine Gs.seq ?_
    refine Gs.reg ?_
    refine Go.Sl.L.pu rfl rfl trivial (pu_move rfl) ?_
    refine Go.Sl.L.pu rfl rfl trivial (pu_len Tryz.underlying115 rfl) ?_
    refine Go.Sl.L.pu rfl rfl trivial (pu_move rfl) ?_
    refine Go.Sl.L.nil ?_
    refine Gs.then_n ?_
    refine Gs.block ?_
    refine Gs.loop1 (fun s : Nat × Option Addr × Nat => s.1 ≤ ps.length) (fun s => [(6, .slice s.2.1 (flat (ps.take s.1)).length s.2.2), (25, .slice a ps.length c), (26, int ps.length), (27, int s.1)]) (fun s => [U, S, sl 5 1 byteC s.2.1 s.2.2 (flat (ps.take s.1))] ++ R) (fun s => ps.length - s.1) (0, some ⟨gb, 0, none⟩, gc) (Nat.zero_le _) (by repeat constructor) (by repeat constructor) (fun s hs => ?_)
    obtain ⟨j, ca, cc⟩ := s
    dsimp only at hs ⊢
    refine Gs.seq ?_
    refine Gs.reg ?_
    refine Go.Sl.L.pu rfl rfl trivial (pu_lt rfl rfl) ?_
    refine Go.Sl.L.nil ?_
    refine Gs.then_n ?_
    refine Gs.seq ?_
    refine Gs.cond rfl (fun hc2 => ?_) (fun hc2 => ?_)
    · skip
      have hlt : j < ps.length := by have := of_decide_eq_true hc2; omega
      obtain ⟨x, hx⟩ : ∃ x, ps[j]? = some x := ⟨ps[j], by simp [hlt]⟩
      obtain rfl := ha (by rintro rfl; simp at hlt)
      have hst : flat (ps.take (j + 1)) = flat (ps.take j) ++ x.xs := flat_take hx
      have h1 := hle (j + 1)
      rw [hst, List.length_append] at h1
      refine Gs.skip ?_
      refine Gs.then_n ?_
      refine Gs.seq ?_
      refine Gs.block ?_
      refine Gs.seq ?_
      refine Gs.reg ?_
      refine Go.Sl.L.pu rfl rfl trivial (pu_ia se_115 rfl rfl (by omega) (by omega)) ?_
      refine Go.Sl.L.rd rfl rfl trivial (rd_ld na_75 rfl (Rdc.el0 (hU.h (by repeat constructor)) hx rfl rfl)) ?_
      refine Go.Sl.L.pu rfl rfl trivial (pu_assign rfl) ?_
      refine Go.Sl.L.nil ?_
      refine Gs.then_n ?_
      refine Gs.reg ?_
      refine Go.Sl.L.pu rfl rfl trivial (pu_move rfl) ?_
      refine Go.Sl.L.pu rfl rfl trivial (pu_move rfl) ?_
      refine Go.Sl.L.ac rfl rfl trivial (ac_append et_75 ek_5 rfl rfl (by repeat constructor) (SrcH.sl Tryz.underlying75 ek_5 ((hS x (List.mem_of_getElem? hx)).h (by repeat constructor))) (by first | omega | (simp; omega)) (by first | omega | (simp; omega))) ?_
      rintro _ _ ⟨a33, c33, rfl, rfl⟩
      rw [← hst]
      refine Go.Sl.L.pu rfl rfl trivial (pu_assign rfl) ?_
      refine Go.Sl.L.nil ?_
      refine Gs.blk_n ?_
      refine Gs.then_n ?_
      refine Gs.reg ?_
      refine Go.Sl.L.pu rfl rfl trivial (by first | exact pu_addI rfl rfl rfl (by omega) (by omega) | exact pu_add rfl rfl) ?_
      refine Go.Sl.L.pu rfl rfl trivial (pu_move rfl) ?_
      refine Go.Sl.L.nil ?_
      refine Gs.then_n ?_
      exact Gs.again1 (j + 1, a33, c33) (by show j + 1 ≤ ps.length; omega) (by show ps.length - (j + 1) < ps.length - j; omega) (by repeat constructor) (by repeat constructor)
    · skip
      have hge : j = ps.length := by have := of_decide_eq_false hc2; omega
      rw [hge, List.take_length]
      refine Gs.exit ?_
      refine Gs.then_x ?_
      refine Gs.then_x ?_
      refine Gs.blk_hit ?_
      refine Gs.then_n ?_
      refine Gs.seq ?_
      refine Gs.reg ?_
      refine Go.Sl.L.pu rfl rfl trivial (pu_move rfl) ?_
      refine Go.Sl.L.pu rfl rfl trivial (pu_assign rfl) ?_
      refine Go.Sl.L.nil ?_
      refine Gs.then_n ?_
      refine Gs.ret ?_
      exact Gs.fin1 Tryz.results44 rfl _ (⟨ca, cc, rfl, rfl⟩) (by repeat constructor)
theorem split_last {α β : Type} {f : α → β} {P : List α} {U : List β} {p : β} (h : P.map f = U ++ [p]) : ∃ V x, P = V ++ [x] ∧ V.map f = U ∧ f x = p := by
  obtain ⟨V, W, h1, h2, h3⟩ := List.map_eq_append_iff.1 h
  obtain ⟨x, W', h4, h5, h6⟩ := List.map_eq_cons_iff.1 h3
  have : W' = [] := List.map_eq_nil_iff.1 h6
  subst this
  exact ⟨V, x, by rw [h1, h4], h2, h5⟩
theorem set_last {α : Type} (V : List α) (x y : α) : (V ++ [x]).set V.length y = V ++ [y] := by simp
theorem note_spec {b d : Nat} {n : Int} {made : Nat} {U : List Pa} {p : Pa} {e : EntV} {z : Nat} (hz : p.z + z ≤ 10000000) (hU : U.length ≤ 1000) (ho : e.kind = 2 → 0 ≤ e.r.o ∧ e.r.o < (p.t.length : Int)) :
    Ct Tryz.prog 42 [ptr b, entV e, int (z : Nat)] [lgr b d n ⟨made, U ++ [p]⟩] (fun v hs => v = .tuple #[] ∧ hs = [lgr b d n ⟨made, U ++ [noteP p e.p z]⟩]) := by
  obtain ⟨ek, ev, ew, eo, eq, ewl, ec, et⟩ := e
  dsimp only at ho
  refine Ct.intro Tryz.func42 rfl (by kernel_rfl) 53 Tryz.ntmps42 (Nat.le_of_ble_eq_true rfl) fun w0 R => ?_
  refine Gs.lgOpen (by repeat constructor) fun a c P hP => ?_
  obtain ⟨V, ⟨xp, xa, xc⟩, rfl, hV, hx⟩ := split_last hP
  obtain rfl : xp = p := hx
  have hVl : V.length = U.length := by rw [← hV, List.length_map]
  have hPx : (V ++ [(⟨xp, xa, xc⟩ : PaV)])[V.length]? = some ⟨xp, xa, xc⟩ := by simp
  have hPl : ((V ++ [(⟨xp, xa, xc⟩ : PaV)]).length : Int) - 1 = ((V.length : Nat) : Int) := by rw [List.length_append, List.length_cons, List.length_nil]; omega
  refine Gs.slAddr (xs := V ++ [(⟨xp, xa, xc⟩ : PaV)]) (SlH.own (E := 83) (enc := paC) (by repeat constructor)) fun pb po hpa => ?_
  obtain rfl := hpa (by simp)
  refine Gs.seq ?_
  refine Gs.reg ?_
  refine Go.Sl.L.ac rfl rfl trivial (ac_box rfl rfl) ?_
  rintro _ _ ⟨b4, rfl, rfl⟩
  refine Go.Sl.L.nil ?_
  refine Gs.then_n ?_
  refine Gs.seq ?_
  refine Gs.regD mixed (by kernel_rfl) ?_
  refine Rg.pu 0 rfl rfl (by kernel_rfl) trivial (pu_move rfl) ?_
  refine Rg.pu 1 rfl rfl (by kernel_rfl) trivial (by first | exact pu_nil rfl | exact pu_nilF rfl) ?_
  refine Rg.pu 2 rfl rfl (by kernel_rfl) trivial (pu_fa fa_65_3 rfl) ?_
  refine Rg.rd 3 rfl rfl (by kernel_rfl) trivial (rd_ld na_63 rfl (Rdc.cl1 (by repeat constructor) rfl)) ?_
  refine Rg.pu 4 rfl rfl (by kernel_rfl) trivial (pu_move rfl) ?_
  refine Rg.pu 5 rfl rfl (by kernel_rfl) trivial (by first | exact pu_nil rfl | exact pu_nilF rfl) ?_
  refine Rg.pu 6 rfl rfl (by kernel_rfl) trivial (pu_fa fa_65_3 rfl) ?_
  refine Rg.rd 7 rfl rfl (by kernel_rfl) trivial (rd_ld na_63 rfl (Rdc.cl1 (by repeat constructor) rfl)) ?_
  refine Rg.pu 8 rfl rfl (by kernel_rfl) trivial (pu_len Tryz.underlying63 rfl) ?_
  refine Rg.pu 9 rfl rfl (by kernel_rfl) trivial (pu_subI (z := ((V.length : Nat) : Int)) rfl rfl hPl.symm (by omega) (by omega)) ?_
  refine Rg.pu 10 rfl rfl (by kernel_rfl) trivial (pu_ia se_63 rfl rfl (by omega) (by rw [List.length_append, List.length_cons, List.length_nil]; omega)) ?_
  refine Rg.pu 11 rfl rfl (by kernel_rfl) trivial (pu_assign rfl) ?_
  refine Rg.end (by kernel_rfl) ?_
  refine Gs.then_n ?_
  refine Gs.seq ?_
  refine Gs.reg ?_
  refine Go.Sl.L.pu rfl rfl trivial (pu_move rfl) ?_
  refine Go.Sl.L.pu rfl rfl trivial (by first | exact pu_nil rfl | exact pu_nilF rfl) ?_
  refine Go.Sl.L.pu rfl rfl trivial (pu_fa fa_83_1 rfl) ?_
  refine Go.Sl.L.rd rfl rfl trivial (rd_ld na_3 rfl (Rdc.elp 1 (SlH.own (xs := V ++ [(⟨xp, xa, xc⟩ : PaV)]) (E := 83) (enc := paC) (sz := 3) (by repeat constructor)) hPx rfl rfl)) ?_
  refine Go.Sl.L.pu rfl rfl trivial (pu_move rfl) ?_
  refine Go.Sl.L.pu rfl rfl trivial (pu_addI (i := ((xp.z : Nat) : Int)) (j := ((z : Nat) : Int)) (z := ((xp.z + z : Nat) : Int)) rfl rfl (by omega) (by omega) (by omega)) ?_
  refine Go.Sl.L.pu rfl rfl trivial (by first | exact pu_nil rfl | exact pu_nilF rfl) ?_
  refine Go.Sl.L.pu rfl rfl trivial (pu_fa fa_83_1 rfl) ?_
  refine Go.Sl.L.ac0 rfl trivial (ac_stE (enc := paC) (xs := V ++ [(⟨xp, xa, xc⟩ : PaV)]) (i := V.length) (x0 := ⟨xp, xa, xc⟩) (y0 := ⟨⟨xp.n, xp.z + z, xp.t⟩, xa, xc⟩) (vs := [int ((xp.z + z : Nat) : Int)]) (fo := 1) sz_3 ek_83 rfl rfl (by repeat constructor) rfl rfl rfl hPx rfl rfl) ?_
  rintro _ _ rfl
  refine Go.Sl.L.nil ?_
  rw [set_last]
  refine Gs.then_n ?_
  refine Gs.seq ?_
  refine Gs.reg ?_
  refine Go.Sl.L.pu rfl rfl trivial (pu_fa fa_43_0 rfl) ?_
  refine Go.Sl.L.rd rfl rfl trivial (rd_ld na_3 rfl (Rdc.cl1 (by repeat constructor) rfl)) ?_
  refine Go.Sl.L.pu rfl rfl trivial (pu_eq rfl rfl) ?_
  refine Go.Sl.L.nil ?_
  refine Gs.then_n ?_
  refine Gs.cond rfl (fun hc0 => ?_) (fun hc0 => ?_)
  · skip
    have hk : ek = 2 := of_decide_eq_true hc0
    obtain ⟨h0, hlt⟩ := ho hk
    obtain ⟨o, rfl⟩ := Int.eq_ofNat_of_zero_le h0
    have hlt' : o < xp.t.length := Int.ofNat_lt.1 hlt
    obtain ⟨old, hold⟩ : ∃ v, xp.t[o]? = some v := ⟨xp.t[o], by simp [hlt']⟩
    rw [show (V ++ [(⟨xp, xa, xc⟩ : PaV)]).map topO = V.map topO ++ [topO ⟨xp, xa, xc⟩] by simp]
    refine Gs.takes (As := [big (V.map topO ++ [topO ⟨xp, xa, xc⟩])]) (by repeat constructor) (Gs.bigTake take_snoc ?_)
    refine (show Gs _ _ _ (sl 3 1 intC xa xc xp.t :: _) _ from ?_)
    refine Gs.slAddr (xs := xp.t) (a := xa) (SlH.own (E := 3) (enc := intC) (sz := 1) (c := xc) .hd) fun tb tq hta => ?_
    obtain rfl := hta (by intro h; rw [h] at hlt'; simp at hlt')
    have hPy : (V ++ [(⟨⟨xp.n, xp.z + z, xp.t⟩, some ⟨tb, tq, none⟩, xc⟩ : PaV)])[V.length]? = some ⟨⟨xp.n, xp.z + z, xp.t⟩, some ⟨tb, tq, none⟩, xc⟩ := by simp
    have hnt : noteT xp.t ⟨ek, ev.xs, ew.xs, ⟨((o : Nat) : Int), eq, ewl, ec, et⟩⟩ = xp.t.set o (max old eq) := by
      unfold noteT
      rw [if_pos hk]
      show xp.t.set ((o : Nat) : Int).toNat (max (xp.t.getD ((o : Nat) : Int).toNat 0) eq) = _
      rw [Int.toNat_natCast, List.getD_eq_getElem?_getD, hold]; rfl
    refine Gs.regD mixed (by kernel_rfl) ?_
    refine Rg.pu 0 rfl rfl (by kernel_rfl) trivial (pu_move rfl) ?_
    refine Rg.pu 1 rfl rfl (by kernel_rfl) trivial (by first | exact pu_nil rfl | exact pu_nilF rfl) ?_
    refine Rg.pu 2 rfl rfl (by kernel_rfl) trivial (pu_fa fa_83_2 rfl) ?_
    refine Rg.rd 3 rfl rfl (by kernel_rfl) trivial (rd_ld na_23 rfl (Rdc.elp 1 (SlH.own (xs := V ++ [(⟨⟨xp.n, xp.z + z, xp.t⟩, some ⟨tb, tq, none⟩, xc⟩ : PaV)]) (E := 83) (enc := paC) (sz := 3) (by repeat constructor)) hPy rfl rfl)) ?_
    refine Rg.pu 4 rfl rfl (by kernel_rfl) trivial (pu_fa fa_43_3 rfl) ?_
    refine Rg.pu 5 rfl rfl (by kernel_rfl) trivial (pu_fa fa_41_0 rfl) ?_
    refine Rg.pu 6 rfl rfl (by kernel_rfl) trivial (pu_fa fa_37_0 rfl) ?_
    refine Rg.rd 7 rfl rfl (by kernel_rfl) trivial (rd_ld na_3 rfl (Rdc.cl1 (by repeat constructor) rfl)) ?_
    refine Rg.pu 8 rfl rfl (by kernel_rfl) trivial (pu_move rfl) ?_
    refine Rg.pu 9 rfl rfl (by kernel_rfl) trivial (by first | exact pu_nil rfl | exact pu_nilF rfl) ?_
    refine Rg.pu 10 rfl rfl (by kernel_rfl) trivial (pu_fa fa_83_2 rfl) ?_
    refine Rg.rd 11 rfl rfl (by kernel_rfl) trivial (rd_ld na_23 rfl (Rdc.elp 1 (SlH.own (xs := V ++ [(⟨⟨xp.n, xp.z + z, xp.t⟩, some ⟨tb, tq, none⟩, xc⟩ : PaV)]) (E := 83) (enc := paC) (sz := 3) (by repeat constructor)) hPy rfl rfl)) ?_
    refine Rg.pu 12 rfl rfl (by kernel_rfl) trivial (pu_fa fa_43_3 rfl) ?_
    refine Rg.pu 13 rfl rfl (by kernel_rfl) trivial (pu_fa fa_41_0 rfl) ?_
    refine Rg.pu 14 rfl rfl (by kernel_rfl) trivial (pu_fa fa_37_0 rfl) ?_
    refine Rg.rd 15 rfl rfl (by kernel_rfl) trivial (rd_ld na_3 rfl (Rdc.cl1 (by repeat constructor) rfl)) ?_
    refine Rg.pu 16 rfl rfl (by kernel_rfl) trivial (pu_ia se_23 rfl rfl (by omega) (by omega)) ?_
    refine Rg.rd 17 rfl rfl (by kernel_rfl) trivial (rd_ld na_3 rfl (Rdc.el0 (SlH.own (xs := xp.t) (E := 3) (enc := intC) (by repeat constructor)) hold rfl rfl)) ?_
    refine Rg.pu 18 rfl rfl (by kernel_rfl) trivial (pu_fa fa_43_3 rfl) ?_
    refine Rg.pu 19 rfl rfl (by kernel_rfl) trivial (pu_fa fa_41_0 rfl) ?_
    refine Rg.pu 20 rfl rfl (by kernel_rfl) trivial (pu_fa fa_37_1 rfl) ?_
    refine Rg.rd 21 rfl rfl (by kernel_rfl) trivial (rd_ld na_3 rfl (Rdc.cl1 (by repeat constructor) rfl)) ?_
    refine Rg.pu 22 rfl rfl (by kernel_rfl) trivial (pu_max rfl rfl) ?_
    refine Rg.pu 23 rfl rfl (by kernel_rfl) trivial (pu_ia se_23 rfl rfl (by omega) (by omega)) ?_
    refine Rg.one (by kernel_rfl) (Stp.ac0 24 rfl rfl (by kernel_rfl) trivial (ac_stE (enc := intC) (xs := xp.t) (i := o) (x0 := old) (y0 := max old eq) (vs := [int (max old eq)]) (fo := 0) sz_3 ek_3 rfl rfl (by repeat constructor) rfl rfl rfl hold rfl rfl)  ?_)
    rintro _ _ rfl
    refine Rg.end (by kernel_rfl) ?_
    refine Gs.takes (As := [sl 3 1 intC (some ⟨tb, tq, none⟩) xc (xp.t.set o (max old eq)), big (V.map topO)]) (by repeat constructor) ?_
    refine (show Gs _ _ _ (topO ⟨⟨xp.n, xp.z + z, xp.t.set o (max old eq)⟩, some ⟨tb, tq, none⟩, xc⟩ :: big (V.map topO) :: _) _ from ?_)
    refine Gs.bigBack take_snoc ?_
    rw [show V.map topO ++ [topO ⟨⟨xp.n, xp.z + z, xp.t.set o (max old eq)⟩, some ⟨tb, tq, none⟩, xc⟩] = (V ++ [(⟨⟨xp.n, xp.z + z, xp.t.set o (max old eq)⟩, some ⟨tb, tq, none⟩, xc⟩ : PaV)]).map topO by simp]
    refine Gs.slEnc (E := 83) (sz := 3) (enc := paC) (a := some ⟨pb, po, none⟩) (c := c) (xs := V ++ [(⟨⟨xp.n, xp.z + z, xp.t⟩, some ⟨tb, tq, none⟩, xc⟩ : PaV)]) (ys := V ++ [(⟨⟨xp.n, xp.z + z, xp.t.set o (max old eq)⟩, some ⟨tb, tq, none⟩, xc⟩ : PaV)]) (by simp [paC]) (by repeat constructor) ?_
    refine Gs.lgClose (made := made) (ps := U ++ [noteP xp ⟨ek, ev.xs, ew.xs, ⟨((o : Nat) : Int), eq, ewl, ec, et⟩⟩ z]) (a := some ⟨pb, po, none⟩) (c := c) (P := V ++ [(⟨⟨xp.n, xp.z + z, xp.t.set o (max old eq)⟩, some ⟨tb, tq, none⟩, xc⟩ : PaV)]) (by repeat constructor) (by simp) (by rw [List.map_append, hV]; unfold noteP; rw [hnt]; rfl) ?_
    refine Gs.fin_n ?_
    exact Gs.fin0 Tryz.results42 _ (⟨rfl, rfl⟩) (by repeat constructor)
  · skip
    have hk : ek ≠ 2 := of_decide_eq_false hc0
    have hnt : noteT xp.t ⟨ek, ev.xs, ew.xs, ⟨eo, eq, ewl, ec, et⟩⟩ = xp.t := by unfold noteT; exact if_neg hk
    rw [show (V ++ [(⟨xp, xa, xc⟩ : PaV)]).map topO = (V ++ [(⟨⟨xp.n, xp.z + z, xp.t⟩, xa, xc⟩ : PaV)]).map topO by simp [topO]]
    refine Gs.lgClose (made := made) (ps := U ++ [noteP xp ⟨ek, ev.xs, ew.xs, ⟨eo, eq, ewl, ec, et⟩⟩ z]) (a := some ⟨pb, po, none⟩) (c := c) (P := V ++ [(⟨⟨xp.n, xp.z + z, xp.t⟩, xa, xc⟩ : PaV)]) (by repeat constructor) (by simp) (by rw [List.map_append, hV]; unfold noteP; rw [hnt]; rfl) ?_
    refine Gs.skip ?_
    refine Gs.fin_n ?_
    exact Gs.fin0 Tryz.results42 _ (⟨rfl, rfl⟩) (by repeat constructor)
end Go.Proofs.YtjaafkakeccniaaGreatDoor
