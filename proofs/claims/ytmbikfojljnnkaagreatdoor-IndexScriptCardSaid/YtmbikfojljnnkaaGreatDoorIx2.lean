/- Walks: great, follow, IndexAnew (grapevinelaw11). -/
import Derived.Test.YtmbikfojljnnkaaGreatDoorIxW
namespace Go.Proofs.YtmbikfojljnnkaaGreatDoor
open Go Go.Sl Go.Gv Go.Kv Go.Po Go.Ix Go.Bst
set_option maxRecDepth 100000
structure ActI where
  d : Bool
  r : Rec
abbrev actI (x : ActI) : List Value := [.bool x.d, int x.r.o, int x.r.q, int x.r.w, int x.r.c, .string x.r.t]
abbrev actV (x : ActI) : Value := .agg (actI x).toArray
abbrev encC_37 : ActI → List Value := actI
theorem ek_37 : EncOk 6 actI := ⟨fun _ => rfl, fun x v hv => by
  simp only [actI, List.mem_cons, List.not_mem_nil, or_false] at hv
  rcases hv with rfl | rfl | rfl | rfl | rfl | rfl <;> rfl⟩
def followN (rs : List Rec) (x : ActI) : Int := if x.d then (if x.r.key ∈ rs.map Rec.key then 1 else 0) else if recB x.r then (if x.r.key ∈ rs.map Rec.key then 6 else 0) else 2
def followR (rs : List Rec) (x : ActI) : List Rec := if x.d then dropR rs x.r.key else putR rs x.r
theorem followR_len (rs : List Rec) (x : ActI) : (followR rs x).length ≤ rs.length + 1 := by
  unfold followR; split
  · exact Nat.le_succ_of_le (List.length_filter_le ..)
  · exact putR_len _ _
theorem dropR_at {rs : List Rec} (hn : (rs.map Rec.key).Nodup) {m : Nat} {r : Rec} (h : rs[m]? = some r) : dropR rs r.key = rs.take m ++ rs.drop (m + 1) := by
  induction rs generalizing m with
  | nil => cases h
  | cons x l ih =>
    have hn' := List.nodup_cons.1 hn
    cases m with
    | zero =>
      cases h
      unfold dropR
      rw [List.filter_cons_of_neg (by simp)]
      exact List.filter_eq_self.2 fun y hy => decide_eq_true fun e => hn'.1 (List.mem_map.2 ⟨y, hy, e⟩)
    | succ m =>
      have h' : l[m]? = some r := by simpa using h
      have hne : x.key ≠ r.key := fun e => hn'.1 (List.mem_map.2 ⟨r, List.mem_of_getElem? h', e.symm⟩)
      have := ih hn'.2 h'
      unfold dropR at this ⊢
      rw [List.filter_cons_of_pos (by simpa using hne), this]; rfl
theorem great_spec {S : HProp} {a : Option Addr} {c : Nat} {xs : List ActI} (hS : Srd S 6 actI a xs) (hl : xs.length ≤ 9223372036854775807) (k : Int) :
    Ct Tryz.prog 8 [.slice a xs.length c, int k] [S] (fun v hs => (∃ b : Bool, v = .bool b ∧ (b = false → xs.length ≤ k)) ∧ hs = [S]) := by
  refine Ct.intro Tryz.func8 rfl (by kernel_rfl) 30 Tryz.ntmps8 (Nat.le_of_ble_eq_true rfl) fun w0 R => ?_
  refine Gs.slAddr (hS.h (by repeat constructor)) fun ab ao ha => ?_
  refine Gs.seq ?_
  refine Gs.reg ?_
  refine Go.Sl.L.pu rfl rfl trivial (pu_assign rfl) ?_
  refine Go.Sl.L.nil ?_
  refine Gs.then_n ?_
  refine Gs.seq ?_
  refine Gs.seq ?_
  refine Gs.reg ?_
  refine Go.Sl.L.pu rfl rfl trivial (pu_assign rfl) ?_
  refine Go.Sl.L.nil ?_
  refine Gs.then_n ?_
  refine Gs.block ?_
  refine Gs.loop1 (fun i : Nat => i ≤ xs.length) (fun i => [(0, .slice a xs.length c), (1, int k), (5, int i)]) (fun i => [S] ++ R) (fun i => xs.length - i) 0 (Nat.zero_le _) (by repeat constructor) (by repeat constructor) (fun i hi => ?_)
  refine Gs.seq ?_
  refine Gs.seq ?_
  refine Gs.reg ?_
  refine Go.Sl.L.pu rfl rfl trivial (pu_move rfl) ?_
  refine Go.Sl.L.pu rfl rfl trivial (pu_move rfl) ?_
  refine Go.Sl.L.pu rfl rfl trivial (pu_len Tryz.underlying22 rfl) ?_
  refine Go.Sl.L.pu rfl rfl trivial (pu_lt rfl rfl) ?_
  refine Go.Sl.L.puB rfl rfl trivial (pu_move rfl) (fun hg4 => ?_) (fun hg4 => ?_)
  · skip
    have hlt : i < xs.length := by have := of_decide_eq_true hg4; omega
    obtain ⟨x, hx⟩ : ∃ x, xs[i]? = some x := ⟨xs[i], by simp [hlt]⟩
    obtain rfl := ha (by rintro rfl; simp at hlt)
    refine Go.Sl.L.pu rfl rfl ⟨_, rfl, rfl⟩ (pu_move rfl) ?_
    refine Go.Sl.L.pu rfl rfl ⟨_, rfl, rfl⟩ (pu_len Tryz.underlying22 rfl) ?_
    refine Go.Sl.L.pu rfl rfl ⟨_, rfl, rfl⟩ (pu_move rfl) ?_
    refine Go.Sl.L.pu rfl rfl ⟨_, rfl, rfl⟩ (pu_le rfl rfl) ?_
    refine Go.Sl.L.pu rfl rfl trivial (by first | exact pu_pick_t rfl rfl | exact pu_pick_f rfl rfl) ?_
    refine Go.Sl.L.nil ?_
    refine Gs.then_n ?_
    refine Gs.cond rfl (fun hc0 => ?_) (fun hc0 => ?_)
    · skip
      refine Gs.skip ?_
      refine Gs.then_n ?_
      refine Gs.seq ?_
      refine Gs.block ?_
      refine Gs.seq ?_
      refine Gs.reg ?_
      refine Go.Sl.L.pu rfl rfl trivial (pu_move rfl) ?_
      refine Go.Sl.L.pu rfl rfl trivial (pu_move rfl) ?_
      refine Go.Sl.L.pu rfl rfl trivial (pu_ia se_22 rfl rfl (by omega) (by omega)) ?_
      refine Go.Sl.L.pu rfl rfl trivial (pu_fa fa_37_1 rfl) ?_
      refine Go.Sl.L.pu rfl rfl trivial (pu_fa fa_35_2 rfl) ?_
      refine Go.Sl.L.rd rfl rfl trivial (rd_ld na_9 rfl (Rdc.elp (f := 5) 1 (hS.h (by repeat constructor)) hx rfl rfl)) ?_
      refine Go.Sl.L.pu rfl rfl trivial (pu_lenS Tryz.underlying9 rfl) ?_
      refine Go.Sl.L.pu rfl rfl trivial (pu_gt rfl rfl) ?_
      refine Go.Sl.L.nil ?_
      refine Gs.then_n ?_
      refine Gs.cond rfl (fun hc1 => ?_) (fun hc1 => ?_)
      · skip
        refine Gs.seq ?_
        refine Gs.reg ?_
        refine Go.Sl.L.pu rfl rfl trivial (pu_assign rfl) ?_
        refine Go.Sl.L.nil ?_
        refine Gs.then_n ?_
        refine Gs.ret ?_
        refine Gs.blk_r ?_
        refine Gs.then_r ?_
        refine Gs.then_r ?_
        refine Gs.blk_r ?_
        refine Gs.then_r ?_
        exact Gs.fin1 Tryz.results8 rfl _ (⟨⟨true, rfl, fun h => by cases h⟩, rfl⟩) (by repeat constructor)
      · skip
        refine Gs.skip ?_
        refine Gs.blk_n ?_
        refine Gs.then_n ?_
        refine Gs.reg ?_
        refine Go.Sl.L.pu rfl rfl trivial (pu_move rfl) ?_
        refine Go.Sl.L.pu rfl rfl trivial (by first | exact pu_addI rfl rfl rfl (by omega) (by omega) | exact pu_add rfl rfl) ?_
        refine Go.Sl.L.pu rfl rfl trivial (pu_assign rfl) ?_
        refine Go.Sl.L.nil ?_
        refine Gs.then_n ?_
        exact Gs.again1 (i + 1) (by omega) (by omega) (by repeat constructor) (by repeat constructor)
    · skip
      refine Gs.exit ?_
      refine Gs.then_x ?_
      refine Gs.then_x ?_
      refine Gs.blk_hit ?_
      refine Gs.then_n ?_
      refine Gs.seq ?_
      refine Gs.reg ?_
      refine Go.Sl.L.pu rfl rfl trivial (pu_move rfl) ?_
      refine Go.Sl.L.pu rfl rfl trivial (pu_len Tryz.underlying22 rfl) ?_
      refine Go.Sl.L.pu rfl rfl trivial (pu_move rfl) ?_
      refine Go.Sl.L.pu rfl rfl trivial (pu_gt rfl rfl) ?_
      refine Go.Sl.L.pu rfl rfl trivial (pu_assign rfl) ?_
      refine Go.Sl.L.nil ?_
      refine Gs.then_n ?_
      refine Gs.ret ?_
      exact Gs.fin1 Tryz.results8 rfl _ (⟨⟨_, rfl, fun h => by have := of_decide_eq_false h; omega⟩, rfl⟩) (by repeat constructor)
  · skip
    refine Go.Sl.L.off rfl rfl rfl rfl rfl rfl ?_
    refine Go.Sl.L.off rfl rfl rfl rfl rfl rfl ?_
    refine Go.Sl.L.off rfl rfl rfl rfl rfl rfl ?_
    refine Go.Sl.L.off rfl rfl rfl rfl rfl rfl ?_
    refine Go.Sl.L.pu rfl rfl trivial (by first | exact pu_pick_t rfl rfl | exact pu_pick_f rfl rfl) ?_
    refine Go.Sl.L.nil ?_
    refine Gs.then_n ?_
    refine Gs.cond_f rfl ?_
    refine Gs.exit ?_
    refine Gs.then_x ?_
    refine Gs.then_x ?_
    refine Gs.blk_hit ?_
    refine Gs.then_n ?_
    refine Gs.seq ?_
    refine Gs.reg ?_
    refine Go.Sl.L.pu rfl rfl trivial (pu_move rfl) ?_
    refine Go.Sl.L.pu rfl rfl trivial (pu_len Tryz.underlying22 rfl) ?_
    refine Go.Sl.L.pu rfl rfl trivial (pu_move rfl) ?_
    refine Go.Sl.L.pu rfl rfl trivial (pu_gt rfl rfl) ?_
    refine Go.Sl.L.pu rfl rfl trivial (pu_assign rfl) ?_
    refine Go.Sl.L.nil ?_
    refine Gs.then_n ?_
    refine Gs.ret ?_
    exact Gs.fin1 Tryz.results8 rfl _ (⟨⟨_, rfl, fun h => by have := of_decide_eq_false h; omega⟩, rfl⟩) (by repeat constructor)
theorem followI_spec {h0 : Hp} (T : Tabs h0) {a : Option Addr} {c : Nat} {rs : List Rec} (hn : (rs.map Rec.key).Nodup) (hl : rs.length ≤ 1000) (x : ActI) :
    Ct Tryz.prog 11 [.slice a rs.length c, actV x] [sl 35 5 recC a c rs, ro h0] (fun v hs => ∃ a' c', v = .tuple #[.slice a' (followR rs x).length c', int (followN rs x)] ∧ hs = [sl 35 5 recC a' c' (followR rs x), ro h0]) := by
  refine Ct.intro Tryz.func11 rfl (by kernel_rfl) 60 Tryz.ntmps11 (Nat.le_of_ble_eq_true rfl) fun w0 R => ?_
  refine Gs.slAddr (xs := rs) (SlH.own (E := 35) (enc := recC) (a := a) (c := c) (by repeat constructor)) fun ab ao ha => ?_
  refine Gs.slLen (E := 35) (sz := 5) (enc := recC) (a := a) (c := c) (xs := rs) (by repeat constructor) fun hlc => ?_
  refine Gs.seq ?_
  refine Gs.reg ?_
  refine Go.Sl.L.ac rfl rfl trivial (ac_box rfl rfl) ?_
  rintro _ _ ⟨xb, rfl, rfl⟩
  refine Go.Sl.L.pu rfl rfl trivial (pu_assign rfl) ?_
  refine Go.Sl.L.pu rfl rfl trivial (pu_assign rfl) ?_
  refine Go.Sl.L.nil ?_
  refine Gs.then_n ?_
  refine Gs.seq ?_
  refine Gs.reg ?_
  refine Go.Sl.L.pu rfl rfl trivial (pu_assign rfl) ?_
  refine Go.Sl.L.nil ?_
  refine Gs.then_n ?_
  refine Gs.seq ?_
  refine Gs.seq ?_
  refine Gs.reg ?_
  refine Go.Sl.L.pu rfl rfl trivial (pu_assign rfl) ?_
  refine Go.Sl.L.nil ?_
  refine Gs.then_n ?_
  refine Gs.block ?_
  refine Gs.loop1 (fun s : Nat × Int => s.1 ≤ rs.length ∧ ((s.2 = -1 ∧ x.r.key ∉ (rs.take s.1).map Rec.key) ∨ ∃ (m : Nat) (y : Rec), s.2 = (m : Int) ∧ rs[m]? = some y ∧ y.key = x.r.key)) (fun s => [(0, .slice a rs.length c), (3, ptr xb), (6, int s.2), (7, int s.1)]) (fun s => [cl xb 37 (actI x), sl 35 5 recC a c rs, ro h0] ++ R) (fun s => rs.length - s.1) (0, -1) (⟨Nat.zero_le _, .inl ⟨rfl, by simp⟩⟩) (by repeat constructor) (by repeat constructor) (fun s hs => ?_)
  obtain ⟨i, at'⟩ := s
  obtain ⟨hi, hat⟩ := hs
  dsimp only at hi hat ⊢
  refine Gs.seq ?_
  refine Gs.seq ?_
  refine Gs.reg ?_
  refine Go.Sl.L.pu rfl rfl trivial (pu_move rfl) ?_
  refine Go.Sl.L.pu rfl rfl trivial (pu_move rfl) ?_
  refine Go.Sl.L.pu rfl rfl trivial (pu_len Tryz.underlying27 rfl) ?_
  refine Go.Sl.L.pu rfl rfl trivial (pu_lt rfl rfl) ?_
  refine Go.Sl.L.nil ?_
  refine Gs.then_n ?_
  refine Gs.cond rfl (fun hc0 => ?_) (fun hc0 => ?_)
  · skip
    have hlt : i < rs.length := by have := of_decide_eq_true hc0; omega
    obtain ⟨y, hy⟩ : ∃ z, rs[i]? = some z := ⟨rs[i], by simp [hlt]⟩
    obtain rfl := ha (by rintro rfl; simp at hlt)
    refine Gs.skip ?_
    refine Gs.then_n ?_
    refine Gs.seq ?_
    refine Gs.block ?_
    refine Gs.seq ?_
    refine Gs.regD mixed (by kernel_rfl) ?_
    refine Rg.pu 0 rfl rfl (by kernel_rfl) trivial (pu_move rfl) ?_
    refine Rg.pu 1 rfl rfl (by kernel_rfl) trivial (pu_move rfl) ?_
    refine Rg.pu 2 rfl rfl (by kernel_rfl) trivial (pu_ia se_27 rfl rfl (by omega) (by omega)) ?_
    refine Rg.pu 3 rfl rfl (by kernel_rfl) trivial (pu_fa fa_35_0 rfl) ?_
    refine Rg.rd 4 rfl rfl (by kernel_rfl) trivial (rd_lda ag_31 rfl (Rdc.elp (f := 0) 2 (SlH.own (xs := rs) (E := 35) (enc := recC) (sz := 5) (by repeat constructor)) hy rfl rfl) rfl) ?_
    refine Rg.pu 5 rfl rfl (by kernel_rfl) trivial (pu_fa fa_37_1 rfl) ?_
    refine Rg.pu 6 rfl rfl (by kernel_rfl) trivial (pu_fa fa_35_0 rfl) ?_
    refine Rg.rd 7 rfl rfl (by kernel_rfl) trivial (rd_lda ag_31 rfl (Rdc.cl 2 (by repeat constructor) rfl) rfl) ?_
    refine Rg.pu 8 rfl rfl (by kernel_rfl) trivial (pu_eqT (a := y.key) (b := x.r.key) cmp_31 (by decide) Tryz.eqGuardType31 rfl rfl) ?_
    refine Rg.end (by kernel_rfl) ?_
    refine Gs.then_n ?_
    refine Gs.cond rfl (fun hc1 => ?_) (fun hc1 => ?_)
    · skip
      have hk : y.key = x.r.key := of_decide_eq_true hc1
      refine Gs.reg ?_
      refine Go.Sl.L.pu rfl rfl trivial (pu_move rfl) ?_
      refine Go.Sl.L.pu rfl rfl trivial (pu_assign rfl) ?_
      refine Go.Sl.L.nil ?_
      refine Gs.blk_n ?_
      refine Gs.then_n ?_
      refine Gs.reg ?_
      refine Go.Sl.L.pu rfl rfl trivial (pu_move rfl) ?_
      refine Go.Sl.L.pu rfl rfl trivial (by first | exact pu_addI rfl rfl rfl (by omega) (by omega) | exact pu_add rfl rfl) ?_
      refine Go.Sl.L.pu rfl rfl trivial (pu_assign rfl) ?_
      refine Go.Sl.L.nil ?_
      refine Gs.then_n ?_
      first | exact Gs.again1 (i + 1, (i : Int)) ⟨hlt, .inr ⟨i, y, rfl, hy, hk⟩⟩ (by show rs.length - (i + 1) < rs.length - i; omega) (by repeat constructor) (by repeat constructor) | exact Gs.again1 (i + 1, at') ⟨hlt, hat2⟩ (by show rs.length - (i + 1) < rs.length - i; omega) (by repeat constructor) (by repeat constructor)
    · skip
      have hk : y.key ≠ x.r.key := of_decide_eq_false hc1
      have hat2 : (at' = -1 ∧ x.r.key ∉ (rs.take (i + 1)).map Rec.key) ∨ ∃ (m : Nat) (y : Rec), at' = (m : Int) ∧ rs[m]? = some y ∧ y.key = x.r.key := by
        rcases hat with ⟨h1, h2⟩ | h
        · refine .inl ⟨h1, ?_⟩
          rw [List.take_add_one, hy, List.map_append]
          intro hm
          rcases List.mem_append.1 hm with hm | hm
          · exact h2 hm
          · simp at hm; exact hk hm.symm
        · exact .inr h
      refine Gs.skip ?_
      refine Gs.blk_n ?_
      refine Gs.then_n ?_
      refine Gs.reg ?_
      refine Go.Sl.L.pu rfl rfl trivial (pu_move rfl) ?_
      refine Go.Sl.L.pu rfl rfl trivial (by first | exact pu_addI rfl rfl rfl (by omega) (by omega) | exact pu_add rfl rfl) ?_
      refine Go.Sl.L.pu rfl rfl trivial (pu_assign rfl) ?_
      refine Go.Sl.L.nil ?_
      refine Gs.then_n ?_
      first | exact Gs.again1 (i + 1, (i : Int)) ⟨hlt, .inr ⟨i, y, rfl, hy, hk⟩⟩ (by show rs.length - (i + 1) < rs.length - i; omega) (by repeat constructor) (by repeat constructor) | exact Gs.again1 (i + 1, at') ⟨hlt, hat2⟩ (by show rs.length - (i + 1) < rs.length - i; omega) (by repeat constructor) (by repeat constructor)
  · skip
    have hge : i = rs.length := by have := of_decide_eq_false hc0; omega
    rw [hge, List.take_length] at hat
    refine Gs.exit ?_
    refine Gs.then_x ?_
    refine Gs.then_x ?_
    refine Gs.blk_hit ?_
    refine Gs.then_n ?_
    refine Gs.seq ?_
    refine Gs.block ?_
    refine Gs.seq ?_
    refine Gs.reg ?_
    refine Go.Sl.L.pu rfl rfl trivial (pu_fa fa_37_0 rfl) ?_
    refine Go.Sl.L.rd rfl rfl trivial (rd_ld na_4 rfl (Rdc.cl1 (by repeat constructor) rfl)) ?_
    refine Go.Sl.L.puB rfl rfl trivial (pu_move rfl) (fun hg2 => ?_) (fun hg2 => ?_)
    · skip
      have hd : x.d = true := hg2
      refine Go.Sl.L.pu rfl rfl ⟨_, rfl, rfl⟩ (pu_move rfl) ?_
      refine Go.Sl.L.pu rfl rfl ⟨_, rfl, rfl⟩ (pu_ge rfl rfl) ?_
      refine Go.Sl.L.pu rfl rfl trivial (by first | exact pu_pick_t rfl rfl | exact pu_pick_f rfl rfl) ?_
      refine Go.Sl.L.pu rfl rfl trivial (pu_assign rfl) ?_
      refine Go.Sl.L.nil ?_
      refine Gs.then_n ?_
      refine Gs.cond rfl (fun hc2 => ?_) (fun hc2 => ?_)
      · skip
        obtain ⟨m, y, rfl, hy, hk⟩ : ∃ (m : Nat) (y : Rec), at' = (m : Int) ∧ rs[m]? = some y ∧ y.key = x.r.key := by
          rcases hat with ⟨h1, h2⟩ | h
          · have := of_decide_eq_true hc2; omega
          · exact h
        have hmlt := (List.getElem?_eq_some_iff.1 hy).1
        have hin : x.r.key ∈ rs.map Rec.key := List.mem_map.2 ⟨y, List.mem_of_getElem? hy, hk⟩
        have hfr : followR rs x = rs.take m ++ rs.drop (m + 1) := by unfold followR; rw [hd, if_pos rfl, ← hk, dropR_at hn hy]
        have hfn : followN rs x = 1 := by unfold followN; rw [hd, if_pos rfl, if_pos hin]
        refine Gs.seq ?_
        refine Gs.regD mixed (by kernel_rfl) ?_
        refine Rg.pu 0 rfl rfl (by kernel_rfl) trivial (pu_move rfl) ?_
        refine Rg.pu 1 rfl rfl (by kernel_rfl) trivial (pu_move rfl) ?_
        refine Rg.pu 2 rfl rfl (by kernel_rfl) trivial (pu_sliceH et_27 rfl rfl (by omega) (by omega)) ?_
        refine Rg.pu 4 rfl rfl (by kernel_rfl) trivial (pu_move rfl) ?_
        refine Rg.pu 5 rfl rfl (by kernel_rfl) trivial (pu_move rfl) ?_
        refine Rg.pu 6 rfl rfl (by kernel_rfl) trivial (by first | exact pu_addI rfl rfl rfl (by omega) (by omega) | exact pu_add rfl rfl) ?_
        refine Rg.pu 7 rfl rfl (by kernel_rfl) trivial (pu_sliceL et_27 rfl rfl (by omega) (by omega)) ?_
        refine Rg.one (by kernel_rfl) (Stp.ac 3 rfl rfl (by kernel_rfl) trivial (ac_copy et_27 ek_35 rfl rfl (SrcH.sl' (ys := rs.take m) Tryz.underlying27 ek_35 (by simp <;> omega) (SlH.cutH (SlH.own (by repeat constructor)) _ _ hlc)) (by first | omega | (simp; omega)) (by first | omega | (simp; omega)))  ?_)
        rintro _ _ ⟨a34, c34, rfl, rfl⟩
        refine Rg.one (by kernel_rfl) (Stp.ac 8 rfl rfl (by kernel_rfl) trivial (ac_append et_27 ek_35 rfl rfl (by repeat constructor) (SrcH.sl' (ys := rs.drop (m + 1)) Tryz.underlying27 ek_35 (by simp <;> omega) (SlH.cutL (SlH.own (by repeat constructor)) _ _ hlc)) (by first | omega | (simp; omega)) (by first | omega | (simp; omega)))  ?_)
        rintro _ _ ⟨a39, c39, rfl, rfl⟩
        rw [← hfr]
        refine Rg.pu 9 rfl rfl (by kernel_rfl) trivial (pu_assign rfl) ?_
        refine Rg.pu 10 rfl rfl (by kernel_rfl) trivial (pu_assign rfl) ?_
        refine Rg.end (by kernel_rfl) ?_
        refine Gs.then_n ?_
        refine Gs.ret ?_
        refine Gs.blk_r ?_
        refine Gs.then_r ?_
        exact Gs.fin2 Tryz.results11 rfl rfl _ (⟨_, _, by rw [hfn], rfl⟩) (by repeat constructor)
      · skip
        refine Gs.seq ?_
        refine Gs.reg ?_
        refine Go.Sl.L.pu rfl rfl trivial (pu_fa fa_37_0 rfl) ?_
        refine Go.Sl.L.rd rfl rfl trivial (rd_ld na_4 rfl (Rdc.cl1 (by repeat constructor) rfl)) ?_
        refine Go.Sl.L.pu rfl rfl trivial (pu_assign rfl) ?_
        refine Go.Sl.L.nil ?_
        refine Gs.then_n ?_
        refine Gs.cond rfl (fun hc3 => ?_) (fun hc3 => ?_)
        · skip
          have hno : x.r.key ∉ rs.map Rec.key := by
            first
            | exact absurd (hd.symm.trans hc3) (by decide)
            | rcases hat with ⟨h1, h2⟩ | ⟨m, y, h1, -⟩
              · exact h2
              · have := of_decide_eq_false hc2; omega
          have hfr : followR rs x = rs := by unfold followR; rw [show x.d = true from hc3, if_pos rfl, dropR_none hno]
          have hfn : followN rs x = 0 := by unfold followN; rw [show x.d = true from hc3, if_pos rfl, if_neg hno]
          refine Gs.seq ?_
          refine Gs.reg ?_
          refine Go.Sl.L.pu rfl rfl trivial (pu_move rfl) ?_
          refine Go.Sl.L.pu rfl rfl trivial (pu_assign rfl) ?_
          refine Go.Sl.L.pu rfl rfl trivial (pu_assign rfl) ?_
          refine Go.Sl.L.nil ?_
          refine Gs.then_n ?_
          refine Gs.ret ?_
          refine Gs.blk_r ?_
          refine Gs.then_r ?_
          exact Gs.fin2 Tryz.results11 rfl rfl _ (⟨_, _, by rw [hfr, hfn], by rw [hfr]⟩) (by repeat constructor)
        · skip
          have hdf : x.d = false := hc3
          refine Gs.seq ?_
          refine Gs.reg ?_
          refine Go.Sl.L.pu rfl rfl trivial (pu_fa fa_37_1 rfl) ?_
          refine Go.Sl.L.rd rfl rfl trivial (rd_lda ag_35 rfl (Rdc.cl 5 (by repeat constructor) rfl) rfl) ?_
          refine Go.Sl.L.ac rfl rfl trivial (as_call (recMay4_spec T x.r) (by repeat constructor) (by repeat constructor)) ?_
          rintro _ _ ⟨_, ⟨rfl, rfl⟩, rfl⟩
          refine Go.Sl.L.pu rfl rfl trivial (pu_not rfl) ?_
          refine Go.Sl.L.pu rfl rfl trivial (pu_assign rfl) ?_
          refine Go.Sl.L.nil ?_
          refine Gs.then_n ?_
          refine Gs.cond rfl (fun hc4 => ?_) (fun hc4 => ?_)
          · skip
            have hb : recB x.r = false := not_t hc4
            have hfr : followR rs x = rs := by unfold followR putR; rw [hdf, hb]; rfl
            have hfn : followN rs x = 2 := by unfold followN; rw [hdf, hb]; rfl
            refine Gs.seq ?_
            refine Gs.reg ?_
            refine Go.Sl.L.pu rfl rfl trivial (pu_move rfl) ?_
            refine Go.Sl.L.pu rfl rfl trivial (pu_assign rfl) ?_
            refine Go.Sl.L.pu rfl rfl trivial (pu_assign rfl) ?_
            refine Go.Sl.L.nil ?_
            refine Gs.then_n ?_
            refine Gs.ret ?_
            refine Gs.blk_r ?_
            refine Gs.then_r ?_
            exact Gs.fin2 Tryz.results11 rfl rfl _ (⟨_, _, by rw [hfr, hfn], by rw [hfr]⟩) (by repeat constructor)
          · skip
            have hb : recB x.r = true := not_f hc4
            refine Gs.seq ?_
            refine Gs.reg ?_
            refine Go.Sl.L.pu rfl rfl trivial (pu_move rfl) ?_
            refine Go.Sl.L.pu rfl rfl trivial (pu_ge rfl rfl) ?_
            refine Go.Sl.L.pu rfl rfl trivial (pu_assign rfl) ?_
            refine Go.Sl.L.nil ?_
            refine Gs.then_n ?_
            refine Gs.cond rfl (fun hc5 => ?_) (fun hc5 => ?_)
            · skip
              have hin : x.r.key ∈ rs.map Rec.key := by
                rcases hat with ⟨h1, -⟩ | ⟨m, y, -, hy, hk⟩
                · have := of_decide_eq_true hc5; omega
                · exact List.mem_map.2 ⟨y, List.mem_of_getElem? hy, hk⟩
              have hfr : followR rs x = rs := by unfold followR putR; rw [hdf, hb]; simp [hin]
              have hfn : followN rs x = 6 := by unfold followN; rw [hdf, hb]; simp [hin]
              refine Gs.seq ?_
              refine Gs.reg ?_
              refine Go.Sl.L.pu rfl rfl trivial (pu_move rfl) ?_
              refine Go.Sl.L.pu rfl rfl trivial (pu_assign rfl) ?_
              refine Go.Sl.L.pu rfl rfl trivial (pu_assign rfl) ?_
              refine Go.Sl.L.nil ?_
              refine Gs.then_n ?_
              refine Gs.ret ?_
              refine Gs.blk_r ?_
              refine Gs.then_r ?_
              exact Gs.fin2 Tryz.results11 rfl rfl _ (⟨_, _, by rw [hfr, hfn], by rw [hfr]⟩) (by repeat constructor)
            · skip
              have hno : x.r.key ∉ rs.map Rec.key := by
                rcases hat with ⟨h1, h2⟩ | ⟨m, y, h1, -⟩
                · exact h2
                · have := of_decide_eq_false hc5; omega
              have hfr : followR rs x = rs ++ [x.r] := by unfold followR putR; rw [hdf, hb]; simp [hno]
              have hfn : followN rs x = 0 := by unfold followN; rw [hdf, hb]; simp [hno]
              refine Gs.skip ?_
              refine Gs.blk_n ?_
              refine Gs.then_n ?_
              refine Gs.seq ?_
              refine Gs.regD mixed (by kernel_rfl) ?_
              refine Rg.pu 0 rfl rfl (by kernel_rfl) trivial (pu_move rfl) ?_
              refine Rg.pu 2 rfl rfl (by kernel_rfl) trivial (pu_fa fa_37_1 rfl) ?_
              refine Rg.rd 3 rfl rfl (by kernel_rfl) trivial (rd_lda ag_35 rfl (Rdc.cl 5 (by repeat constructor) rfl) rfl) ?_
              refine Rg.two (by kernel_rfl) (Stp.acK 1 rfl rfl (by kernel_rfl) trivial (ac_copy et_27 ek_35 rfl rfl (SrcH.sl Tryz.underlying27 ek_35 (SlH.own (xs := rs) (E := 35) (enc := recC) (by repeat constructor))) (by first | omega | (simp; omega)) (by first | omega | (simp; omega))) (by rintro _ _ ⟨a55, c55, rfl, rfl⟩ w s; first | exact s.drop | exact s | exact Ent.sat (by repeat constructor) s) ?_) (Stp.ac 4 rfl rfl (by kernel_rfl) trivial (ac_lit encC_35 ([x.r]) et_27 ek_35 rfl (by repeat constructor) rfl rfl (by decide))  ?_)
              · skip
                rintro _ _ ⟨a55, c55, rfl, rfl⟩
                refine Rg.one (by kernel_rfl) (Stp.ac 4 rfl rfl (by kernel_rfl) trivial (ac_lit encC_35 ([x.r]) et_27 ek_35 rfl (by repeat constructor) rfl rfl (by decide))  ?_)
                rintro _ _ ⟨a58, rfl, rfl⟩
                refine Rg.one (by kernel_rfl) (Stp.ac 5 rfl rfl (by kernel_rfl) trivial (ac_append (xs := rs) (ys := [x.r]) et_27 ek_35 rfl rfl (by repeat constructor) (SrcH.sl Tryz.underlying27 ek_35 (SlH.own (by repeat constructor))) (by first | omega | (simp; omega)) (by first | omega | (simp; omega)))  ?_)
                rintro _ _ ⟨a59, c59, rfl, rfl⟩
                rw [← hfr]
                refine Rg.pu 6 rfl rfl (by kernel_rfl) trivial (pu_assign rfl) ?_
                refine Rg.pu 7 rfl rfl (by kernel_rfl) trivial (pu_assign rfl) ?_
                refine Rg.end (by kernel_rfl) ?_
                refine Gs.then_n ?_
                refine Gs.ret ?_
                exact Gs.fin2 Tryz.results11 rfl rfl _ (⟨_, _, by rw [hfn], rfl⟩) (by repeat constructor)
              · skip
                rintro _ _ ⟨a58, rfl, rfl⟩
                refine Rg.one (by kernel_rfl) (Stp.ac 1 rfl rfl (by kernel_rfl) trivial (ac_copy et_27 ek_35 rfl rfl (SrcH.sl Tryz.underlying27 ek_35 (SlH.own (xs := rs) (E := 35) (enc := recC) (by repeat constructor))) (by first | omega | (simp; omega)) (by first | omega | (simp; omega)))  ?_)
                rintro _ _ ⟨a55, c55, rfl, rfl⟩
                refine Rg.one (by kernel_rfl) (Stp.ac 5 rfl rfl (by kernel_rfl) trivial (ac_append (xs := rs) (ys := [x.r]) et_27 ek_35 rfl rfl (by repeat constructor) (SrcH.sl Tryz.underlying27 ek_35 (SlH.own (by repeat constructor))) (by first | omega | (simp; omega)) (by first | omega | (simp; omega)))  ?_)
                rintro _ _ ⟨a59, c59, rfl, rfl⟩
                rw [← hfr]
                refine Rg.pu 6 rfl rfl (by kernel_rfl) trivial (pu_assign rfl) ?_
                refine Rg.pu 7 rfl rfl (by kernel_rfl) trivial (pu_assign rfl) ?_
                refine Rg.end (by kernel_rfl) ?_
                refine Gs.then_n ?_
                refine Gs.ret ?_
                exact Gs.fin2 Tryz.results11 rfl rfl _ (⟨_, _, by rw [hfn], rfl⟩) (by repeat constructor)
    · skip
      have hd : x.d = false := hg2
      refine Go.Sl.L.off rfl rfl rfl rfl rfl rfl ?_
      refine Go.Sl.L.off rfl rfl rfl rfl rfl rfl ?_
      refine Go.Sl.L.pu rfl rfl trivial (by first | exact pu_pick_t rfl rfl | exact pu_pick_f rfl rfl) ?_
      refine Go.Sl.L.pu rfl rfl trivial (pu_assign rfl) ?_
      refine Go.Sl.L.nil ?_
      refine Gs.then_n ?_
      refine Gs.cond_f rfl ?_
      refine Gs.seq ?_
      refine Gs.reg ?_
      refine Go.Sl.L.pu rfl rfl trivial (pu_fa fa_37_0 rfl) ?_
      refine Go.Sl.L.rd rfl rfl trivial (rd_ld na_4 rfl (Rdc.cl1 (by repeat constructor) rfl)) ?_
      refine Go.Sl.L.pu rfl rfl trivial (pu_assign rfl) ?_
      refine Go.Sl.L.nil ?_
      refine Gs.then_n ?_
      refine Gs.cond rfl (fun hc3 => ?_) (fun hc3 => ?_)
      · skip
        have hno : x.r.key ∉ rs.map Rec.key := by
          first
          | exact absurd (hd.symm.trans hc3) (by decide)
          | rcases hat with ⟨h1, h2⟩ | ⟨m, y, h1, -⟩
            · exact h2
            · have := of_decide_eq_false hc2; omega
        have hfr : followR rs x = rs := by unfold followR; rw [show x.d = true from hc3, if_pos rfl, dropR_none hno]
        have hfn : followN rs x = 0 := by unfold followN; rw [show x.d = true from hc3, if_pos rfl, if_neg hno]
        refine Gs.seq ?_
        refine Gs.reg ?_
        refine Go.Sl.L.pu rfl rfl trivial (pu_move rfl) ?_
        refine Go.Sl.L.pu rfl rfl trivial (pu_assign rfl) ?_
        refine Go.Sl.L.pu rfl rfl trivial (pu_assign rfl) ?_
        refine Go.Sl.L.nil ?_
        refine Gs.then_n ?_
        refine Gs.ret ?_
        refine Gs.blk_r ?_
        refine Gs.then_r ?_
        exact Gs.fin2 Tryz.results11 rfl rfl _ (⟨_, _, by rw [hfr, hfn], by rw [hfr]⟩) (by repeat constructor)
      · skip
        have hdf : x.d = false := hc3
        refine Gs.seq ?_
        refine Gs.reg ?_
        refine Go.Sl.L.pu rfl rfl trivial (pu_fa fa_37_1 rfl) ?_
        refine Go.Sl.L.rd rfl rfl trivial (rd_lda ag_35 rfl (Rdc.cl 5 (by repeat constructor) rfl) rfl) ?_
        refine Go.Sl.L.ac rfl rfl trivial (as_call (recMay4_spec T x.r) (by repeat constructor) (by repeat constructor)) ?_
        rintro _ _ ⟨_, ⟨rfl, rfl⟩, rfl⟩
        refine Go.Sl.L.pu rfl rfl trivial (pu_not rfl) ?_
        refine Go.Sl.L.pu rfl rfl trivial (pu_assign rfl) ?_
        refine Go.Sl.L.nil ?_
        refine Gs.then_n ?_
        refine Gs.cond rfl (fun hc4 => ?_) (fun hc4 => ?_)
        · skip
          have hb : recB x.r = false := not_t hc4
          have hfr : followR rs x = rs := by unfold followR putR; rw [hdf, hb]; rfl
          have hfn : followN rs x = 2 := by unfold followN; rw [hdf, hb]; rfl
          refine Gs.seq ?_
          refine Gs.reg ?_
          refine Go.Sl.L.pu rfl rfl trivial (pu_move rfl) ?_
          refine Go.Sl.L.pu rfl rfl trivial (pu_assign rfl) ?_
          refine Go.Sl.L.pu rfl rfl trivial (pu_assign rfl) ?_
          refine Go.Sl.L.nil ?_
          refine Gs.then_n ?_
          refine Gs.ret ?_
          refine Gs.blk_r ?_
          refine Gs.then_r ?_
          exact Gs.fin2 Tryz.results11 rfl rfl _ (⟨_, _, by rw [hfr, hfn], by rw [hfr]⟩) (by repeat constructor)
        · skip
          have hb : recB x.r = true := not_f hc4
          refine Gs.seq ?_
          refine Gs.reg ?_
          refine Go.Sl.L.pu rfl rfl trivial (pu_move rfl) ?_
          refine Go.Sl.L.pu rfl rfl trivial (pu_ge rfl rfl) ?_
          refine Go.Sl.L.pu rfl rfl trivial (pu_assign rfl) ?_
          refine Go.Sl.L.nil ?_
          refine Gs.then_n ?_
          refine Gs.cond rfl (fun hc5 => ?_) (fun hc5 => ?_)
          · skip
            have hin : x.r.key ∈ rs.map Rec.key := by
              rcases hat with ⟨h1, -⟩ | ⟨m, y, -, hy, hk⟩
              · have := of_decide_eq_true hc5; omega
              · exact List.mem_map.2 ⟨y, List.mem_of_getElem? hy, hk⟩
            have hfr : followR rs x = rs := by unfold followR putR; rw [hdf, hb]; simp [hin]
            have hfn : followN rs x = 6 := by unfold followN; rw [hdf, hb]; simp [hin]
            refine Gs.seq ?_
            refine Gs.reg ?_
            refine Go.Sl.L.pu rfl rfl trivial (pu_move rfl) ?_
            refine Go.Sl.L.pu rfl rfl trivial (pu_assign rfl) ?_
            refine Go.Sl.L.pu rfl rfl trivial (pu_assign rfl) ?_
            refine Go.Sl.L.nil ?_
            refine Gs.then_n ?_
            refine Gs.ret ?_
            refine Gs.blk_r ?_
            refine Gs.then_r ?_
            exact Gs.fin2 Tryz.results11 rfl rfl _ (⟨_, _, by rw [hfr, hfn], by rw [hfr]⟩) (by repeat constructor)
          · skip
            have hno : x.r.key ∉ rs.map Rec.key := by
              rcases hat with ⟨h1, h2⟩ | ⟨m, y, h1, -⟩
              · exact h2
              · have := of_decide_eq_false hc5; omega
            have hfr : followR rs x = rs ++ [x.r] := by unfold followR putR; rw [hdf, hb]; simp [hno]
            have hfn : followN rs x = 0 := by unfold followN; rw [hdf, hb]; simp [hno]
            refine Gs.skip ?_
            refine Gs.blk_n ?_
            refine Gs.then_n ?_
            refine Gs.seq ?_
            refine Gs.regD mixed (by kernel_rfl) ?_
            refine Rg.pu 0 rfl rfl (by kernel_rfl) trivial (pu_move rfl) ?_
            refine Rg.pu 2 rfl rfl (by kernel_rfl) trivial (pu_fa fa_37_1 rfl) ?_
            refine Rg.rd 3 rfl rfl (by kernel_rfl) trivial (rd_lda ag_35 rfl (Rdc.cl 5 (by repeat constructor) rfl) rfl) ?_
            refine Rg.two (by kernel_rfl) (Stp.acK 1 rfl rfl (by kernel_rfl) trivial (ac_copy et_27 ek_35 rfl rfl (SrcH.sl Tryz.underlying27 ek_35 (SlH.own (xs := rs) (E := 35) (enc := recC) (by repeat constructor))) (by first | omega | (simp; omega)) (by first | omega | (simp; omega))) (by rintro _ _ ⟨a55, c55, rfl, rfl⟩ w s; first | exact s.drop | exact s | exact Ent.sat (by repeat constructor) s) ?_) (Stp.ac 4 rfl rfl (by kernel_rfl) trivial (ac_lit encC_35 ([x.r]) et_27 ek_35 rfl (by repeat constructor) rfl rfl (by decide))  ?_)
            · skip
              rintro _ _ ⟨a55, c55, rfl, rfl⟩
              refine Rg.one (by kernel_rfl) (Stp.ac 4 rfl rfl (by kernel_rfl) trivial (ac_lit encC_35 ([x.r]) et_27 ek_35 rfl (by repeat constructor) rfl rfl (by decide))  ?_)
              rintro _ _ ⟨a58, rfl, rfl⟩
              refine Rg.one (by kernel_rfl) (Stp.ac 5 rfl rfl (by kernel_rfl) trivial (ac_append (xs := rs) (ys := [x.r]) et_27 ek_35 rfl rfl (by repeat constructor) (SrcH.sl Tryz.underlying27 ek_35 (SlH.own (by repeat constructor))) (by first | omega | (simp; omega)) (by first | omega | (simp; omega)))  ?_)
              rintro _ _ ⟨a59, c59, rfl, rfl⟩
              rw [← hfr]
              refine Rg.pu 6 rfl rfl (by kernel_rfl) trivial (pu_assign rfl) ?_
              refine Rg.pu 7 rfl rfl (by kernel_rfl) trivial (pu_assign rfl) ?_
              refine Rg.end (by kernel_rfl) ?_
              refine Gs.then_n ?_
              refine Gs.ret ?_
              exact Gs.fin2 Tryz.results11 rfl rfl _ (⟨_, _, by rw [hfn], rfl⟩) (by repeat constructor)
            · skip
              rintro _ _ ⟨a58, rfl, rfl⟩
              refine Rg.one (by kernel_rfl) (Stp.ac 1 rfl rfl (by kernel_rfl) trivial (ac_copy et_27 ek_35 rfl rfl (SrcH.sl Tryz.underlying27 ek_35 (SlH.own (xs := rs) (E := 35) (enc := recC) (by repeat constructor))) (by first | omega | (simp; omega)) (by first | omega | (simp; omega)))  ?_)
              rintro _ _ ⟨a55, c55, rfl, rfl⟩
              refine Rg.one (by kernel_rfl) (Stp.ac 5 rfl rfl (by kernel_rfl) trivial (ac_append (xs := rs) (ys := [x.r]) et_27 ek_35 rfl rfl (by repeat constructor) (SrcH.sl Tryz.underlying27 ek_35 (SlH.own (by repeat constructor))) (by first | omega | (simp; omega)) (by first | omega | (simp; omega)))  ?_)
              rintro _ _ ⟨a59, c59, rfl, rfl⟩
              rw [← hfr]
              refine Rg.pu 6 rfl rfl (by kernel_rfl) trivial (pu_assign rfl) ?_
              refine Rg.pu 7 rfl rfl (by kernel_rfl) trivial (pu_assign rfl) ?_
              refine Rg.end (by kernel_rfl) ?_
              refine Gs.then_n ?_
              refine Gs.ret ?_
              exact Gs.fin2 Tryz.results11 rfl rfl _ (⟨_, _, by rw [hfn], rfl⟩) (by repeat constructor)
theorem IxIs.follow {rs : List Rec} {s s' : PL × PW} {x : ActI} (h : IxIs (if x.d then dropR rs x.r.key else putR rs x.r) s') : IxIs (followR rs x) s' := h
theorem IxIs.differ {rs rs' : List Rec} {s s' : PL × PW} (h : IxIs rs s) (h' : IxIs rs' s') (hl : rs.length ≠ rs'.length) : Ix.sameB s s' = false := by
  unfold Ix.sameB
  rw [decide_eq_false, Bool.false_and]
  intro e
  have := congrArg List.length e
  rw [sortK_length, sortK_length, List.length_map, List.length_map, h.wlen, h'.wlen] at this
  exact hl this
theorem IxIs.sorted {rs rs' : List Rec} {s s' : PL × PW} (h : IxIs rs s) (h' : IxIs rs' s') (hp : ∀ r, r ∈ rs ↔ r ∈ rs') : sortB (mkeys s.1) = sortB (mkeys s'.1) :=
  sortB_of_perm (mkeys_of h.ln h'.ln (h.same h' hp).1)
theorem dropR_lt {rs : List Rec} {r : Rec} (h : r ∈ rs) : (dropR rs r.key).length < rs.length :=
  List.length_filter_lt_length_iff_exists.2 ⟨r, h, by simp⟩
theorem may_follow {rs : List Rec} (h : ∀ r ∈ rs, recB r = true) (x : ActI) : ∀ r ∈ followR rs x, recB r = true := fun r hr => by
  unfold followR at hr
  split at hr
  · exact h r (List.mem_filter.1 hr).1
  · unfold putR at hr
    split at hr
    · rename_i e
      rcases List.mem_append.1 hr with hr | hr
      · exact h r hr
      · rw [List.mem_singleton.1 hr]
        simp only [Bool.and_eq_true] at e; exact e.1
    · exact h r hr
theorem anew_spec {h0 : Hp} (T : TabX h0) {a : Option Addr} {c : Nat} {xs : List ActI} (hx : slR h0 6 actI a xs) (hxl : xs.length ≤ 9223372036854775807) :
    Ct Tryz.prog 4 [.slice a xs.length c] [ro h0] (fun v hs => v = .bool true ∧ hs = [ro h0]) := by
  refine Ct.intro Tryz.func4 rfl (by kernel_rfl) 105 Tryz.ntmps4 (Nat.le_of_ble_eq_true rfl) fun w0 R => ?_
  refine Gs.slAddr ((Srd.ro hx).h (by repeat constructor)) fun ab ao ha => ?_
  refine Gs.seq ?_
  refine Gs.reg ?_
  refine Go.Sl.L.pu rfl rfl trivial (pu_assign rfl) ?_
  refine Go.Sl.L.nil ?_
  refine Gs.then_n ?_
  refine Gs.seq ?_
  refine Gs.seq ?_
  refine Gs.reg ?_
  refine Go.Sl.L.pu rfl rfl trivial (pu_move rfl) ?_
  refine Go.Sl.L.ac rfl rfl trivial (as_call (great_spec (Srd.ro hx) hxl 40) (by repeat constructor) (by repeat constructor)) ?_
  rintro _ _ ⟨_, ⟨⟨g, rfl, hg⟩, rfl⟩, rfl⟩
  refine Go.Sl.L.nil ?_
  refine Gs.then_n ?_
  refine Gs.cond rfl (fun hc0 => ?_) (fun hc0 => ?_)
  · skip
    refine Gs.seq ?_
    refine Gs.reg ?_
    refine Go.Sl.L.ac rfl rfl trivial (as_call (awake_spec T) (by repeat constructor) (by repeat constructor)) ?_
    rintro _ _ ⟨_, ⟨rfl, rfl⟩, rfl⟩
    refine Go.Sl.L.pu rfl rfl trivial (pu_assign rfl) ?_
    refine Go.Sl.L.nil ?_
    refine Gs.then_n ?_
    refine Gs.ret ?_
    refine Gs.then_r ?_
    exact Gs.fin1 Tryz.results4 rfl _ (⟨rfl, rfl⟩) (by repeat constructor)
  · skip
    have hxs : xs.length ≤ 40 := by have := hg hc0; omega
    refine Gs.skip ?_
    refine Gs.then_n ?_
    refine Gs.seq ?_
    refine Gs.reg ?_
    refine Go.Sl.L.ac rfl rfl trivial (as_call (new_spec) (by repeat constructor) (by repeat constructor)) ?_
    rintro _ _ ⟨_, ⟨x, rfl, rfl⟩, rfl⟩
    refine Go.Sl.L.ac rfl rfl trivial (as_call (new_spec) (by repeat constructor) (by repeat constructor)) ?_
    rintro _ _ ⟨_, ⟨y, rfl, rfl⟩, rfl⟩
    refine Go.Sl.L.pu rfl rfl trivial (pu_assign rfl) ?_
    refine Go.Sl.L.pu rfl rfl trivial (pu_assign rfl) ?_
    refine Go.Sl.L.nil ?_
    refine Gs.then_n ?_
    refine Gs.seq ?_
    refine Gs.seq ?_
    refine Gs.reg ?_
    refine Go.Sl.L.pu rfl rfl trivial (pu_move rfl) ?_
    refine Go.Sl.L.pu rfl rfl trivial (pu_eqN Tryz.underlying25 rfl rfl) ?_
    refine Go.Sl.L.puBf rfl rfl trivial (pu_move rfl) rfl ?_
    refine Go.Sl.L.pu rfl rfl ⟨_, rfl, rfl⟩ (pu_move rfl) ?_
    refine Go.Sl.L.pu rfl rfl ⟨_, rfl, rfl⟩ (pu_eqN Tryz.underlying25 rfl rfl) ?_
    refine Go.Sl.L.pu rfl rfl trivial (by first | exact pu_pick_t rfl rfl | exact pu_pick_f rfl rfl) ?_
    refine Go.Sl.L.nil ?_
    refine Gs.then_n ?_
    refine Gs.cond_ff rfl rfl ?_
    refine Gs.skip ?_
    refine Gs.then_n ?_
    refine Gs.seq ?_
    refine Gs.reg ?_
    refine Go.Sl.L.pu rfl rfl trivial (pu_assign rfl) ?_
    refine Go.Sl.L.nil ?_
    refine Gs.slNil 35 5 recC ?_
    refine Gs.then_n ?_
    refine Gs.seq ?_
    refine Gs.seq ?_
    refine Gs.reg ?_
    refine Go.Sl.L.pu rfl rfl trivial (pu_assign rfl) ?_
    refine Go.Sl.L.nil ?_
    refine Gs.then_n ?_
    refine Gs.block ?_
    refine Gs.loop1 (fun s : Nat × (Option Addr × Nat) × List Rec × List (ByteArray × SlV PostV) × List (Key × SlV ByteArray) => s.1 ≤ xs.length ∧ IxIs s.2.2.1 (plL s.2.2.2.1, plW s.2.2.2.2) ∧ s.2.2.1.length ≤ s.1 ∧ ∀ r ∈ s.2.2.1, recB r = true) (fun s => [(0, .slice a xs.length c), (3, ptr x), (4, ptr y), (5, .slice s.2.1.1 s.2.2.1.length s.2.1.2), (6, int s.1)]) (fun s => [ixA x s.2.2.2.1 s.2.2.2.2, ixA y [] [], sl 35 5 recC s.2.1.1 s.2.1.2 s.2.2.1, ro h0] ++ R) (fun s => xs.length - s.1) (0, (none, 0), [], [], []) (⟨Nat.zero_le _, IxIs.nil, Nat.zero_le _, fun _ h => (by cases h)⟩) (by repeat constructor) (by repeat constructor) (fun s hs => ?_)
    obtain ⟨i, ⟨ra, rc⟩, rs, L, W⟩ := s
    obtain ⟨hi, hL, hrl, hmay⟩ := hs
    dsimp only at hi hL hrl hmay ⊢
    have hsh := hL.short
    have hll := hL.llen
    have hwl := hL.rlen
    refine Gs.seq ?_
    refine Gs.seq ?_
    refine Gs.reg ?_
    refine Go.Sl.L.pu rfl rfl trivial (pu_move rfl) ?_
    refine Go.Sl.L.pu rfl rfl trivial (pu_move rfl) ?_
    refine Go.Sl.L.pu rfl rfl trivial (pu_len Tryz.underlying22 rfl) ?_
    refine Go.Sl.L.pu rfl rfl trivial (pu_lt rfl rfl) ?_
    refine Go.Sl.L.nil ?_
    refine Gs.then_n ?_
    refine Gs.cond rfl (fun hc2 => ?_) (fun hc2 => ?_)
    · skip
      have hlt : i < xs.length := by have := of_decide_eq_true hc2; omega
      obtain ⟨z, hz⟩ : ∃ z, xs[i]? = some z := ⟨xs[i], by simp [hlt]⟩
      obtain rfl := ha (by rintro rfl; simp at hlt)
      have hfl := followR_len rs z
      refine Gs.skip ?_
      refine Gs.then_n ?_
      refine Gs.seq ?_
      refine Gs.block ?_
      refine Gs.seq ?_
      refine Gs.reg ?_
      refine Go.Sl.L.pu rfl rfl trivial (pu_move rfl) ?_
      refine Go.Sl.L.pu rfl rfl trivial (pu_move rfl) ?_
      refine Go.Sl.L.pu rfl rfl trivial (pu_move rfl) ?_
      refine Go.Sl.L.pu rfl rfl trivial (pu_ia se_22 rfl rfl (by omega) (by omega)) ?_
      refine Go.Sl.L.rd rfl rfl trivial (rd_lda ag_37 rfl (Rdc.el0 ((Srd.ro hx).h (by repeat constructor)) hz rfl rfl) rfl) ?_
      refine Go.Sl.L.ac rfl rfl trivial (as_call (followI_spec T.1 (a := ra) (c := rc) hL.keys (by omega) z) (by repeat constructor) (by repeat constructor)) ?_
      rintro _ _ ⟨_, ⟨ra2, rc2, rfl, rfl⟩, rfl⟩
      refine Go.Sl.L.pu rfl rfl trivial (pu_move rfl) ?_
      refine Go.Sl.L.pu rfl rfl trivial (pu_extract rfl rfl) ?_
      refine Go.Sl.L.pu rfl rfl trivial (pu_extract rfl rfl) ?_
      refine Go.Sl.L.pu rfl rfl trivial (pu_assign rfl) ?_
      refine Go.Sl.L.nil ?_
      refine Gs.then_n ?_
      refine Gs.seq ?_
      refine Gs.reg ?_
      refine Go.Sl.L.pu rfl rfl trivial (pu_move rfl) ?_
      refine Go.Sl.L.pu rfl rfl trivial (pu_move rfl) ?_
      refine Go.Sl.L.pu rfl rfl trivial (pu_ia se_22 rfl rfl (by omega) (by omega)) ?_
      refine Go.Sl.L.pu rfl rfl trivial (pu_fa fa_37_0 rfl) ?_
      refine Go.Sl.L.rd rfl rfl trivial (rd_ld na_4 rfl (Rdc.elp (f := 0) 1 ((Srd.ro hx).h (by repeat constructor)) hz rfl rfl)) ?_
      refine Go.Sl.L.nil ?_
      refine Gs.then_n ?_
      refine Gs.cond rfl (fun hc3 => ?_) (fun hc3 => ?_)
      · skip
        refine Gs.reg ?_
        refine Go.Sl.L.pu rfl rfl trivial (pu_move rfl) ?_
        refine Go.Sl.L.pu rfl rfl trivial (pu_move rfl) ?_
        refine Go.Sl.L.pu rfl rfl trivial (pu_move rfl) ?_
        refine Go.Sl.L.pu rfl rfl trivial (pu_ia se_22 rfl rfl (by omega) (by omega)) ?_
        refine Go.Sl.L.pu rfl rfl trivial (pu_fa fa_37_1 rfl) ?_
        refine Go.Sl.L.pu rfl rfl trivial (pu_fa fa_35_0 rfl) ?_
        refine Go.Sl.L.rd rfl rfl trivial (rd_lda ag_31 rfl (Rdc.elp (f := 1) 2 ((Srd.ro hx).h (by repeat constructor)) hz rfl rfl) rfl) ?_
        refine Go.Sl.L.ac rfl rfl trivial (ac_lit encC_31 ([z.r.key]) et_47 ek_31 rfl (by repeat constructor) rfl rfl (by decide)) ?_
        rintro _ _ ⟨a46, rfl, rfl⟩
        refine Go.Sl.L.ac rfl rfl trivial (as_call (drop_spec x L W (ks := [z.r.key]) Srd.own (Nat.le_of_ble_eq_true rfl)) (by repeat constructor) (by repeat constructor)) ?_
        rintro _ _ ⟨_, ⟨n, L2, W2, rfl, hd, rfl⟩, rfl⟩
        refine Go.Sl.L.nil ?_
        have hL2 : IxIs (followR rs z) (plL L2, plW W2) := by
          obtain ⟨s3, hd3, h3⟩ := hL.dropK z.r.key 0
          have e := hd.trans hd3
          have e1 : plL L2 = s3.1 := congrArg (fun z => z.1) e
          have e2 : plW W2 = s3.2 := congrArg (fun z => z.2.1) e
          unfold followR
          rw [show z.d = true from hc3, if_pos rfl, e1, e2]; exact h3
        refine Gs.blk_n ?_
        refine Gs.then_n ?_
        refine Gs.reg ?_
        refine Go.Sl.L.pu rfl rfl trivial (pu_move rfl) ?_
        refine Go.Sl.L.pu rfl rfl trivial (by first | exact pu_addI rfl rfl rfl (by omega) (by omega) | exact pu_add rfl rfl) ?_
        refine Go.Sl.L.pu rfl rfl trivial (pu_assign rfl) ?_
        refine Go.Sl.L.nil ?_
        refine Gs.then_n ?_
        exact Gs.again1 (i + 1, (ra2, rc2), followR rs z, L2, W2) ⟨hlt, hL2, by show (followR rs z).length ≤ i + 1; omega, may_follow hmay z⟩ (by show xs.length - (i + 1) < xs.length - i; omega) (by repeat constructor) (by repeat constructor)
      · skip
        refine Gs.reg ?_
        refine Go.Sl.L.pu rfl rfl trivial (pu_move rfl) ?_
        refine Go.Sl.L.pu rfl rfl trivial (pu_move rfl) ?_
        refine Go.Sl.L.pu rfl rfl trivial (pu_move rfl) ?_
        refine Go.Sl.L.pu rfl rfl trivial (pu_ia se_22 rfl rfl (by omega) (by omega)) ?_
        refine Go.Sl.L.pu rfl rfl trivial (pu_fa fa_37_1 rfl) ?_
        refine Go.Sl.L.rd rfl rfl trivial (rd_lda ag_35 rfl (Rdc.elp (f := 1) 5 ((Srd.ro hx).h (by repeat constructor)) hz rfl rfl) rfl) ?_
        refine Go.Sl.L.ac rfl rfl trivial (as_call (put_spec T x L W z.r (fun p hp => by have := hsh p hp; omega)) (by repeat constructor) (by repeat constructor)) ?_
        rintro _ _ ⟨_, ⟨L2, W2, rfl, hp, rfl⟩, rfl⟩
        refine Go.Sl.L.nil ?_
        have hL2 : IxIs (followR rs z) (plL L2, plW W2) := by
          unfold followR
          rw [show z.d = false from hc3, if_neg (by decide)]; exact hL.putI hp
        refine Gs.blk_n ?_
        refine Gs.then_n ?_
        refine Gs.reg ?_
        refine Go.Sl.L.pu rfl rfl trivial (pu_move rfl) ?_
        refine Go.Sl.L.pu rfl rfl trivial (by first | exact pu_addI rfl rfl rfl (by omega) (by omega) | exact pu_add rfl rfl) ?_
        refine Go.Sl.L.pu rfl rfl trivial (pu_assign rfl) ?_
        refine Go.Sl.L.nil ?_
        refine Gs.then_n ?_
        exact Gs.again1 (i + 1, (ra2, rc2), followR rs z, L2, W2) ⟨hlt, hL2, by show (followR rs z).length ≤ i + 1; omega, may_follow hmay z⟩ (by show xs.length - (i + 1) < xs.length - i; omega) (by repeat constructor) (by repeat constructor)
    · skip
      have hge : i = xs.length := by have := of_decide_eq_false hc2; omega
      refine Gs.exit ?_
      refine Gs.then_x ?_
      refine Gs.then_x ?_
      refine Gs.blk_hit ?_
      refine Gs.then_n ?_
      refine Gs.seq ?_
      refine Gs.seq ?_
      refine Gs.slAddr (xs := rs) (SlH.own (E := 35) (enc := recC) (a := ra) (c := rc) (by repeat constructor)) fun rb ro' hra => ?_
      refine Gs.reg ?_
      refine Go.Sl.L.pu rfl rfl trivial (pu_move rfl) ?_
      refine Go.Sl.L.pu rfl rfl trivial (pu_len Tryz.underlying27 rfl) ?_
      refine Go.Sl.L.pu rfl rfl trivial (pu_subI (z := (rs.length : Int) - 1) rfl rfl rfl (by omega) (by omega)) ?_
      refine Go.Sl.L.pu rfl rfl trivial (pu_assign rfl) ?_
      refine Go.Sl.L.nil ?_
      refine Gs.then_n ?_
      refine Gs.block ?_
      refine Gs.loop1 (fun s : Nat × List (ByteArray × SlV PostV) × List (Key × SlV ByteArray) => s.1 ≤ rs.length ∧ IxIs (rs.drop s.1).reverse (plL s.2.1, plW s.2.2)) (fun s => [(0, .slice a xs.length c), (3, ptr x), (4, ptr y), (5, .slice ra rs.length rc), (7, int ((s.1 : Int) - 1))]) (fun s => [ixA x L W, ixA y s.2.1 s.2.2, sl 35 5 recC ra rc rs, ro h0] ++ R) (fun s => s.1) (rs.length, [], []) (⟨Nat.le_refl _, by rw [List.drop_length]; exact IxIs.nil⟩) (by repeat constructor) (by repeat constructor) (fun s hs1 => ?_)
      obtain ⟨m, L1, W1⟩ := s
      obtain ⟨hm, hL1⟩ := hs1
      dsimp only at hm hL1 ⊢
      have hsh1 := hL1.short
      have hll1 := hL1.llen
      have hwl1 := hL1.rlen
      rw [List.length_reverse, List.length_drop] at hsh1 hll1 hwl1
      refine Gs.seq ?_
      refine Gs.seq ?_
      refine Gs.reg ?_
      refine Go.Sl.L.pu rfl rfl trivial (pu_move rfl) ?_
      refine Go.Sl.L.pu rfl rfl trivial (pu_ge rfl rfl) ?_
      refine Go.Sl.L.nil ?_
      refine Gs.then_n ?_
      refine Gs.cond rfl (fun hc4 => ?_) (fun hc4 => ?_)
      · skip
        have hm1 : 1 ≤ m := by have := of_decide_eq_true hc4; omega
        obtain ⟨r, hr⟩ : ∃ z, rs[m - 1]? = some z := ⟨rs[m - 1]'(by omega), by first | (simp; omega) | simp⟩
        obtain rfl := hra (by rintro rfl; simp at hr)
        rw [show (m : Int) - 1 = ((m - 1 : Nat) : Int) by omega]
        have hrb := hmay r (List.mem_of_getElem? hr)
        have hrv : (rs.drop (m - 1)).reverse = (rs.drop m).reverse ++ [r] := by
          have hlt := (List.getElem?_eq_some_iff.1 hr).1
          rw [List.drop_eq_getElem_cons hlt, (List.getElem?_eq_some_iff.1 hr).2, List.reverse_cons, Nat.sub_add_cancel hm1]
        have hkn : r.key ∉ (rs.drop m).reverse.map Rec.key := by
          have hnd := hL.keys
          have hsub : ((rs.drop (m - 1)).map Rec.key).Nodup := List.Nodup.sublist ((List.drop_sublist _ _).map _) hnd
          have hlt := (List.getElem?_eq_some_iff.1 hr).1
          rw [List.drop_eq_getElem_cons hlt, (List.getElem?_eq_some_iff.1 hr).2, Nat.sub_add_cancel hm1] at hsub
          have := (List.nodup_cons.1 hsub).1
          rw [List.map_reverse]; intro hc; exact this (List.mem_reverse.1 hc)
        have hn0 : putN (plW W1) r = 0 := by rw [show plW W1 = (plL L1, plW W1).2 from rfl, hL1.putN, if_pos hrb, if_neg hkn]
        refine Gs.skip ?_
        refine Gs.then_n ?_
        refine Gs.seq ?_
        refine Gs.block ?_
        refine Gs.seq ?_
        refine Gs.reg ?_
        refine Go.Sl.L.pu rfl rfl trivial (pu_move rfl) ?_
        refine Go.Sl.L.pu rfl rfl trivial (pu_move rfl) ?_
        refine Go.Sl.L.pu rfl rfl trivial (pu_move rfl) ?_
        refine Go.Sl.L.pu rfl rfl trivial (pu_ia se_27 rfl rfl (by omega) (by omega)) ?_
        refine Go.Sl.L.rd rfl rfl trivial (rd_lda ag_35 rfl (Rdc.el0 (SlH.own (xs := rs) (E := 35) (enc := recC) (sz := 5) (by repeat constructor)) hr rfl rfl) rfl) ?_
        refine Go.Sl.L.ac rfl rfl trivial (as_call (put_spec T y L1 W1 r (fun p hp => by have := hsh1 p hp; omega)) (by repeat constructor) (by repeat constructor)) ?_
        rintro _ _ ⟨_, ⟨L2, W2, rfl, hp, rfl⟩, rfl⟩
        refine Go.Sl.L.pu rfl rfl trivial (pu_ne rfl rfl) ?_
        refine Go.Sl.L.nil ?_
        rw [hn0]
        have hL2 : IxIs (rs.drop (m - 1)).reverse (plL L2, plW W2) := by
          have := hL1.putI hp
          unfold putR at this
          rw [if_pos (by simp only [Bool.and_eq_true, decide_eq_true_eq]; exact ⟨hrb, hkn⟩)] at this
          rw [hrv]; exact this
        refine Gs.then_n ?_
        refine Gs.cond_ff rfl rfl ?_
        refine Gs.skip ?_
        refine Gs.blk_n ?_
        refine Gs.then_n ?_
        refine Gs.reg ?_
        refine Go.Sl.L.pu rfl rfl trivial (pu_move rfl) ?_
        refine Go.Sl.L.pu rfl rfl trivial (pu_subI (z := ((m - 1 : Nat) : Int) - 1) rfl rfl rfl (by omega) (by omega)) ?_
        refine Go.Sl.L.pu rfl rfl trivial (pu_assign rfl) ?_
        refine Go.Sl.L.nil ?_
        refine Gs.then_n ?_
        exact Gs.again1 (m - 1, L2, W2) ⟨by show m - 1 ≤ rs.length; omega, hL2⟩ (by show m - 1 < m; omega) (by repeat constructor) (by repeat constructor)
      · skip
        have hm0 : m = 0 := by have := of_decide_eq_false hc4; omega
        subst hm0
        rw [List.drop_zero] at hL1
        have hmem : ∀ r, r ∈ rs ↔ r ∈ rs.reverse := fun r => List.mem_reverse.symm
        have hs1 := hL.sameB hL1 hmem
        have hs2 := hL1.sameB hL fun r => (hmem r).symm
        have hws := hL.sorted hL1 hmem
        have hlm := hL.llen
        have hlm1 := hL1.llen
        have hwm := hL.rlen
        have hwm1 := hL1.rlen
        rw [List.length_reverse] at hlm1 hwm1
        refine Gs.exit ?_
        refine Gs.then_x ?_
        refine Gs.then_x ?_
        refine Gs.blk_hit ?_
        refine Gs.then_n ?_
        refine Gs.seq ?_
        refine Gs.seq ?_
        refine Gs.reg ?_
        refine Go.Sl.L.pu rfl rfl trivial (pu_move rfl) ?_
        refine Go.Sl.L.pu rfl rfl trivial (pu_move rfl) ?_
        refine Go.Sl.L.ac rfl rfl trivial (as_call (same_spec x y L L1 W W1 (by omega) (by omega) (by omega)) (by repeat constructor) (by repeat constructor)) ?_
        rintro _ _ ⟨_, ⟨rfl, rfl⟩, rfl⟩
        rw [hs1]
        refine Go.Sl.L.pu rfl rfl trivial (pu_not rfl) ?_
        refine Go.Sl.L.puBf rfl rfl trivial (pu_move rfl) rfl ?_
        refine Go.Sl.L.pu rfl rfl ⟨_, rfl, rfl⟩ (pu_move rfl) ?_
        refine Go.Sl.L.pu rfl rfl ⟨_, rfl, rfl⟩ (pu_move rfl) ?_
        refine Go.Sl.L.ac rfl rfl ⟨_, rfl, rfl⟩ (as_call (same_spec y x L1 L W1 W (by omega) (by omega) (by omega)) (by repeat constructor) (by repeat constructor)) ?_
        rintro _ _ ⟨_, ⟨rfl, rfl⟩, rfl⟩
        rw [hs2]
        refine Go.Sl.L.pu rfl rfl ⟨_, rfl, rfl⟩ (pu_not rfl) ?_
        refine Go.Sl.L.pu rfl rfl trivial (by first | exact pu_pick_t rfl rfl | exact pu_pick_f rfl rfl) ?_
        refine Go.Sl.L.puBf rfl rfl trivial (pu_move rfl) rfl ?_
        refine Go.Sl.L.pu rfl rfl ⟨_, rfl, rfl⟩ (pu_move rfl) ?_
        refine Go.Sl.L.ac rfl rfl ⟨_, rfl, rfl⟩ (as_call (words_spec x L W (by omega)) (by repeat constructor) (by repeat constructor)) ?_
        rintro _ _ ⟨_, ⟨wa, wc, rfl, rfl⟩, rfl⟩
        refine Go.Sl.L.pu rfl rfl ⟨_, rfl, rfl⟩ (pu_move rfl) ?_
        refine Go.Sl.L.ac rfl rfl ⟨_, rfl, rfl⟩ (as_call (words_spec y L1 W1 (by omega)) (by repeat constructor) (by repeat constructor)) ?_
        rintro _ _ ⟨_, ⟨va, vc, rfl, rfl⟩, rfl⟩
        rw [show sortB (mkeys L) = sortB (mkeys L1) by rw [← mkeys_plL, ← mkeys_plL]; exact hws]
        refine Go.Sl.L.ac rfl rfl ⟨_, rfl, rfl⟩ (as_call (sameTexts_spec (xs := sortB (mkeys L1)) (ys := sortB (mkeys L1)) Srd.own Srd.own (by rw [sortB_length, List.length_map]; omega)) (by repeat constructor) (by repeat constructor)) ?_
        rintro _ _ ⟨_, ⟨rfl, rfl⟩, rfl⟩
        rw [decide_eq_true (rfl : sortB (mkeys L1) = sortB (mkeys L1))]
        refine Go.Sl.L.pu rfl rfl ⟨_, rfl, rfl⟩ (pu_not rfl) ?_
        refine Go.Sl.L.pu rfl rfl trivial (by first | exact pu_pick_t rfl rfl | exact pu_pick_f rfl rfl) ?_
        refine Go.Sl.L.nil ?_
        refine Gs.then_n ?_
        refine Gs.cond_ff rfl rfl ?_
        refine Gs.skip ?_
        refine Gs.then_n ?_
        refine Gs.seq ?_
        refine Gs.seq ?_
        refine Gs.reg ?_
        refine Go.Sl.L.pu rfl rfl trivial (pu_move rfl) ?_
        refine Go.Sl.L.pu rfl rfl trivial (pu_len Tryz.underlying27 rfl) ?_
        refine Go.Sl.L.pu rfl rfl trivial (pu_gt rfl rfl) ?_
        refine Go.Sl.L.nil ?_
        refine Gs.then_n ?_
        refine Gs.cond rfl (fun hc7 => ?_) (fun hc7 => ?_)
        · skip
          have hpos : 0 < rs.length := by have := of_decide_eq_true hc7; omega
          obtain ⟨r, hr⟩ : ∃ z, rs[0]? = some z := ⟨rs[0], by simp [hpos]⟩
          obtain rfl := hra (by rintro rfl; simp at hpos)
          have hdl := dropR_lt (rs := rs.reverse) (r := r) (List.mem_reverse.2 (List.mem_of_getElem? hr))
          rw [List.length_reverse] at hdl
          refine Gs.seq ?_
          refine Gs.reg ?_
          refine Go.Sl.L.pu rfl rfl trivial (pu_move rfl) ?_
          refine Go.Sl.L.pu rfl rfl trivial (pu_move rfl) ?_
          refine Go.Sl.L.pu rfl rfl trivial (pu_ia se_27 rfl rfl (by omega) (by omega)) ?_
          refine Go.Sl.L.pu rfl rfl trivial (pu_fa fa_35_0 rfl) ?_
          refine Go.Sl.L.rd rfl rfl trivial (rd_lda ag_31 rfl (Rdc.elp (f := 0) 2 (SlH.own (xs := rs) (E := 35) (enc := recC) (sz := 5) (by repeat constructor)) hr rfl rfl) rfl) ?_
          refine Go.Sl.L.ac rfl rfl trivial (ac_lit encC_31 ([r.key]) et_47 ek_31 rfl (by repeat constructor) rfl rfl (by decide)) ?_
          rintro _ _ ⟨a95, rfl, rfl⟩
          refine Go.Sl.L.ac rfl rfl trivial (as_call (drop_spec y L1 W1 (ks := [r.key]) Srd.own (Nat.le_of_ble_eq_true rfl)) (by repeat constructor) (by repeat constructor)) ?_
          rintro _ _ ⟨_, ⟨n, L3, W3, rfl, hd, rfl⟩, rfl⟩
          refine Go.Sl.L.nil ?_
          have hL3 : IxIs (dropR rs.reverse r.key) (plL L3, plW W3) := by
            obtain ⟨s3, hd3, h3⟩ := hL1.dropK r.key 0
            have e := hd.trans hd3
            have e1 : plL L3 = s3.1 := congrArg (fun z => z.1) e
            have e2 : plW W3 = s3.2 := congrArg (fun z => z.2.1) e
            rw [e1, e2]; exact h3
          have hl3 := hL3.llen
          have hw3 := hL3.rlen
          have hdf := hL.differ hL3 (by omega)
          refine Gs.then_n ?_
          refine Gs.seq ?_
          refine Gs.reg ?_
          refine Go.Sl.L.pu rfl rfl trivial (pu_move rfl) ?_
          refine Go.Sl.L.pu rfl rfl trivial (pu_move rfl) ?_
          refine Go.Sl.L.ac rfl rfl trivial (as_call (same_spec x y L L3 W W3 (by omega) (by omega) (by omega)) (by repeat constructor) (by repeat constructor)) ?_
          rintro _ _ ⟨_, ⟨rfl, rfl⟩, rfl⟩
          rw [hdf]
          refine Go.Sl.L.pu rfl rfl trivial (pu_not rfl) ?_
          refine Go.Sl.L.puBt rfl rfl trivial (pu_move rfl) rfl ?_
          refine Go.Sl.L.ac rfl rfl ⟨_, rfl, rfl⟩ (as_call (awake_spec T) (by repeat constructor) (by repeat constructor)) ?_
          rintro _ _ ⟨_, ⟨rfl, rfl⟩, rfl⟩
          refine Go.Sl.L.pu rfl rfl trivial (by first | exact pu_pick_t rfl rfl | exact pu_pick_f rfl rfl) ?_
          refine Go.Sl.L.pu rfl rfl trivial (pu_assign rfl) ?_
          refine Go.Sl.L.nil ?_
          refine Gs.then_n ?_
          refine Gs.ret ?_
          refine Gs.then_r ?_
          exact Gs.fin1 Tryz.results4 rfl _ (⟨rfl, rfl⟩) (by repeat constructor)
        · skip
          refine Gs.skip ?_
          refine Gs.then_n ?_
          refine Gs.seq ?_
          refine Gs.reg ?_
          refine Go.Sl.L.ac rfl rfl trivial (as_call (awake_spec T) (by repeat constructor) (by repeat constructor)) ?_
          rintro _ _ ⟨_, ⟨rfl, rfl⟩, rfl⟩
          refine Go.Sl.L.pu rfl rfl trivial (pu_assign rfl) ?_
          refine Go.Sl.L.nil ?_
          refine Gs.then_n ?_
          refine Gs.ret ?_
          exact Gs.fin1 Tryz.results4 rfl _ (⟨rfl, rfl⟩) (by repeat constructor)
end Go.Proofs.YtmbikfojljnnkaaGreatDoor
