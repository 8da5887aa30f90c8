/- Walks: ledger.Sync, Segments, Loose. -/
import Derived.Test.YtjaafkakeccniaaGreatDoorLgu
namespace Go.Proofs.YtjaafkakeccniaaGreatDoor
open Go Go.Sl Go.Gv Go.Dv Go.Bst
set_option maxRecDepth 100000
theorem take_names {P : List PaV} {i : Nat} {x : PaV} (h : P[i]? = some x) : (P.take (i + 1)).map (fun x => x.p.n) = (P.take i).map (fun x => x.p.n) ++ [x.p.n] := by
  rw [List.take_add_one, h]; simp
theorem lgSync_spec {b d : Nat} {n most : Int} {made : Nat} {ps : List Pa} {D : List Fl} (hps : ps.length ≤ 1000) :
    Ct Tryz.prog 19 [ptr b] [lgr b d n ⟨made, ps⟩, drv d most D]
      (fun v hs => v = int (syncE D (ps.map Pa.n)) ∧ hs = [lgr b d n ⟨made, ps⟩, drv d most (if syncE D (ps.map Pa.n) = 0 then syncL D (ps.map Pa.n) else D)]) := by
  refine Ct.intro Tryz.func19 rfl (by kernel_rfl) 29 Tryz.ntmps19 (Nat.le_of_ble_eq_true rfl) fun w0 R => ?_
  refine Gs.lgOpen (b := b) (d := d) (n := n) (made := made) (ps := ps) (by repeat constructor) fun pa pc P hP => ?_
  have hPl : P.length = ps.length := by rw [← hP, List.length_map]
  have hnm : P.map (fun x => x.p.n) = ps.map Pa.n := by rw [← hP, List.map_map]; rfl
  refine Gs.slAddr (xs := P) (SlH.own (E := 83) (enc := paC) (by repeat constructor)) fun pb po hpa => ?_
  refine Gs.seq ?_
  refine Gs.reg ?_
  refine Go.Sl.L.pu rfl rfl trivial (pu_assign rfl) ?_
  refine Go.Sl.L.nil ?_
  refine Gs.then_n ?_
  refine Gs.seq ?_
  refine Gs.seq ?_
  refine Gs.reg ?_
  refine Go.Sl.L.pu rfl rfl trivial (pu_move rfl) ?_
  refine Go.Sl.L.pu rfl rfl trivial (pu_eqN Tryz.underlying28 rfl rfl) ?_
  refine Go.Sl.L.nil ?_
  refine Gs.then_n ?_
  refine Gs.cond_f rfl ?_
  refine Gs.skip ?_
  refine Gs.then_n ?_
  refine Gs.seq ?_
  refine Gs.reg ?_
  refine Go.Sl.L.pu rfl rfl trivial (pu_assign rfl) ?_
  refine Go.Sl.L.nil ?_
  refine Gs.then_n ?_
  refine Gs.seq ?_
  refine Gs.seq ?_
  refine Gs.reg ?_
  refine Go.Sl.L.pu rfl rfl trivial (pu_move rfl) ?_
  refine Go.Sl.L.pu rfl rfl trivial (by first | exact pu_nil rfl | exact pu_nilF rfl) ?_
  refine Go.Sl.L.pu rfl rfl trivial (pu_fa fa_65_3 rfl) ?_
  refine Go.Sl.L.rd rfl rfl trivial (rd_ld na_63 rfl (Rdc.cl1 (by repeat constructor) rfl)) ?_
  refine Go.Sl.L.pu rfl rfl trivial (pu_len Tryz.underlying63 rfl) ?_
  refine Go.Sl.L.pu rfl rfl trivial (pu_move rfl) ?_
  refine Go.Sl.L.nil ?_
  refine Gs.slNil 9 1 strC ?_
  refine Gs.then_n ?_
  refine Gs.block ?_
  refine Gs.loop1 (fun s : Nat × Option Addr × Nat => s.1 ≤ P.length) (fun s => [(0, ptr b), (3, .slice s.2.1 ((P.take s.1).map fun x => x.p.n).length s.2.2), (11, .slice pa P.length pc), (12, int P.length), (13, int s.1)]) (fun s => [cl b 65 (lgC d n made pa P.length pc), sl 83 3 paC pa pc P, big (P.map topO), sl 9 1 strC s.2.1 s.2.2 ((P.take s.1).map fun x => x.p.n), drv d most D] ++ R) (fun s => P.length - s.1) (0, none, 0) (Nat.zero_le _) (by repeat constructor) (by repeat constructor) (fun s hs => ?_)
  obtain ⟨i, na, nc⟩ := s
  dsimp only at hs ⊢
  have hnl : ((P.take i).map fun x => x.p.n).length ≤ 1000 := by rw [List.length_map, List.length_take]; omega
  refine Gs.seq ?_
  refine Gs.reg ?_
  refine Go.Sl.L.pu rfl rfl trivial (pu_lt rfl rfl) ?_
  refine Go.Sl.L.nil ?_
  refine Gs.then_n ?_
  refine Gs.seq ?_
  refine Gs.cond rfl (fun hc1 => ?_) (fun hc1 => ?_)
  · skip
    have hlt : i < P.length := by have := of_decide_eq_true hc1; omega
    obtain ⟨x, hx⟩ : ∃ x, P[i]? = some x := ⟨P[i], by simp [hlt]⟩
    obtain rfl := hpa (by rintro rfl; simp at hlt)
    refine Gs.skip ?_
    refine Gs.then_n ?_
    refine Gs.seq ?_
    refine Gs.block ?_
    refine Gs.seq ?_
    refine Gs.reg ?_
    refine Go.Sl.L.pu rfl rfl trivial (pu_ia se_63 rfl rfl (by omega) (by omega)) ?_
    refine Go.Sl.L.rd rfl rfl trivial (rd_lda ag_83 rfl (Rdc.el0 (SlH.own (xs := P) (E := 83) (enc := paC) (sz := 3) (by repeat constructor)) hx rfl rfl) rfl) ?_
    refine Go.Sl.L.ac rfl rfl trivial (ac_alloc zv_83 rfl) ?_
    rintro _ _ ⟨b5, rfl, rfl⟩
    refine Go.Sl.L.ac0 rfl trivial (ac_st sz_83 rfl rfl (by repeat constructor) rfl rfl rfl rfl) ?_
    rintro _ _ rfl
    refine Go.Sl.L.nil ?_
    refine Gs.then_n ?_
    refine Gs.reg ?_
    refine Go.Sl.L.pu rfl rfl trivial (pu_move rfl) ?_
    refine Go.Sl.L.pu rfl rfl trivial (pu_fa fa_83_0 rfl) ?_
    refine Go.Sl.L.rd rfl rfl trivial (rd_ld na_9 rfl (Rdc.cl1 (by repeat constructor) rfl)) ?_
    refine Go.Sl.L.ac rfl rfl trivial (ac_lit encC_9 ([x.p.n]) et_66 ek_9 rfl (by repeat constructor) rfl rfl (by decide)) ?_
    rintro _ _ ⟨a20, rfl, rfl⟩
    refine Go.Sl.L.ac rfl rfl trivial (ac_append (xs := (P.take i).map fun x => x.p.n) (ys := [x.p.n]) et_66 ek_9 rfl rfl (by repeat constructor) (SrcH.sl Tryz.underlying66 ek_9 (SlH.own (by repeat constructor))) (by first | omega | (simp; omega)) (by first | omega | (simp; omega))) ?_
    rintro _ _ ⟨a21, c21, rfl, rfl⟩
    rw [← take_names hx]
    refine Go.Sl.L.pu rfl rfl trivial (pu_assign rfl) ?_
    refine Go.Sl.L.nil ?_
    refine Gs.blk_n ?_
    refine Gs.then_n ?_
    refine Gs.reg ?_
    refine Go.Sl.L.pu rfl rfl trivial (by first | exact pu_addI rfl rfl rfl (by omega) (by omega) | exact pu_add rfl rfl) ?_
    refine Go.Sl.L.pu rfl rfl trivial (pu_move rfl) ?_
    refine Go.Sl.L.nil ?_
    refine Gs.then_n ?_
    exact Gs.again1 (i + 1, a21, c21) (by show i + 1 ≤ P.length; omega) (by show P.length - (i + 1) < P.length - i; omega) (by repeat constructor) (by repeat constructor)
  · skip
    have hge : i = P.length := by have := of_decide_eq_false hc1; omega
    rw [hge, List.take_length, hnm]
    refine Gs.exit ?_
    refine Gs.then_x ?_
    refine Gs.then_x ?_
    refine Gs.blk_hit ?_
    refine Gs.then_n ?_
    refine Gs.seq ?_
    refine Gs.reg ?_
    refine Go.Sl.L.pu rfl rfl trivial (pu_move rfl) ?_
    refine Go.Sl.L.pu rfl rfl trivial (by first | exact pu_nil rfl | exact pu_nilF rfl) ?_
    refine Go.Sl.L.pu rfl rfl trivial (pu_fa fa_65_0 rfl) ?_
    refine Go.Sl.L.rd rfl rfl trivial (rd_ld na_26 rfl (Rdc.cl1 (by repeat constructor) rfl)) ?_
    refine Go.Sl.L.pu rfl rfl trivial (pu_move rfl) ?_
    refine Go.Sl.L.ac rfl rfl trivial (as_call (sync_spec (S := sl 9 1 strC na nc (ps.map Pa.n)) d most D Srd.own (by rw [List.length_map]; omega)) (by repeat constructor) (by repeat constructor)) ?_
    rintro _ _ ⟨_, ⟨rfl, rfl⟩, rfl⟩
    refine Go.Sl.L.pu rfl rfl trivial (pu_assign rfl) ?_
    refine Go.Sl.L.nil ?_
    refine Gs.then_n ?_
    refine Gs.ret ?_
    refine Gs.lgClose (b := b) (d := d) (n := n) (made := made) (ps := ps) (P := P) (a := pa) (c := pc) (by repeat constructor) rfl hP ?_
    exact Gs.fin1 Tryz.results19 rfl _ (⟨rfl, rfl⟩) (by repeat constructor)
theorem segments_spec {b d : Nat} {n : Int} {made : Nat} {ps : List Pa} :
    Ct Tryz.prog 18 [ptr b] [lgr b d n ⟨made, ps⟩] (fun v hs => v = int (ps.length : Nat) ∧ hs = [lgr b d n ⟨made, ps⟩]) := by
  refine Ct.intro Tryz.func18 rfl (by kernel_rfl) 10 Tryz.ntmps18 (Nat.le_of_ble_eq_true rfl) fun w0 R => ?_
  refine Gs.lgOpen (b := b) (d := d) (n := n) (made := made) (ps := ps) (by repeat constructor) fun pa pc P hP => ?_
  have hPl : P.length = ps.length := by rw [← hP, List.length_map]
  refine Gs.seq ?_
  refine Gs.reg ?_
  refine Go.Sl.L.pu rfl rfl trivial (pu_assign rfl) ?_
  refine Go.Sl.L.nil ?_
  refine Gs.then_n ?_
  refine Gs.seq ?_
  refine Gs.seq ?_
  refine Gs.reg ?_
  refine Go.Sl.L.pu rfl rfl trivial (pu_move rfl) ?_
  refine Go.Sl.L.pu rfl rfl trivial (pu_eqN Tryz.underlying28 rfl rfl) ?_
  refine Go.Sl.L.nil ?_
  refine Gs.then_n ?_
  refine Gs.cond_f rfl ?_
  refine Gs.skip ?_
  refine Gs.then_n ?_
  refine Gs.seq ?_
  refine Gs.reg ?_
  refine Go.Sl.L.pu rfl rfl trivial (pu_move rfl) ?_
  refine Go.Sl.L.pu rfl rfl trivial (by first | exact pu_nil rfl | exact pu_nilF rfl) ?_
  refine Go.Sl.L.pu rfl rfl trivial (pu_fa fa_65_3 rfl) ?_
  refine Go.Sl.L.rd rfl rfl trivial (rd_ld na_63 rfl (Rdc.cl1 (by repeat constructor) rfl)) ?_
  refine Go.Sl.L.pu rfl rfl trivial (pu_len Tryz.underlying63 rfl) ?_
  refine Go.Sl.L.pu rfl rfl trivial (pu_assign rfl) ?_
  refine Go.Sl.L.nil ?_
  refine Gs.then_n ?_
  refine Gs.ret ?_
  refine Gs.lgClose (b := b) (d := d) (n := n) (made := made) (ps := ps) (P := P) (a := pa) (c := pc) (by repeat constructor) rfl hP ?_
  exact Gs.fin1 Tryz.results18 rfl _ (⟨by rw [hPl], rfl⟩) (by repeat constructor)
/-- How many bytes of a file may be lost; of all files. -/
def looseN (D : List Fl) (nm : ByteArray) : Nat := match lookF D nm with
  | some f => f.b.length - f.s
  | none => 0
def looseAll (D : List Fl) : Nat := (D.map fun f => f.b.length - f.s).sum
theorem loose_eq {most : Int} {D : List Fl} (h : Ok most D) (nm : ByteArray) : looseD D nm = (looseN D nm : Nat) := by
  unfold looseD looseN
  cases hf : lookF D nm with
  | none => rfl
  | some f =>
    obtain ⟨X, Y, e1, -, -, -⟩ := lookF_split h.nd hf
    have := h.firm f (by rw [e1]; simp)
    dsimp only; omega
theorem loose_names {D : List Fl} (hn : (names D).Nodup) : (names D).map (looseN D) = D.map fun f => f.b.length - f.s := by
  simp only [names, List.map_map]
  exact List.map_congr_left fun f hf => by simp only [Function.comp, looseN, lookF_mem hn hf]
theorem loose_sum {D : List Fl} (hn : (names D).Nodup) {ns : List ByteArray} (p : List.Perm ns (names D)) : (ns.map (looseN D)).sum = looseAll D := by
  have := (p.map (looseN D)).sum_nat
  rw [this, loose_names hn]; rfl
theorem loose_le (D : List Fl) : looseAll D ≤ used D := by
  unfold looseAll used
  induction D with
  | nil => simp
  | cons f D ih => simp only [List.map_cons, List.sum_cons]; omega
theorem looseAll_spec {d : Nat} {most : Int} {D : List Fl} (hD : D.length ≤ 900) : Ct Tryz.prog 20 [ptr d] [drv d most D] (fun v hs => v = int (looseAll D : Nat) ∧ hs = [drv d most D]) := by
  refine Ct.intro Tryz.func20 rfl (by kernel_rfl) 20 Tryz.ntmps20 (Nat.le_of_ble_eq_true rfl) fun w0 R => ?_
  refine Gs.drvOk (by repeat constructor) fun hok => ?_
  obtain ⟨ns, hns⟩ : ∃ ns, ns = sortB (names D) := ⟨_, rfl⟩
  have hperm : List.Perm ns (names D) := by rw [hns]; exact sortB_perm _
  have hnl : ns.length ≤ 900 := by rw [hperm.length_eq]; simpa using hD
  have hsum : (ns.map (looseN D)).sum = looseAll D := loose_sum hok.nd hperm
  have hle := loose_le D
  have hroom := hok.room
  have hhi := hok.hi
  refine Gs.seq ?_
  refine Gs.reg ?_
  refine Go.Sl.L.pu rfl rfl trivial (pu_assign rfl) ?_
  refine Go.Sl.L.nil ?_
  refine Gs.then_n ?_
  refine Gs.seq ?_
  refine Gs.reg ?_
  refine Go.Sl.L.pu rfl rfl trivial (pu_assign rfl) ?_
  refine Go.Sl.L.nil ?_
  refine Gs.then_n ?_
  refine Gs.seq ?_
  refine Gs.seq ?_
  refine Gs.reg ?_
  refine Go.Sl.L.pu rfl rfl trivial (pu_move rfl) ?_
  refine Go.Sl.L.ac rfl rfl trivial (as_call (names_spec d most D (by omega)) (by repeat constructor) (by repeat constructor)) ?_
  rintro _ _ ⟨_, ⟨na, nc, rfl, rfl⟩, rfl⟩
  rw [← hns]
  refine Go.Sl.L.pu rfl rfl trivial (pu_len Tryz.underlying66 rfl) ?_
  refine Go.Sl.L.pu rfl rfl trivial (pu_move rfl) ?_
  refine Go.Sl.L.nil ?_
  refine Gs.slAddr (SlH.own (by repeat constructor) : SlH _ _ 1 strC na ns) fun kb ko hka => ?_
  refine Gs.then_n ?_
  refine Gs.block ?_
  refine Gs.loop1 (fun i : Nat => i ≤ ns.length) (fun i => [(0, ptr d), (3, int (((ns.map (looseN D)).take i).sum : Nat)), (7, .slice na ns.length nc), (8, int ns.length), (9, int i)]) (fun i => [drv d most D, sl 9 1 strC na nc ns] ++ R) (fun i => ns.length - i) 0 (Nat.zero_le _) (by repeat constructor) (by repeat constructor) (fun i hi => ?_)
  refine Gs.seq ?_
  refine Gs.reg ?_
  refine Go.Sl.L.pu rfl rfl trivial (pu_lt rfl rfl) ?_
  refine Go.Sl.L.nil ?_
  refine Gs.then_n ?_
  refine Gs.seq ?_
  refine Gs.cond rfl (fun hc0 => ?_) (fun hc0 => ?_)
  · skip
    have hlt : i < ns.length := by have := of_decide_eq_true hc0; omega
    obtain ⟨k, hk⟩ : ∃ k, ns[i]? = some k := ⟨ns[i], by simp [hlt]⟩
    obtain rfl := hka (by rintro rfl; simp at hlt)
    have hst : ((ns.map (looseN D)).take (i + 1)).sum = ((ns.map (looseN D)).take i).sum + looseN D k := sum_take_succ (by rw [List.getElem?_map, hk]; rfl)
    have hb1 := sum_take_le (ns.map (looseN D)) (i + 1)
    have hle1 := loose_eq hok k
    refine Gs.skip ?_
    refine Gs.then_n ?_
    refine Gs.seq ?_
    refine Gs.block ?_
    refine Gs.seq ?_
    refine Gs.reg ?_
    refine Go.Sl.L.pu rfl rfl trivial (pu_ia se_66 rfl rfl (by omega) (by omega)) ?_
    refine Go.Sl.L.rd rfl rfl trivial (rd_ld na_9 rfl (Rdc.el0 (SlH.own (by repeat constructor)) hk rfl rfl)) ?_
    refine Go.Sl.L.pu rfl rfl trivial (pu_assign rfl) ?_
    refine Go.Sl.L.nil ?_
    refine Gs.then_n ?_
    refine Gs.reg ?_
    refine Go.Sl.L.pu rfl rfl trivial (pu_move rfl) ?_
    refine Go.Sl.L.pu rfl rfl trivial (pu_move rfl) ?_
    refine Go.Sl.L.pu rfl rfl trivial (pu_move rfl) ?_
    refine Go.Sl.L.ac rfl rfl trivial (as_call (loose_spec d most D k) (by repeat constructor) (by repeat constructor)) ?_
    rintro _ _ ⟨_, ⟨rfl, rfl⟩, rfl⟩
    rw [hle1]
    refine Go.Sl.L.pu rfl rfl trivial (pu_addI (z := (((ns.map (looseN D)).take (i + 1)).sum : Nat)) rfl rfl (by rw [hst]; omega) (by omega) (by omega)) ?_
    refine Go.Sl.L.pu rfl rfl trivial (pu_assign rfl) ?_
    refine Go.Sl.L.nil ?_
    refine Gs.blk_n ?_
    refine Gs.then_n ?_
    refine Gs.reg ?_
    refine Go.Sl.L.pu rfl rfl trivial (by first | exact pu_addI rfl rfl rfl (by omega) (by omega) | exact pu_add rfl rfl) ?_
    refine Go.Sl.L.pu rfl rfl trivial (pu_move rfl) ?_
    refine Go.Sl.L.nil ?_
    refine Gs.then_n ?_
    exact Gs.again1 (i + 1) (by omega) (by omega) (by repeat constructor) (by repeat constructor)
  · skip
    have hge : i = ns.length := by have := of_decide_eq_false hc0; omega
    have hall : ((ns.map (looseN D)).take i).sum = looseAll D := by rw [List.take_of_length_le (by rw [List.length_map]; omega), hsum]
    rw [hall]
    refine Gs.exit ?_
    refine Gs.then_x ?_
    refine Gs.then_x ?_
    refine Gs.blk_hit ?_
    refine Gs.then_n ?_
    refine Gs.seq ?_
    refine Gs.reg ?_
    refine Go.Sl.L.pu rfl rfl trivial (pu_move rfl) ?_
    refine Go.Sl.L.pu rfl rfl trivial (pu_assign rfl) ?_
    refine Go.Sl.L.nil ?_
    refine Gs.then_n ?_
    refine Gs.ret ?_
    exact Gs.fin1 Tryz.results20 rfl _ (⟨rfl, rfl⟩) (by repeat constructor)
end Go.Proofs.YtjaafkakeccniaaGreatDoor
