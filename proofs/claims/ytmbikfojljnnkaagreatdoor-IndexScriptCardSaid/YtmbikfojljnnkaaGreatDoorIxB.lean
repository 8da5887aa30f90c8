/- Walks: index.Drop. -/
import Derived.Test.YtmbikfojljnnkaaGreatDoorIxA
namespace Go.Ix
open Go Go.Sl Go.Gv Go.Kv Go.Po
section
variable {κ α β : Type} [DecidableEq κ]
/-- A map, its values told otherwise. -/
def mm (f : α → β) (m : List (κ × α)) : List (κ × β) := m.map fun p => (p.1, f p.2)
theorem mm_get (f : α → β) : ∀ (m : List (κ × α)) (k : κ), mget (mm f m) k = (mget m k).map f
  | [], _ => rfl
  | (j, v) :: m, k => by
    show mget ((j, f v) :: mm f m) k = (mget ((j, v) :: m) k).map f
    unfold mget
    split
    · rfl
    · exact mm_get f m k
theorem mm_put (f : α → β) : ∀ (m : List (κ × α)) (k : κ) (v : α), mm f (mput m k v) = mput (mm f m) k (f v)
  | [], _, _ => rfl
  | (j, u) :: m, k, v => by
    show mm f (mput ((j, u) :: m) k v) = mput ((j, f u) :: mm f m) k (f v)
    unfold mput
    split
    · rfl
    · show (j, f u) :: mm f (mput m k v) = _; rw [mm_put f m k v]
theorem mm_del (f : α → β) : ∀ (m : List (κ × α)) (k : κ), mm f (mdel m k) = mdel (mm f m) k
  | [], _ => rfl
  | (j, u) :: m, k => by
    show mm f (mdel ((j, u) :: m) k) = mdel ((j, f u) :: mm f m) k
    unfold mdel
    split
    · rfl
    · show (j, f u) :: mm f (mdel m k) = _; rw [mm_del f m k]
theorem mem_put : ∀ {m : List (κ × α)} {k : κ} {v : α} {p : κ × α}, p ∈ mput m k v → p = (k, v) ∨ p ∈ m
  | [], _, _, _, h => by simp [mput] at h; exact .inl h
  | (j, u) :: m, k, v, p, h => by
    unfold mput at h
    split at h
    · rename_i e
      rcases List.mem_cons.1 h with h | h
      · exact .inl (by rw [h, e])
      · exact .inr (List.mem_cons_of_mem _ h)
    · rcases List.mem_cons.1 h with h | h
      · exact .inr (by rw [h]; exact List.mem_cons_self ..)
      · rcases mem_put h with h | h
        · exact .inl h
        · exact .inr (List.mem_cons_of_mem _ h)
theorem mem_mdel : ∀ {m : List (κ × α)} {k : κ} {p : κ × α}, p ∈ mdel m k → p ∈ m := fun h => (del_sub _ _).subset h
end
/-- An index, plain. -/
abbrev PL : Type := List (ByteArray × List PostP)
abbrev PW : Type := List (Key × List ByteArray)
def plL (L : List (ByteArray × SlV PostV)) : PL := mm (fun s => s.xs.map PostV.p) L
def plW (W : List (Key × SlV ByteArray)) : PW := mm (fun s => s.xs) W
def dropE (k : Key) (m : PL) (w : ByteArray) : PL := if dropP ((mget m w).getD []) k = [] then mdel (mput m w (dropP ((mget m w).getD []) k)) w else mput m w (dropP ((mget m w).getD []) k)
def dropK (s : PL × PW × Nat) (k : Key) : PL × PW × Nat := match mget s.2.1 k with
  | none => s
  | some ws => (ws.foldl (dropE k) s.1, mdel s.2.1 k, s.2.2 + 1)
theorem fold_take {α β : Type} (f : β → α → β) (b : β) {l : List α} {i : Nat} {x : α} (h : l[i]? = some x) : (l.take (i + 1)).foldl f b = f ((l.take i).foldl f b) x := by
  rw [List.take_add_one, h, List.foldl_append]; rfl
theorem dropP_sub {L : List PostP} {k : Key} {p : PostP} (h : p ∈ dropP L k) : p ∈ L := by
  unfold dropP at h; split at h
  · exact (List.mem_filter.1 h).1
  · cases h
theorem dropP_le (L : List PostP) (k : Key) : (dropP L k).length ≤ L.length := by
  unfold dropP; split
  · exact List.length_filter_le ..
  · exact Nat.zero_le _
end Go.Ix
namespace Go.Proofs.YtmbikfojljnnkaaGreatDoor
open Go Go.Sl Go.Gv Go.Kv Go.Po Go.Ix
set_option maxRecDepth 100000
theorem plL_get (L : List (ByteArray × SlV PostV)) (w : ByteArray) : (mget (plL L) w).getD [] = plain1 (lisT L w).xs := by
  rw [plL, mm_get, lisT]; cases mget L w <;> rfl
theorem plain_bound {qs ps : List PostV} {L : List PostP} {n : Nat} (h : plain1 qs = L) (hs : ∀ p ∈ L, p ∈ plain1 ps) (hp : ∀ p ∈ ps, p.t.xs.length ≤ n) : ∀ q ∈ qs, q.t.xs.length ≤ n := fun q hq => by
  have : q.p ∈ plain1 ps := hs _ (h ▸ List.mem_map.2 ⟨q, hq, rfl⟩)
  obtain ⟨y, hm, he⟩ := List.mem_map.1 this
  have e : y.t.xs = q.t.xs := congrArg Prod.snd he
  rw [← e]; exact hp y hm
theorem RdL.put {S : HProp} {L : List (ByteArray × SlV PostV)} (h : RdL S L) {w : ByteArray} {a : Option Addr} {c : Nat} {qs : List PostV} (hq : ∀ q ∈ qs, q.t.xs.length ≤ 1000) (hl : qs.length ≤ 1000) : RdL (two S (plO a c qs)) (mput L w ⟨a, qs, c⟩) := fun p hp => by
  rcases mem_put hp with rfl | hp
  · exact ⟨(prd_plO hq).r, hl⟩
  · exact ⟨(h p hp).1.l, (h p hp).2⟩
theorem RdL.del {S : HProp} {L : List (ByteArray × SlV PostV)} (h : RdL S L) (w : ByteArray) : RdL S (mdel L w) := fun p hp => h p (mem_mdel hp)
theorem RdW.del {S : HProp} {W : List (Key × SlV ByteArray)} (h : RdW S W) (k : Key) : RdW S (mdel W k) := fun p hp => h p (mem_mdel hp)
theorem RdL.at {S : HProp} {L : List (ByteArray × SlV PostV)} (h : RdL S L) (w : ByteArray) : ∀ p ∈ (lisT L w).xs, p.t.xs.length ≤ 1000 := fun p hp => ((lisT_rd h w).1.2 p hp).2
theorem drop_spec (x : Nat) (L : List (ByteArray × SlV PostV)) (W : List (Key × SlV ByteArray)) {U : HProp} {ka : Option Addr} {kc : Nat} {ks : List Key} (hU : Srd U 2 keyC ka ks) (hkl : ks.length ≤ 1000000) :
    Ct Tryz.prog 12 [ptr x, .slice ka ks.length kc] [ixA x L W, U] (fun v hs => ∃ n L' W', v = int (n : Nat) ∧ (plL L', plW W', n) = ks.foldl dropK (plL L, plW W, 0) ∧ hs = [ixA x L' W', U]) := by
  refine Ct.intro Tryz.func12 rfl (by kernel_rfl) 73 Tryz.ntmps12 (Nat.le_of_ble_eq_true rfl) fun w0 R => ?_
  refine Gs.slAddr (hU.h (by repeat constructor)) fun kb ko hka => ?_
  refine Gs.seq ?_
  refine Gs.reg ?_
  refine Go.Sl.L.pu rfl rfl trivial (pu_assign rfl) ?_
  refine Go.Sl.L.nil ?_
  refine Gs.then_n ?_
  refine Gs.seq ?_
  refine Gs.seq ?_
  refine Gs.reg ?_
  refine Go.Sl.L.pu rfl rfl trivial (pu_move rfl) ?_
  refine Go.Sl.L.pu rfl rfl trivial (pu_eqN Tryz.underlying25 rfl rfl) ?_
  refine Go.Sl.L.nil ?_
  refine Gs.then_n ?_
  refine Gs.cond_ff rfl rfl ?_
  refine Gs.skip ?_
  refine Gs.then_n ?_
  refine Gs.seq ?_
  refine Gs.reg ?_
  refine Go.Sl.L.pu rfl rfl trivial (pu_assign rfl) ?_
  refine Go.Sl.L.nil ?_
  refine Gs.then_n ?_
  refine Gs.seq ?_
  refine Gs.seq ?_
  refine Gs.reg ?_
  refine Go.Sl.L.pu rfl rfl trivial (pu_move rfl) ?_
  refine Go.Sl.L.pu rfl rfl trivial (pu_len Tryz.underlying47 rfl) ?_
  refine Go.Sl.L.pu rfl rfl trivial (pu_move rfl) ?_
  refine Go.Sl.L.nil ?_
  refine Gs.then_n ?_
  refine Gs.block ?_
  refine Gs.loop1 (fun s : Nat × Nat × List (ByteArray × SlV PostV) × List (Key × SlV ByteArray) => s.1 ≤ ks.length ∧ s.2.1 ≤ s.1 ∧ (plL s.2.2.1, plW s.2.2.2, s.2.1) = (ks.take s.1).foldl dropK (plL L, plW W, 0)) (fun s => [(0, ptr x), (5, int s.2.1), (14, .slice ka ks.length kc), (15, int ks.length), (16, int s.1)]) (fun s => [ixA x s.2.2.1 s.2.2.2, U] ++ R) (fun s => ks.length - s.1) (0, 0, L, W) (⟨Nat.zero_le _, Nat.zero_le _, rfl⟩) (by repeat constructor) (by repeat constructor) (fun s hs => ?_)
  obtain ⟨i, n, L1, W1⟩ := s
  obtain ⟨hi, hn, hst⟩ := hs
  dsimp only at hi hn hst ⊢
  refine Gs.seq ?_
  refine Gs.reg ?_
  refine Go.Sl.L.pu rfl rfl trivial (pu_lt rfl rfl) ?_
  refine Go.Sl.L.nil ?_
  refine Gs.then_n ?_
  refine Gs.seq ?_
  refine Gs.cond rfl (fun hc1 => ?_) (fun hc1 => ?_)
  · skip
    have hlt : i < ks.length := by have := of_decide_eq_true hc1; omega
    obtain ⟨k, hk⟩ : ∃ z, ks[i]? = some z := ⟨ks[i], by simp [hlt]⟩
    obtain rfl := hka (by rintro rfl; simp at hlt)
    have hnx := fold_take dropK (plL L, plW W, 0) hk
    rw [← hst] at hnx
    refine Gs.ix fun ml mw S hL hW => ?_
    refine Gs.skip ?_
    refine Gs.then_n ?_
    refine Gs.seq ?_
    refine Gs.block ?_
    refine Gs.seq ?_
    refine Gs.reg ?_
    refine Go.Sl.L.pu rfl rfl trivial (pu_ia se_47 rfl rfl (by omega) (by omega)) ?_
    refine Go.Sl.L.rd rfl rfl trivial (rd_lda ag_31 rfl (Rdc.el0 (hU.h (by repeat constructor)) hk rfl rfl) rfl) ?_
    refine Go.Sl.L.ac rfl rfl trivial (ac_alloc zv_31 rfl) ?_
    rintro _ _ ⟨tb, rfl, rfl⟩
    refine Go.Sl.L.ac0 rfl trivial (ac_st sz_31 rfl rfl (by repeat constructor) rfl rfl rfl rfl) ?_
    rintro _ _ rfl
    refine Go.Sl.L.nil ?_
    refine Gs.then_n ?_
    refine Gs.seq ?_
    refine Gs.regD mixed (by kernel_rfl) ?_
    refine Rg.pu 0 rfl rfl (by kernel_rfl) trivial (pu_move rfl) ?_
    refine Rg.pu 1 rfl rfl (by kernel_rfl) trivial (by first | exact pu_nil rfl | exact pu_nilF rfl) ?_
    refine Rg.pu 2 rfl rfl (by kernel_rfl) trivial (pu_fa fa_72_1 rfl) ?_
    refine Rg.rd 3 rfl rfl (by kernel_rfl) trivial (rd_ld na_70 rfl (Rdc.cl1 (by repeat constructor) rfl)) ?_
    refine Rg.rd 4 rfl rfl (by kernel_rfl) trivial (rd_lda ag_31 rfl (Rdc.cl 2 (by repeat constructor) rfl) rfl) ?_
    refine Rg.rd 5 rfl rfl (by kernel_rfl) trivial (rd_look2 Tryz.underlying70 kt_31 zvk_58 rfl rfl (by repeat constructor)) ?_
    refine Rg.pu 6 rfl rfl (by kernel_rfl) trivial (pu_move rfl) ?_
    refine Rg.pu 7 rfl rfl (by kernel_rfl) trivial (pu_extract rfl rfl) ?_
    refine Rg.pu 8 rfl rfl (by kernel_rfl) trivial (pu_extract rfl rfl) ?_
    refine Rg.pu 9 rfl rfl (by kernel_rfl) trivial (pu_assign rfl) ?_
    refine Rg.pu 10 rfl rfl (by kernel_rfl) trivial (pu_assign rfl) ?_
    refine Rg.end (by kernel_rfl) ?_
    refine Gs.then_n ?_
    refine Gs.seq ?_
    refine Gs.seq ?_
    refine Gs.reg ?_
    refine Go.Sl.L.pu rfl rfl trivial (pu_move rfl) ?_
    refine Go.Sl.L.pu rfl rfl trivial (pu_not rfl) ?_
    refine Go.Sl.L.nil ?_
    refine Gs.then_n ?_
    refine Gs.cond rfl (fun hc2 => ?_) (fun hc2 => ?_)
    · skip
      have hno : mget W1 k = none := by
        cases h : mget W1 k with
        | none => rfl
        | some s => rw [h] at hc2; cases hc2
      have hsame : (plL L1, plW W1, n) = (ks.take (i + 1)).foldl dropK (plL L, plW W, 0) := by
        rw [hnx]; unfold dropK; rw [show mget (plL L1, plW W1, n).2.1 k = none by show mget (plW W1) k = none; rw [plW, mm_get, hno]; rfl]
      refine Gs.takes (As := [cl x 72 [.map (some ml), .map (some mw)], mp strV slV ml L1, mp keyV slV mw W1, S]) (by repeat constructor) (Gs.ixc hL hW ?_)
      refine Gs.exit ?_
      refine Gs.then_x ?_
      refine Gs.blk_hit ?_
      refine Gs.then_n ?_
      refine Gs.reg ?_
      refine Go.Sl.L.pu rfl rfl trivial (by first | exact pu_addI rfl rfl rfl (by omega) (by omega) | exact pu_add rfl rfl) ?_
      refine Go.Sl.L.pu rfl rfl trivial (pu_move rfl) ?_
      refine Go.Sl.L.nil ?_
      refine Gs.then_n ?_
      first | exact Gs.again1 (i + 1, n, L1, W1) ⟨by show i + 1 ≤ ks.length; omega, by show n ≤ i + 1; omega, hsame⟩ (by show ks.length - (i + 1) < ks.length - i; omega) (by repeat constructor) (by repeat constructor) | exact Gs.again1 (i + 1, n + 1, L2, mdel W1 k) ⟨by show i + 1 ≤ ks.length; omega, by show n + 1 ≤ i + 1; omega, hsame⟩ (by show ks.length - (i + 1) < ks.length - i; omega) (by repeat constructor) (by repeat constructor)
    · skip
      obtain ⟨ws, hws⟩ : ∃ ws, mget W1 k = some ws := by
        cases h : mget W1 k with
        | some s => exact ⟨s, rfl⟩
        | none => rw [h] at hc2; cases hc2
      obtain ⟨wa, wl, wc⟩ := ws
      have hwr : Srd S 1 strC wa wl ∧ wl.length ≤ 1000 := hW (k, ⟨wa, wl, wc⟩) (mget_mem hws)
      rw [hws]
      refine Gs.skip ?_
      refine Gs.then_n ?_
      refine Gs.seq ?_
      refine Gs.regD mixed (by kernel_rfl) ?_
      refine Rg.pu 0 rfl rfl (by kernel_rfl) trivial (pu_move rfl) ?_
      refine Rg.pu 1 rfl rfl (by kernel_rfl) trivial (by first | exact pu_nil rfl | exact pu_nilF rfl) ?_
      refine Rg.pu 2 rfl rfl (by kernel_rfl) trivial (pu_fa fa_72_1 rfl) ?_
      refine Rg.rd 3 rfl rfl (by kernel_rfl) trivial (rd_ld na_70 rfl (Rdc.cl1 (by repeat constructor) rfl)) ?_
      refine Rg.rd 4 rfl rfl (by kernel_rfl) trivial (rd_lda ag_31 rfl (Rdc.cl 2 (by repeat constructor) rfl) rfl) ?_
      refine Rg.one (by kernel_rfl) (Stp.ac0 5 rfl rfl (by kernel_rfl) trivial (ac_del (encv := encv_58) Tryz.underlying70 kt_31 rfl rfl rfl (by repeat constructor))  ?_)
      rintro _ _ rfl
      refine Rg.end (by kernel_rfl) ?_
      refine Gs.then_n ?_
      refine Gs.seq ?_
      refine Gs.reg ?_
      refine Go.Sl.L.pu rfl rfl trivial (pu_move rfl) ?_
      refine Go.Sl.L.pu rfl rfl trivial (by first | exact pu_addI rfl rfl rfl (by omega) (by omega) | exact pu_add rfl rfl) ?_
      refine Go.Sl.L.pu rfl rfl trivial (pu_assign rfl) ?_
      refine Go.Sl.L.nil ?_
      refine Gs.then_n ?_
      refine Gs.seq ?_
      refine Gs.slAddr (hwr.1.h (by repeat constructor)) fun wb wo hwa => ?_
      refine Gs.reg ?_
      refine Go.Sl.L.pu rfl rfl trivial (pu_move rfl) ?_
      refine Go.Sl.L.pu rfl rfl trivial (pu_len Tryz.underlying58 rfl) ?_
      refine Go.Sl.L.pu rfl rfl trivial (pu_move rfl) ?_
      refine Go.Sl.L.nil ?_
      refine Gs.then_n ?_
      refine Gs.block ?_
      refine Gs.loop1 (fun s : Nat × List (ByteArray × SlV PostV) × HProp => s.1 ≤ wl.length ∧ plL s.2.1 = (wl.take s.1).foldl (dropE k) (plL L1) ∧ RdL s.2.2 s.2.1 ∧ RdW s.2.2 (mdel W1 k) ∧ Srd s.2.2 1 strC wa wl) (fun s => [(0, ptr x), (5, int ((n + 1 : Nat) : Int)), (7, ptr tb), (14, .slice (some ⟨kb, ko, none⟩) ks.length kc), (15, int ks.length), (16, int i), (38, .slice wa wl.length wc), (39, int wl.length), (40, int s.1)]) (fun s => [cl x 72 [.map (some ml), .map (some mw)], mp strV slV ml s.2.1, mp keyV slV mw (mdel W1 k), s.2.2, cl tb 31 (keyC k), U] ++ R) (fun s => wl.length - s.1) (0, L1, S) (⟨Nat.zero_le _, rfl, hL, hW.del k, hwr.1⟩) (by repeat constructor) (by repeat constructor) (fun s hs1 => ?_)
      obtain ⟨j, L2, S2⟩ := s
      obtain ⟨hj, hst2, hL2, hW2, hwr2⟩ := hs1
      dsimp only at hj hst2 hL2 hW2 hwr2 ⊢
      refine Gs.seq ?_
      refine Gs.reg ?_
      refine Go.Sl.L.pu rfl rfl trivial (pu_lt rfl rfl) ?_
      refine Go.Sl.L.nil ?_
      refine Gs.then_n ?_
      refine Gs.seq ?_
      refine Gs.cond rfl (fun hc3 => ?_) (fun hc3 => ?_)
      · skip
        have hlt3 : j < wl.length := by have := of_decide_eq_true hc3; omega
        obtain ⟨w, hw⟩ : ∃ z, wl[j]? = some z := ⟨wl[j], by simp [hlt3]⟩
        obtain rfl := hwa (by rintro rfl; simp at hlt3)
        have hnx2 := fold_take (dropE k) (plL L1) hw
        rw [← hst2] at hnx2
        have hrd := lisT_rd hL2 w
        refine Gs.skip ?_
        refine Gs.then_n ?_
        refine Gs.seq ?_
        refine Gs.block ?_
        refine Gs.seq ?_
        refine Gs.reg ?_
        refine Go.Sl.L.pu rfl rfl trivial (pu_ia se_58 rfl rfl (by omega) (by omega)) ?_
        refine Go.Sl.L.rd rfl rfl trivial (rd_ld na_9 rfl (Rdc.el0 (hwr2.h (by repeat constructor)) hw rfl rfl)) ?_
        refine Go.Sl.L.pu rfl rfl trivial (pu_assign rfl) ?_
        refine Go.Sl.L.nil ?_
        refine Gs.then_n ?_
        refine Gs.seq ?_
        refine Gs.regD mixed (by kernel_rfl) ?_
        refine Rg.pu 0 rfl rfl (by kernel_rfl) trivial (pu_move rfl) ?_
        refine Rg.pu 1 rfl rfl (by kernel_rfl) trivial (by first | exact pu_nil rfl | exact pu_nilF rfl) ?_
        refine Rg.pu 2 rfl rfl (by kernel_rfl) trivial (pu_fa fa_72_0 rfl) ?_
        refine Rg.rd 3 rfl rfl (by kernel_rfl) trivial (rd_ld na_69 rfl (Rdc.cl1 (by repeat constructor) rfl)) ?_
        refine Rg.pu 4 rfl rfl (by kernel_rfl) trivial (pu_move rfl) ?_
        refine Rg.pu 5 rfl rfl (by kernel_rfl) trivial (pu_move rfl) ?_
        refine Rg.pu 6 rfl rfl (by kernel_rfl) trivial (by first | exact pu_nil rfl | exact pu_nilF rfl) ?_
        refine Rg.pu 7 rfl rfl (by kernel_rfl) trivial (pu_fa fa_72_0 rfl) ?_
        refine Rg.rd 8 rfl rfl (by kernel_rfl) trivial (rd_ld na_69 rfl (Rdc.cl1 (by repeat constructor) rfl)) ?_
        refine Rg.pu 9 rfl rfl (by kernel_rfl) trivial (pu_move rfl) ?_
        refine Rg.rd 10 rfl rfl (by kernel_rfl) trivial (rd_look1 Tryz.underlying69 kt_9 zvk_42 rfl rfl (by repeat constructor)) ?_
        refine Rg.rd 11 rfl rfl (by kernel_rfl) trivial (rd_lda ag_31 rfl (Rdc.cl 2 (by repeat constructor) rfl) rfl) ?_
        refine Rg.one (by kernel_rfl) (Stp.acR 12 [3] rfl rfl (by kernel_rfl) trivial (as_call (pdrop_spec (a := (lisT L2 w).a) (c := (lisT L2 w).c) hrd.1 hrd.2 k) (by repeat constructor) (by repeat constructor)) (by rintro _ _ ⟨_, ⟨da, dc, qs, rfl, hq, rfl⟩, rfl⟩; exact (Reads.cons rfl rfl rfl trivial rfl (rd_ld na_69 rfl (Rdc.cl1 (by repeat constructor) rfl)) Reads.nil)) ?_)
        rintro _ _ ⟨_, ⟨da, dc, qs, rfl, hq, rfl⟩, rfl⟩
        have hqe : plain1 qs = dropP ((mget (plL L2) w).getD []) k := by rw [hq, plL_get]
        have hql : qs.length ≤ 1000 := by
          have h1 := congrArg List.length hqe
          have h2 := dropP_le ((mget (plL L2) w).getD []) k
          rw [plL_get] at h1 h2
          simp only [List.length_map] at h1 h2
          have := hrd.2; omega
        have hqb : ∀ q ∈ qs, q.t.xs.length ≤ 1000 := plain_bound hq (fun p hp => dropP_sub hp) (hL2.at w)
        have hL3 := hL2.put (w := w) (a := da) (c := dc) hqb hql
        have hpl : plL (mput L2 w ⟨da, qs, dc⟩) = mput (plL L2) w (dropP ((mget (plL L2) w).getD []) k) := by rw [plL, mm_put, ← hqe]; rfl
        refine Rg.one (by kernel_rfl) (Stp.ac0 13 rfl rfl (by kernel_rfl) trivial (ac_put (encv := slV) (v := (⟨da, qs, dc⟩ : SlV PostV)) Tryz.underlying69 kt_9 rfl rfl rfl (by repeat constructor))  ?_)
        rintro _ _ rfl
        refine Rg.end (by kernel_rfl) ?_
        refine Gs.then_n ?_
        refine Gs.seq ?_
        refine Gs.reg ?_
        refine Go.Sl.L.pu rfl rfl trivial (pu_move rfl) ?_
        refine Go.Sl.L.pu rfl rfl trivial (by first | exact pu_nil rfl | exact pu_nilF rfl) ?_
        refine Go.Sl.L.pu rfl rfl trivial (pu_fa fa_72_0 rfl) ?_
        refine Go.Sl.L.rd rfl rfl trivial (rd_ld na_69 rfl (Rdc.cl1 (by repeat constructor) rfl)) ?_
        refine Go.Sl.L.pu rfl rfl trivial (pu_move rfl) ?_
        refine Go.Sl.L.rd rfl rfl trivial (rd_look1 Tryz.underlying69 kt_9 zvk_42 rfl rfl (by repeat constructor)) ?_
        refine Go.Sl.L.pu rfl rfl trivial (pu_len Tryz.underlying42 rfl) ?_
        rw [show (mget (mput L2 w ⟨da, qs, dc⟩) w).getD slZ = (⟨da, qs, dc⟩ : SlV PostV) by rw [mget_put, if_pos rfl]; rfl]
        refine Go.Sl.L.pu rfl rfl trivial (pu_eq rfl rfl) ?_
        refine Go.Sl.L.nil ?_
        refine Gs.then_n ?_
        refine Gs.cond rfl (fun hc4 => ?_) (fun hc4 => ?_)
        · skip
          have h0 : qs = [] := List.length_eq_zero_iff.1 (by have := of_decide_eq_true hc4; dsimp only at this; omega)
          have hst3 : plL (mdel (mput L2 w ⟨da, qs, dc⟩) w) = (wl.take (j + 1)).foldl (dropE k) (plL L1) := by
            rw [hnx2, plL, mm_del, ← plL, hpl]; unfold dropE; rw [if_pos (by rw [← hqe, h0]; rfl)]
          have hL4 := hL3.del w
          refine Gs.reg ?_
          refine Go.Sl.L.pu rfl rfl trivial (pu_move rfl) ?_
          refine Go.Sl.L.pu rfl rfl trivial (by first | exact pu_nil rfl | exact pu_nilF rfl) ?_
          refine Go.Sl.L.pu rfl rfl trivial (pu_fa fa_72_0 rfl) ?_
          refine Go.Sl.L.rd rfl rfl trivial (rd_ld na_69 rfl (Rdc.cl1 (by repeat constructor) rfl)) ?_
          refine Go.Sl.L.pu rfl rfl trivial (pu_move rfl) ?_
          refine Go.Sl.L.ac0 rfl trivial (ac_del (encv := encv_42) Tryz.underlying69 kt_9 rfl rfl rfl (by repeat constructor)) ?_
          rintro _ _ rfl
          refine Go.Sl.L.nil ?_
          refine Gs.blk_n ?_
          refine Gs.then_n ?_
          refine Gs.reg ?_
          refine Go.Sl.L.pu rfl rfl trivial (by first | exact pu_addI rfl rfl rfl (by omega) (by omega) | exact pu_add rfl rfl) ?_
          refine Go.Sl.L.pu rfl rfl trivial (pu_move rfl) ?_
          refine Go.Sl.L.nil ?_
          refine Gs.then_n ?_
          first | exact Gs.takes (As := [S2, plO da dc qs]) (by repeat constructor) (Gs.toTwo (Gs.again1 (j + 1, mdel (mput L2 w ⟨da, qs, dc⟩) w, two S2 (plO da dc qs)) ⟨by show j + 1 ≤ wl.length; omega, hst3, hL4, hW2.l, Srd.two1 hwr2⟩ (by show wl.length - (j + 1) < wl.length - j; omega) (by repeat constructor) (by repeat constructor))) | exact Gs.takes (As := [S2, plO da dc qs]) (by repeat constructor) (Gs.toTwo (Gs.again1 (j + 1, mput L2 w ⟨da, qs, dc⟩, two S2 (plO da dc qs)) ⟨by show j + 1 ≤ wl.length; omega, hst3, hL4, hW2.l, Srd.two1 hwr2⟩ (by show wl.length - (j + 1) < wl.length - j; omega) (by repeat constructor) (by repeat constructor)))
        · skip
          have h0 : ¬ qs = [] := fun e => by have := of_decide_eq_false hc4; rw [e] at this; exact this rfl
          have hst3 : plL (mput L2 w ⟨da, qs, dc⟩) = (wl.take (j + 1)).foldl (dropE k) (plL L1) := by
            rw [hnx2, hpl]; unfold dropE; rw [if_neg (by rw [← hqe]; simpa using h0)]
          have hL4 := hL3
          refine Gs.skip ?_
          refine Gs.blk_n ?_
          refine Gs.then_n ?_
          refine Gs.reg ?_
          refine Go.Sl.L.pu rfl rfl trivial (by first | exact pu_addI rfl rfl rfl (by omega) (by omega) | exact pu_add rfl rfl) ?_
          refine Go.Sl.L.pu rfl rfl trivial (pu_move rfl) ?_
          refine Go.Sl.L.nil ?_
          refine Gs.then_n ?_
          first | exact Gs.takes (As := [S2, plO da dc qs]) (by repeat constructor) (Gs.toTwo (Gs.again1 (j + 1, mdel (mput L2 w ⟨da, qs, dc⟩) w, two S2 (plO da dc qs)) ⟨by show j + 1 ≤ wl.length; omega, hst3, hL4, hW2.l, Srd.two1 hwr2⟩ (by show wl.length - (j + 1) < wl.length - j; omega) (by repeat constructor) (by repeat constructor))) | exact Gs.takes (As := [S2, plO da dc qs]) (by repeat constructor) (Gs.toTwo (Gs.again1 (j + 1, mput L2 w ⟨da, qs, dc⟩, two S2 (plO da dc qs)) ⟨by show j + 1 ≤ wl.length; omega, hst3, hL4, hW2.l, Srd.two1 hwr2⟩ (by show wl.length - (j + 1) < wl.length - j; omega) (by repeat constructor) (by repeat constructor)))
      · skip
        have hge3 : j = wl.length := by have := of_decide_eq_false hc3; omega
        rw [hge3, List.take_length] at hst2
        have hsame : (plL L2, plW (mdel W1 k), n + 1) = (ks.take (i + 1)).foldl dropK (plL L, plW W, 0) := by
          rw [hnx]; unfold dropK; rw [show mget (plL L1, plW W1, n).2.1 k = some wl by show mget (plW W1) k = some wl; rw [plW, mm_get, hws]; rfl]
          show _ = (wl.foldl (dropE k) (plL L1), mdel (plW W1) k, n + 1)
          rw [← hst2, plW, plW, mm_del]
        refine Gs.takes (As := [cl x 72 [.map (some ml), .map (some mw)], mp strV slV ml L2, mp keyV slV mw (mdel W1 k), S2]) (by repeat constructor) (Gs.ixc hL2 hW2 ?_)
        refine Gs.exit ?_
        refine Gs.then_x ?_
        refine Gs.then_x ?_
        refine Gs.blk_hit ?_
        refine Gs.blk_n ?_
        refine Gs.then_n ?_
        refine Gs.reg ?_
        refine Go.Sl.L.pu rfl rfl trivial (by first | exact pu_addI rfl rfl rfl (by omega) (by omega) | exact pu_add rfl rfl) ?_
        refine Go.Sl.L.pu rfl rfl trivial (pu_move rfl) ?_
        refine Go.Sl.L.nil ?_
        refine Gs.then_n ?_
        first | exact Gs.again1 (i + 1, n, L1, W1) ⟨by show i + 1 ≤ ks.length; omega, by show n ≤ i + 1; omega, hsame⟩ (by show ks.length - (i + 1) < ks.length - i; omega) (by repeat constructor) (by repeat constructor) | exact Gs.again1 (i + 1, n + 1, L2, mdel W1 k) ⟨by show i + 1 ≤ ks.length; omega, by show n + 1 ≤ i + 1; omega, hsame⟩ (by show ks.length - (i + 1) < ks.length - i; omega) (by repeat constructor) (by repeat constructor)
  · skip
    have hge : i = ks.length := by have := of_decide_eq_false hc1; omega
    rw [hge, List.take_length] at hst
    refine Gs.exit ?_
    refine Gs.then_x ?_
    refine Gs.then_x ?_
    refine Gs.blk_hit ?_
    refine Gs.then_n ?_
    refine Gs.seq ?_
    refine Gs.reg ?_
    refine Go.Sl.L.pu rfl rfl trivial (pu_move rfl) ?_
    refine Go.Sl.L.pu rfl rfl trivial (pu_assign rfl) ?_
    refine Go.Sl.L.nil ?_
    refine Gs.then_n ?_
    refine Gs.ret ?_
    exact Gs.fin1 Tryz.results12 rfl _ (⟨n, L1, W1, rfl, hst, rfl⟩) (by repeat constructor)
theorem dropN_spec (ka : Option Addr) (kl kc : Nat) : Ct Tryz.prog 12 [.pointer none, .slice ka kl kc] [] (fun v hs => v = int 0 ∧ hs = []) := by
  refine Ct.intro Tryz.func12 rfl (by kernel_rfl) 73 Tryz.ntmps12 (Nat.le_of_ble_eq_true rfl) fun w0 R => ?_
  refine Gs.seq ?_
  refine Gs.reg ?_
  refine Go.Sl.L.pu rfl rfl trivial (pu_assign rfl) ?_
  refine Go.Sl.L.nil ?_
  refine Gs.then_n ?_
  refine Gs.seq ?_
  refine Gs.seq ?_
  refine Gs.reg ?_
  refine Go.Sl.L.pu rfl rfl trivial (pu_move rfl) ?_
  refine Go.Sl.L.pu rfl rfl trivial (pu_eqN Tryz.underlying25 rfl rfl) ?_
  refine Go.Sl.L.nil ?_
  refine Gs.then_n ?_
  refine Gs.cond_tt rfl rfl ?_
  refine Gs.seq ?_
  refine Gs.reg ?_
  refine Go.Sl.L.pu rfl rfl trivial (pu_assign rfl) ?_
  refine Go.Sl.L.nil ?_
  refine Gs.then_n ?_
  refine Gs.ret ?_
  refine Gs.then_r ?_
  exact Gs.fin1 Tryz.results12 rfl _ (⟨rfl, rfl⟩) (by repeat constructor)
end Go.Proofs.YtmbikfojljnnkaaGreatDoor
