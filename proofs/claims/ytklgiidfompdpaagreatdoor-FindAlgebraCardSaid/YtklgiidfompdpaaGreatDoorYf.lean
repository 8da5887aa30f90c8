/- What the closing leans on: part 6. -/
import Derived.Test.YtklgiidfompdpaaGreatDoorYe
import Derived.Test.YtklgiidfompdpaaGreatDoorYc
import Derived.RangeFuncRecord
import Derived.RangeFuncIn
import Derived.RangeFuncLeaves
import Derived.RangeFuncCalls
import Derived.Shelf.Sort.Plain
import Derived.Test.YtklgiidfompdpaaGreatDoorYd
import Derived.WalkKit
import Derived.BigCall
import Derived.Lib.OthersKept
namespace Go.Ix
open Go Go.Sl Go.Gv Go.Kv Go.Po
section
variable {κ α β : Type} [DecidableEq κ]
def mm (f : α → β) (m : List (κ × α)) : List (κ × β) := m.map fun p => (p.1, f p.2)
theorem mm_get (f : α → β) : ∀ (m : List (κ × α)) (k : κ), mget (mm f m) k = (mget m k).map f
 | [], _ => rfl
 | (j, v) :: m, k => by
   show mget ((j, f v) :: mm f m) k = (mget ((j, v) :: m) k).map f
   unfold mget
   split
   · rfl
   · exact mm_get f m k
theorem mm_put (f : α → β) : ∀ (m : List (κ × α)) (k : κ) (v : α), mm f (mput m k v) = mput (mm f m) k (f v)
 | [], _, _ => rfl
 | (j, u) :: m, k, v => by
   show mm f (mput ((j, u) :: m) k v) = mput ((j, f u) :: mm f m) k (f v)
   unfold mput
   split
   · rfl
   · show (j, f u) :: mm f (mput m k v) = _; rw [mm_put f m k v]
theorem mm_del (f : α → β) : ∀ (m : List (κ × α)) (k : κ), mm f (mdel m k) = mdel (mm f m) k
 | [], _ => rfl
 | (j, u) :: m, k => by
   show mm f (mdel ((j, u) :: m) k) = mdel ((j, f u) :: mm f m) k
   unfold mdel
   split
   · rfl
   · show (j, f u) :: mm f (mdel m k) = _; rw [mm_del f m k]
theorem mem_put : ∀ {m : List (κ × α)} {k : κ} {v : α} {p : κ × α}, p ∈ mput m k v → p = (k, v) ∨ p ∈ m
 | [], _, _, _, h => by simp [mput] at h; exact .inl h
 | (j, u) :: m, k, v, p, h => by
   unfold mput at h
   split at h
   · rename_i e
     rcases List.mem_cons.1 h with h | h
     · exact .inl (by rw [h, e])
     · exact .inr (List.mem_cons_of_mem _ h)
   · rcases List.mem_cons.1 h with h | h
     · exact .inr (by rw [h]; exact List.mem_cons_self ..)
     · rcases mem_put h with h | h
       · exact .inl h
       · exact .inr (List.mem_cons_of_mem _ h)
theorem mem_mdel : ∀ {m : List (κ × α)} {k : κ} {p : κ × α}, p ∈ mdel m k → p ∈ m := fun h => (del_sub _ _).subset h
end
abbrev PL : Type := List (ByteArray × List PostP)
abbrev PW : Type := List (Key × List ByteArray)
def plL (L : List (ByteArray × SlV PostV)) : PL := mm (fun s => s.xs.map PostV.p) L
def plW (W : List (Key × SlV ByteArray)) : PW := mm (fun s => s.xs) W
def dropE (k : Key) (m : PL) (w : ByteArray) : PL := if dropP ((mget m w).getD []) k = [] then mdel (mput m w (dropP ((mget m w).getD []) k)) w else mput m w (dropP ((mget m w).getD []) k)
def dropK (s : PL × PW × Nat) (k : Key) : PL × PW × Nat := match mget s.2.1 k with
 | none => s
 | some ws => (ws.foldl (dropE k) s.1, mdel s.2.1 k, s.2.2 + 1)
theorem fold_take {α β : Type} (f : β → α → β) (b : β) {l : List α} {i : Nat} {x : α} (h : l[i]? = some x) : (l.take (i + 1)).foldl f b = f ((l.take i).foldl f b) x := by
 rw [List.take_add_one, h, List.foldl_append]; rfl
theorem dropP_sub {L : List PostP} {k : Key} {p : PostP} (h : p ∈ dropP L k) : p ∈ L := by
 unfold dropP at h; split at h
 · exact (List.mem_filter.1 h).1
 · cases h
theorem dropP_le (L : List PostP) (k : Key) : (dropP L k).length ≤ L.length := by
 unfold dropP; split
 · exact List.length_filter_le ..
 · exact Nat.zero_le _
end Go.Ix
namespace Go.Proofs.YtklgiidfompdpaaGreatDoor
open Go Go.Sl Go.Gv Go.Kv Go.Po Go.Ix
set_option maxRecDepth 100000
theorem plL_get (L : List (ByteArray × SlV PostV)) (w : ByteArray) : (mget (plL L) w).getD [] = plain1 (lisT L w).xs := by
 rw [plL, mm_get, lisT]; cases mget L w <;> rfl
theorem plain_bound {qs ps : List PostV} {L : List PostP} {n : Nat} (h : plain1 qs = L) (hs : ∀ p ∈ L, p ∈ plain1 ps) (hp : ∀ p ∈ ps, p.t.xs.length ≤ n) : ∀ q ∈ qs, q.t.xs.length ≤ n := fun q hq => by
 have : q.p ∈ plain1 ps := hs _ (h ▸ List.mem_map.2 ⟨q, hq, rfl⟩)
 obtain ⟨y, hm, he⟩ := List.mem_map.1 this
 have e : y.t.xs = q.t.xs := congrArg Prod.snd he
 rw [← e]; exact hp y hm
theorem RdL.put {S : HProp} {L : List (ByteArray × SlV PostV)} (h : RdL S L) {w : ByteArray} {a : Option Addr} {c : Nat} {qs : List PostV} (hq : ∀ q ∈ qs, q.t.xs.length ≤ 1000) (hl : qs.length ≤ 1000) : RdL (two S (plO a c qs)) (mput L w ⟨a, qs, c⟩) := fun p hp => by
 rcases mem_put hp with rfl | hp
 · exact ⟨(prd_plO hq).r, hl⟩
 · exact ⟨(h p hp).1.l, (h p hp).2⟩
theorem RdL.del {S : HProp} {L : List (ByteArray × SlV PostV)} (h : RdL S L) (w : ByteArray) : RdL S (mdel L w) := fun p hp => h p (mem_mdel hp)
theorem RdW.del {S : HProp} {W : List (Key × SlV ByteArray)} (h : RdW S W) (k : Key) : RdW S (mdel W k) := fun p hp => h p (mem_mdel hp)
theorem RdL.at {S : HProp} {L : List (ByteArray × SlV PostV)} (h : RdL S L) (w : ByteArray) : ∀ p ∈ (lisT L w).xs, p.t.xs.length ≤ 1000 := fun p hp => ((lisT_rd h w).1.2 p hp).2
theorem drop_spec (x : Nat) (L : List (ByteArray × SlV PostV)) (W : List (Key × SlV ByteArray)) {U : HProp} {ka : Option Addr} {kc : Nat} {ks : List Key} (hU : Srd U 2 keyC ka ks) (hkl : ks.length ≤ 1000000) :
   Ct Tryz.prog 32 [ptr x, .slice ka ks.length kc] [ixA x L W, U] (fun v hs => ∃ n L' W', v = int (n : Nat) ∧ (plL L', plW W', n) = ks.foldl dropK (plL L, plW W, 0) ∧ hs = [ixA x L' W', U]) := by
 refine Cti Tryz.func32 (by kernel_rfl) 73 Tryz.ntmps32 rfl rfl fun w0 R => ?_
 refine Gs.slAddr (hU.h (by repeat constructor)) fun kb ko hka => ?_
 refine Gsr (Las rfl rfl (Lnt (Gs.seq (Gsr (Lmv rfl rfl (Lq rfl (pu_eqN Tryz.underlying72 rfl rfl) (Lnt (Gs.cond_ff rfl rfl (Gs.skip (Gn (Gsr ?_)))))))))))
 refine Las rfl rfl (Lnt (Gs.seq (Gsr (Lmv rfl rfl (Lq rfl (pu_len Tryz.underlying48 rfl) (Lmv rfl rfl (Lnt (Gs.block (Gs.loop1 (fun s : Nat × Nat × List (ByteArray × SlV PostV) × List (Key × SlV ByteArray) => s.1 ≤ ks.length ∧ s.2.1 ≤ s.1 ∧ (plL s.2.2.1, plW s.2.2.2, s.2.1) = (ks.take s.1).foldl dropK (plL L, plW W, 0)) (fun s => [(0, ptr x), (5, int s.2.1), (14, .slice ka ks.length kc), (15, int ks.length), (16, int s.1)]) (fun s => [ixA x s.2.2.1 s.2.2.2, U] ++ R) (fun s => ks.length - s.1) (0, 0, L, W) (⟨Nat.zero_le _, Nat.zero_le _, rfl⟩) (by repeat constructor) (by repeat constructor) (fun s hs => ?_))))))))))
 obtain ⟨i, n, L1, W1⟩ := s
 obtain ⟨hi, hn, hst⟩ := hs
 dsimp only at hi hn hst ⊢
 refine Gsr (Lq rfl (pu_lt rfl rfl) (Lnt (Gs.seq (Gs.cond rfl (fun hc1 => ?_) (fun hc1 => ?_)))))
 ·
  have hlt : i < ks.length := by have := of_decide_eq_true hc1; omega
  obtain ⟨k, hk⟩ : ∃ z, ks[i]? = some z := ⟨ks[i], by simp [hlt]⟩
  obtain rfl := hka (by rintro rfl; simp at hlt)
  have hnx := fold_take dropK (plL L, plW W, 0) hk
  rw [← hst] at hnx
  refine Gs.ix fun ml mw S hL hW => ?_
  refine Gs.skip (Gn (Gs.seq (Gs.block (Gsr (Lq rfl (pu_ia se_48 rfl rfl (by omega) (by omega)) (Lr rfl (rd_lda ag_28 rfl (Rdc.el0 (hU.h (by repeat constructor)) hk rfl rfl) rfl) ?_))))))
  refine La rfl (ac_alloc zv_28 rfl) ?_
  rintro _ _ ⟨tb, rfl, rfl⟩
  refine Lac0 rfl trivial (ac_st sz_28 rfl rfl (by repeat constructor) rfl rfl rfl rfl) ?_
  rintro _ _ rfl
  refine Lnt (Gs.seq (Gs.regD mixed (by kernel_rfl) (Rmv 0 rfl (by kernel_rfl) rfl (Rq 1 rfl (by kernel_rfl) (by first | exact pu_nil rfl | exact pu_nilF rfl) ?_))))
  refine Rq 2 rfl (by kernel_rfl) (pu_fa fa_92_1 rfl) (Rr 3 rfl (by kernel_rfl) (rd_ld na_90 rfl (Rdc.cl1 (by repeat constructor) rfl)) ?_)
  refine Rr 4 rfl (by kernel_rfl) (rd_lda ag_28 rfl (Rdc.cl 2 (by repeat constructor) rfl) rfl) ?_
  refine Rr 5 rfl (by kernel_rfl) (rd_look2 Tryz.underlying90 kt_28 zvk_23 rfl rfl (by repeat constructor)) ?_
  refine Rmv 6 rfl (by kernel_rfl) rfl (Rq 7 rfl (by kernel_rfl) (pu_extract rfl rfl) (Rq 8 rfl (by kernel_rfl) (pu_extract rfl rfl) (Rq 9 rfl (by kernel_rfl) (pu_assign rfl) (Rq 10 rfl (by kernel_rfl) (pu_assign rfl) (Rg.end (by kernel_rfl) (Gn (Gs.seq (Gsr (Lmv rfl rfl (Lq rfl (pu_not rfl) (Lnt ?_)))))))))))
  refine Gs.cond rfl (fun hc2 => ?_) (fun hc2 => ?_)
  ·
   have hno : mget W1 k = none := by
     cases h : mget W1 k with
     | none => rfl
     | some s => rw [h] at hc2; cases hc2
   have hsame : (plL L1, plW W1, n) = (ks.take (i + 1)).foldl dropK (plL L, plW W, 0) := by
     rw [hnx]; unfold dropK; rw [show mget (plL L1, plW W1, n).2.1 k = none by show mget (plW W1) k = none; rw [plW, mm_get, hno]; rfl]
   refine Gs.takes (As := [cl x 92 [.map (some ml), .map (some mw)], mp strV slV ml L1, mp keyV slV mw W1, S]) (by repeat constructor) (Gs.ixc hL hW ?_)
   refine Gs.exit (Gx (Gs.blk_hit (Gn (Gs.reg (Lq rfl (by first | exact pu_addI rfl rfl rfl (by omega) (by omega) | exact pu_add rfl rfl) ?_)))))
   refine Lmv rfl rfl (Lnt ?_)
   first | exact Ag (i + 1, n, L1, W1) ⟨by show i + 1 ≤ ks.length; omega, by show n ≤ i + 1; omega, hsame⟩ (by show ks.length - (i + 1) < ks.length - i; omega) | exact Ag (i + 1, n + 1, L2, mdel W1 k) ⟨by show i + 1 ≤ ks.length; omega, by show n + 1 ≤ i + 1; omega, hsame⟩ (by show ks.length - (i + 1) < ks.length - i; omega)
  obtain ⟨ws, hws⟩ : ∃ ws, mget W1 k = some ws := by
    cases h : mget W1 k with
    | some s => exact ⟨s, rfl⟩
    | none => rw [h] at hc2; cases hc2
  obtain ⟨wa, wl, wc⟩ := ws
  have hwr : Srd S 1 strC wa wl ∧ wl.length ≤ 1000 := hW (k, ⟨wa, wl, wc⟩) (mget_mem hws)
  rw [hws]
  refine Gs.skip (Gn (Gs.seq (Gs.regD mixed (by kernel_rfl) (Rmv 0 rfl (by kernel_rfl) rfl (Rq 1 rfl (by kernel_rfl) (by first | exact pu_nil rfl | exact pu_nilF rfl) ?_)))))
  refine Rq 2 rfl (by kernel_rfl) (pu_fa fa_92_1 rfl) (Rr 3 rfl (by kernel_rfl) (rd_ld na_90 rfl (Rdc.cl1 (by repeat constructor) rfl)) ?_)
  refine Rr 4 rfl (by kernel_rfl) (rd_lda ag_28 rfl (Rdc.cl 2 (by repeat constructor) rfl) rfl) ?_
  refine Rg.one (by kernel_rfl) (Stp.ac0 5 rfl rfl (by kernel_rfl) trivial (ac_del (encv := encv_23) Tryz.underlying90 kt_28 rfl rfl rfl (by repeat constructor))  ?_)
  rintro _ _ rfl
  refine Rg.end (by kernel_rfl) (Gn (Gsr (Lmv rfl rfl (Lq rfl (by first | exact pu_addI rfl rfl rfl (by omega) (by omega) | exact pu_add rfl rfl) ?_))))
  refine Las rfl rfl (Lnt (Gs.seq (Gs.slAddr (hwr.1.h (by repeat constructor)) fun wb wo hwa => ?_)))
  refine Gs.reg (Lmv rfl rfl (Lq rfl (pu_len Tryz.underlying23 rfl) (Lmv rfl rfl (Lnt (Gs.block (Gs.loop1 (fun s : Nat × List (ByteArray × SlV PostV) × HProp => s.1 ≤ wl.length ∧ plL s.2.1 = (wl.take s.1).foldl (dropE k) (plL L1) ∧ RdL s.2.2 s.2.1 ∧ RdW s.2.2 (mdel W1 k) ∧ Srd s.2.2 1 strC wa wl) (fun s => [(0, ptr x), (5, int ((n + 1 : Nat) : Int)), (7, ptr tb), (14, .slice (some ⟨kb, ko, none⟩) ks.length kc), (15, int ks.length), (16, int i), (38, .slice wa wl.length wc), (39, int wl.length), (40, int s.1)]) (fun s => [cl x 92 [.map (some ml), .map (some mw)], mp strV slV ml s.2.1, mp keyV slV mw (mdel W1 k), s.2.2, cl tb 28 (keyC k), U] ++ R) (fun s => wl.length - s.1) (0, L1, S) (⟨Nat.zero_le _, rfl, hL, hW.del k, hwr.1⟩) (by repeat constructor) (by repeat constructor) (fun s hs1 => ?_)))))))
  obtain ⟨j, L2, S2⟩ := s
  obtain ⟨hj, hst2, hL2, hW2, hwr2⟩ := hs1
  dsimp only at hj hst2 hL2 hW2 hwr2 ⊢
  refine Gsr (Lq rfl (pu_lt rfl rfl) (Lnt (Gs.seq (Gs.cond rfl (fun hc3 => ?_) (fun hc3 => ?_)))))
  ·
   have hlt3 : j < wl.length := by have := of_decide_eq_true hc3; omega
   obtain ⟨w, hw⟩ : ∃ z, wl[j]? = some z := ⟨wl[j], by simp [hlt3]⟩
   obtain rfl := hwa (by rintro rfl; simp at hlt3)
   have hnx2 := fold_take (dropE k) (plL L1) hw
   rw [← hst2] at hnx2
   have hrd := lisT_rd hL2 w
   refine Gs.skip (Gn (Gs.seq (Gs.block (Gsr (Lq rfl (pu_ia se_23 rfl rfl (by omega) (by omega)) (Lr rfl (rd_ld na_9 rfl (Rdc.el0 (hwr2.h (by repeat constructor)) hw rfl rfl)) ?_))))))
   refine Las rfl rfl (Lnt (Gs.seq (Gs.regD mixed (by kernel_rfl) (Rmv 0 rfl (by kernel_rfl) rfl (Rq 1 rfl (by kernel_rfl) (by first | exact pu_nil rfl | exact pu_nilF rfl) ?_)))))
   refine Rq 2 rfl (by kernel_rfl) (pu_fa fa_92_0 rfl) (Rr 3 rfl (by kernel_rfl) (rd_ld na_89 rfl (Rdc.cl1 (by repeat constructor) rfl)) ?_)
   refine Rmv 4 rfl (by kernel_rfl) rfl (Rmv 5 rfl (by kernel_rfl) rfl (Rq 6 rfl (by kernel_rfl) (by first | exact pu_nil rfl | exact pu_nilF rfl) ?_))
   refine Rq 7 rfl (by kernel_rfl) (pu_fa fa_92_0 rfl) (Rr 8 rfl (by kernel_rfl) (rd_ld na_89 rfl (Rdc.cl1 (by repeat constructor) rfl)) ?_)
   refine Rmv 9 rfl (by kernel_rfl) rfl (Rr 10 rfl (by kernel_rfl) (rd_look1 Tryz.underlying89 kt_9 zvk_94 rfl rfl (by repeat constructor)) ?_)
   refine Rr 11 rfl (by kernel_rfl) (rd_lda ag_28 rfl (Rdc.cl 2 (by repeat constructor) rfl) rfl) ?_
   refine Rg.one (by kernel_rfl) (Stp.acR 12 [3] rfl rfl (by kernel_rfl) trivial (asC (pdrop_spec (a := (lisT L2 w).a) (c := (lisT L2 w).c) hrd.1 hrd.2 k)) (by rintro _ _ ⟨_, ⟨da, dc, qs, rfl, hq, rfl⟩, rfl⟩; exact (Reads.cons rfl rfl rfl trivial rfl (rd_ld na_89 rfl (Rdc.cl1 (by repeat constructor) rfl)) Reads.nil)) ?_)
   rintro _ _ ⟨_, ⟨da, dc, qs, rfl, hq, rfl⟩, rfl⟩
   have hqe : plain1 qs = dropP ((mget (plL L2) w).getD []) k := by rw [hq, plL_get]
   have hql : qs.length ≤ 1000 := by
     have h1 := congrArg List.length hqe
     have h2 := dropP_le ((mget (plL L2) w).getD []) k
     rw [plL_get] at h1 h2
     simp only [List.length_map] at h1 h2
     have := hrd.2; omega
   have hqb : ∀ q ∈ qs, q.t.xs.length ≤ 1000 := plain_bound hq (fun p hp => dropP_sub hp) (hL2.at w)
   have hL3 := hL2.put (w := w) (a := da) (c := dc) hqb hql
   have hpl : plL (mput L2 w ⟨da, qs, dc⟩) = mput (plL L2) w (dropP ((mget (plL L2) w).getD []) k) := by rw [plL, mm_put, ← hqe]; rfl
   refine Rg.one (by kernel_rfl) (Stp.ac0 13 rfl rfl (by kernel_rfl) trivial (ac_put (encv := slV) (v := (⟨da, qs, dc⟩ : SlV PostV)) Tryz.underlying89 kt_9 rfl rfl rfl (by repeat constructor))  ?_)
   rintro _ _ rfl
   refine Rg.end (by kernel_rfl) (Gn (Gsr (Lmv rfl rfl (Lq rfl (by first | exact pu_nil rfl | exact pu_nilF rfl) ?_))))
   refine Lq rfl (pu_fa fa_92_0 rfl) (Lr rfl (rd_ld na_89 rfl (Rdc.cl1 (by repeat constructor) rfl)) ?_)
   refine Lmv rfl rfl (Lr rfl (rd_look1 Tryz.underlying89 kt_9 zvk_94 rfl rfl (by repeat constructor)) ?_)
   refine Lq rfl (pu_len Tryz.underlying94 rfl) ?_
   rw [show (mget (mput L2 w ⟨da, qs, dc⟩) w).getD slZ = (⟨da, qs, dc⟩ : SlV PostV) by rw [mget_put, if_pos rfl]; rfl]
   refine Lq rfl (pu_eq rfl rfl) (Lnt (Gs.cond rfl (fun hc4 => ?_) (fun hc4 => ?_)))
   ·
    have h0 : qs = [] := List.length_eq_zero_iff.1 (by have := of_decide_eq_true hc4; dsimp only at this; omega)
    have hst3 : plL (mdel (mput L2 w ⟨da, qs, dc⟩) w) = (wl.take (j + 1)).foldl (dropE k) (plL L1) := by
      rw [hnx2, plL, mm_del, ← plL, hpl]; unfold dropE; rw [if_pos (by rw [← hqe, h0]; rfl)]
    have hL4 := hL3.del w
    refine Gs.reg (Lmv rfl rfl (Lq rfl (by first | exact pu_nil rfl | exact pu_nilF rfl) ?_))
    refine Lq rfl (pu_fa fa_92_0 rfl) (Lr rfl (rd_ld na_89 rfl (Rdc.cl1 (by repeat constructor) rfl)) ?_)
    refine Lmv rfl rfl (Lac0 rfl trivial (ac_del (encv := encv_94) Tryz.underlying89 kt_9 rfl rfl rfl (by repeat constructor)) ?_)
    rintro _ _ rfl
    refine Lnil (Gs.blk_n (Gn (Gs.reg (Lq rfl (by first | exact pu_addI rfl rfl rfl (by omega) (by omega) | exact pu_add rfl rfl) ?_))))
    refine Lmv rfl rfl (Lnt ?_)
    first | exact Gs.takes (As := [S2, plO da dc qs]) (by repeat constructor) (Gs.toTwo (Ag (j + 1, mdel (mput L2 w ⟨da, qs, dc⟩) w, two S2 (plO da dc qs)) ⟨by show j + 1 ≤ wl.length; omega, hst3, hL4, hW2.l, Srd.two1 hwr2⟩ (by show wl.length - (j + 1) < wl.length - j; omega))) | exact Gs.takes (As := [S2, plO da dc qs]) (by repeat constructor) (Gs.toTwo (Ag (j + 1, mput L2 w ⟨da, qs, dc⟩, two S2 (plO da dc qs)) ⟨by show j + 1 ≤ wl.length; omega, hst3, hL4, hW2.l, Srd.two1 hwr2⟩ (by show wl.length - (j + 1) < wl.length - j; omega)))
   have h0 : ¬ qs = [] := fun e => by have := of_decide_eq_false hc4; rw [e] at this; exact this rfl
   have hst3 : plL (mput L2 w ⟨da, qs, dc⟩) = (wl.take (j + 1)).foldl (dropE k) (plL L1) := by
     rw [hnx2, hpl]; unfold dropE; rw [if_neg (by rw [← hqe]; simpa using h0)]
   have hL4 := hL3
   refine Gs.skip (Gs.blk_n (Gn (Gs.reg (Lq rfl (by first | exact pu_addI rfl rfl rfl (by omega) (by omega) | exact pu_add rfl rfl) ?_))))
   refine Lmv rfl rfl (Lnt ?_)
   first | exact Gs.takes (As := [S2, plO da dc qs]) (by repeat constructor) (Gs.toTwo (Ag (j + 1, mdel (mput L2 w ⟨da, qs, dc⟩) w, two S2 (plO da dc qs)) ⟨by show j + 1 ≤ wl.length; omega, hst3, hL4, hW2.l, Srd.two1 hwr2⟩ (by show wl.length - (j + 1) < wl.length - j; omega))) | exact Gs.takes (As := [S2, plO da dc qs]) (by repeat constructor) (Gs.toTwo (Ag (j + 1, mput L2 w ⟨da, qs, dc⟩, two S2 (plO da dc qs)) ⟨by show j + 1 ≤ wl.length; omega, hst3, hL4, hW2.l, Srd.two1 hwr2⟩ (by show wl.length - (j + 1) < wl.length - j; omega)))
  have hge3 : j = wl.length := by have := of_decide_eq_false hc3; omega
  rw [hge3, List.take_length] at hst2
  have hsame : (plL L2, plW (mdel W1 k), n + 1) = (ks.take (i + 1)).foldl dropK (plL L, plW W, 0) := by
    rw [hnx]; unfold dropK; rw [show mget (plL L1, plW W1, n).2.1 k = some wl by show mget (plW W1) k = some wl; rw [plW, mm_get, hws]; rfl]
    show _ = (wl.foldl (dropE k) (plL L1), mdel (plW W1) k, n + 1)
    rw [← hst2, plW, plW, mm_del]
  refine Gs.takes (As := [cl x 92 [.map (some ml), .map (some mw)], mp strV slV ml L2, mp keyV slV mw (mdel W1 k), S2]) (by repeat constructor) (Gs.ixc hL2 hW2 ?_)
  refine Gs.exit (Gx (Gx (Gs.blk_hit (Gs.blk_n (Gn (Gs.reg (Lq rfl (by first | exact pu_addI rfl rfl rfl (by omega) (by omega) | exact pu_add rfl rfl) ?_)))))))
  refine Lmv rfl rfl (Lnt ?_)
  first | exact Ag (i + 1, n, L1, W1) ⟨by show i + 1 ≤ ks.length; omega, by show n ≤ i + 1; omega, hsame⟩ (by show ks.length - (i + 1) < ks.length - i; omega) | exact Ag (i + 1, n + 1, L2, mdel W1 k) ⟨by show i + 1 ≤ ks.length; omega, by show n + 1 ≤ i + 1; omega, hsame⟩ (by show ks.length - (i + 1) < ks.length - i; omega)
 have hge : i = ks.length := by have := of_decide_eq_false hc1; omega
 rw [hge, List.take_length] at hst
 refine Gs.exit (Gx (Gx (Gs.blk_hit (Gn (Gsr (Lmv rfl rfl (Las rfl rfl (Lnt (Gs.ret ?_)))))))))
 exact Gs.fin1 Tryz.results32 rfl _ (⟨n, L1, W1, rfl, hst, rfl⟩) (by repeat constructor)
end Go.Proofs.YtklgiidfompdpaaGreatDoor
namespace Go.Sl
open Go
structure Fw (F : Fence) : Prop where
 fn : ∀ f, F.fn f
 depth : F.depth = none
 calls : ∀ (n : Nat) (P : Program) (f : FuncId) (args : Array Value) (w : World) (R : Ending → World → Prop), Calls P f args w R → CallsIn F n P f args w R
theorem Fw.wide : Fw Fence.wide := ⟨fun _ => trivial, rfl, fun _ _ _ _ _ _ h => callsIn_wide.2 h⟩
theorem Fw.round (l : Nat) : Fw (Fence.wide.inRound l) := ⟨fun _ => trivial, rfl, fun n P f args w R h => CallsIn.inRound l (callsIn_wide (n := n).2 h)⟩
def notDefer : Op → Bool
 | .defer _ => false
 | _ => true
section
variable {P : Program} {n m : Nat} {w0 : World} {env : Env} {H : List HProp} {F : Fence}
theorem Outc.wpIn (fw : Fw F) {R : Value → World → Prop} {o : Oper} {a : Act} {w : World} {K : Act → World → Prop} {Q : Exit → Act → World → Prop} (hd : notDefer o.op = true) (h : Outc P R ((execOp a.eval o).run P w)) (k : ∀ v w', R v w' → K (a.put o.dst v) w') : o.wpIn F m P a w K Q := by
 unfold Oper.wpIn
 refine ⟨fun f _ => fw.fn f, ?_⟩
 rw [Oper.semAt_eq _ _ _ (fun c e => by rw [e] at hd; cases hd)]
 generalize (execOp a.eval o).run P w = r at h
 cases r with
 | ok x w' =>
   cases x <;> simp only [Outc] at h <;> first
     | exact k _ _ h
     | (refine ⟨fun hs => (by rw [fw.depth] at hs; cases hs), fw.calls _ _ _ _ _ _ (h.mono ?_)⟩
        rintro e w'' ⟨v, rfl, hr⟩
        exact k _ _ hr)
 | _ => exact h.elim
variable {Q : Exit → Act → World → Prop}
theorem GI.block {i : Nat} {c : Code} (g : Gs w0 n env H (c.wpIn F m P (Exit.inBlock i Q))) : Gs w0 n env H ((Code.block i c).wpIn F m P Q) := fun a w e s => wpIn_block (g a w e s)
theorem GI.reg {id : Nat} {l : List Oper} (ks : List Nat) (hk : List.range l.length = ks) (g : Gs w0 n env H (wpOpsIn F m P l.toArray Q ks)) : Gs w0 n env H ((Code.region id l.toArray false).wpIn F m P Q) := fun a w e s => wpIn_region (by subst hk; simpa using g a w e s)
variable {ops : Array Oper} {rest : List Nat}
theorem GI.ac {k d : Nat} {o : Oper} {post : Value → List HProp → Prop} (fw : Fw F) (ho : ops[k]? = some o) (hd : o.dst = some d) (hdn : Nat.blt d n = true) (hg : o.guard = none) (hnd : notDefer o.op = true) (s : Ac P o w0 env H post)
   (g : ∀ v H', post v H' → Gs w0 n ((d, v) :: env) H' (wpOpsIn F m P ops Q rest)) : Gs w0 n env H (wpOpsIn F m P ops Q (k :: rest)) := fun a w e t => by
 have hw : Region.wanted o (yielded ops a.tmps) = true := by simp [Region.wanted, hg]
 simp only [wpOpsIn, ho, hw, if_true]
 refine (s a.eval w e.rho t).wpIn fw hnd fun v w' ⟨H', p, t'⟩ => ?_
 rw [hd]; exact g v H' p _ _ (e.put (by simpa [Nat.blt_eq] using hdn) v) t'
theorem GI.ac0 {k : Nat} {o : Oper} {post : Value → List HProp → Prop} (fw : Fw F) (ho : ops[k]? = some o) (hd : o.dst = none) (hg : o.guard = none) (hnd : notDefer o.op = true) (s : Ac P o w0 env H post)
   (g : ∀ v H', post v H' → Gs w0 n env H' (wpOpsIn F m P ops Q rest)) : Gs w0 n env H (wpOpsIn F m P ops Q (k :: rest)) := fun a w e t => by
 have hw : Region.wanted o (yielded ops a.tmps) = true := by simp [Region.wanted, hg]
 simp only [wpOpsIn, ho, hw, if_true]
 refine (s a.eval w e.rho t).wpIn fw hnd fun v w' ⟨H', p, t'⟩ => ?_
 rw [hd]; exact g v H' p _ _ e t'
theorem GI.rd {k d : Nat} {o : Oper} {v : Value} (fw : Fw F) (ho : ops[k]? = some o) (hd : o.dst = some d) (hdn : Nat.blt d n = true) (hg : o.guard = none) (hnd : notDefer o.op = true) (s : Rd P o w0 env H v)
   (g : Gs w0 n ((d, v) :: env) H (wpOpsIn F m P ops Q rest)) : Gs w0 n env H (wpOpsIn F m P ops Q (k :: rest)) :=
 GI.ac fw ho hd hdn hg hnd s.ac fun _ _ ⟨h1, h2⟩ => by subst h1; subst h2; exact g
theorem GI.nil (g : Gs w0 n env H (Q .normal)) : Gs w0 n env H (wpOpsIn F m P ops Q []) := g
theorem Gs.wide {c : Code} (g : Gs w0 n env H (c.wpIn Fence.wide m P Q)) : Gs w0 n env H (c.wp P Q) := fun a w e s => wpIn_wide.1 (g a w e s)
theorem Gs.begin {l : Nat} {r : Loop} (hr : r.state = .ready) {X : Act → World → Prop} (g : Gs w0 n env (pt l (.loop { r with state := .busy }) :: H) X) :
   Gs w0 n env (pt l (.loop r) :: H) (fun a w => ∃ w₂, (Instr.beginRound l).run P w = .ok () w₂ ∧ X a w₂) := fun a w e s => ⟨_, run_beginRound s.pt hr, g a _ e s.setMap⟩
theorem Gs.endRound {l : Nat} {r : Loop} {R : Ending → World → Prop} (k : ∀ w', Sat w0 w' (pt l (.loop { r with state := .ready, pending := none }) :: H) → R (.returned (.bool true)) w') :
   Gs w0 n env (pt l (.loop r) :: H) (roundPost P l R .normal) := fun a w e s => ⟨_, _, run_endRound none s.pt, k _ s.setMap⟩
theorem Ct.introM {f : FuncId} {fn : Func} {c : Code} {args : List Value} {pre : List HProp} {post : Value → List HProp → Prop}
   (hf : P.funcs[f]? = some fn) (hb : fn.body = some c) (hname : (fn.name == "runtime.NumGoroutine") = false) (n : Nat) (hn : fn.ntmps = n) (hle : args.length ≤ n)
   (g : ∀ w0 R, Gs w0 n (envOf args 0) (pre ++ R) (c.wp P (bodyPostM Fence.wide 0 P fn fun e w' => ∃ v hs, e = .returned v ∧ post v hs ∧ Sat w0 w' (hs ++ R)))) :
   Ct P f args pre post := by
 refine ⟨Go.Proofs.enters_of hf hname hb args.toArray, fun w0 w R s => (callsIn_wide (n := 0)).1 (callsIn_of_wp_marks hf hb trivial (wpIn_wide.2 (g w0 R _ _ ⟨?_, rfl, ?_⟩ s)))⟩
 · simp [hn]; omega
 · intro t v h
   obtain ⟨-, h⟩ := lk_envOf args 0 t v h
   have hl := (List.getElem?_eq_some_iff.1 h).1
   simp only [Nat.sub_zero] at h hl
   simp [Array.getD_eq_getD_getElem?, Array.getElem?_append, hl, (List.getElem?_eq_some_iff.1 h).2]
theorem Sat.alloc2 {w : World} {L : List HProp} (s : Sat w0 w L) (o o' : Obj) : Sat w0 ((w.alloc o).alloc o') (Sl.pt (w.heap.size + 1) o' :: Sl.pt w.heap.size o :: L) := by
 have h := Sat.alloc (s.alloc o) o'
 have hsz : ({ w with heap := w.heap.push o } : World).heap.size = w.heap.size + 1 := by simp
 rw [hsz] at h; exact h
theorem tail_rd {l : List Oper} {o : Oper} {rest : List Oper} {d : Nat} {v : Value} {a : Act} {w : World} (ho : o.dst = some d) (hg : o.guard = none) (s : Rd P o w0 env H v) (rho : Rho env a.eval) (t : Sat w0 w H)
   (g : ∀ w', Sat w0 w' H → wpList P l.toArray Q rest (a.put (some d) v) w') : wpList P l.toArray Q (o :: rest) a w := by
 refine wpList_step fun K hK => ?_
 rw [if_pos (by simp [Region.wanted, hg])]
 refine (s.ac a.eval w rho t).wp fun v' w' ⟨H', ⟨hv, hH⟩, t'⟩ => hK _ _ ?_
 subst hv; subst hH; rw [ho]; exact g w' t'
theorem wp_rangeCall {x : Operand} {ps : Array Tmp} {assign body : Code} {a : Act} {w : World} {gf : FuncId} {cs : Array Value} (hg : a.eval x = .func (.func gf) #[] cs) (hen : ∀ args w, (callFunc gf args).run P w = .ok (.enter gf args) w)
   (h : ∀ fn r, r = ({ state := .ready, pending := none, fn, tmps := a.tmps, params := ps, assign, body, defers := w.heap.size } : Loop) → Calls P gf (#[.func (.yield (w.heap.size + 1)) #[] #[]] ++ cs) ((w.alloc (.deferred (some []))).alloc (.loop r)) fun e w' =>
     ∃ v w4, e = .returned v ∧ (Instr.endLoop (w.heap.size + 1)).run P w' = .ok none w4 ∧ Q .normal { a with defers := [{ target := .collected w.heap.size, args := #[] }] ++ a.defers } w4) :
   (Code.rangeFunc x ps assign body).wp P Q a w := by
 refine (wpIn_wide (n := 0)).1 (wpIn_rangeFunc (F := Fence.wide) (n := 0) fun fn _ => ?_)
 refine ⟨w.heap.size + 1, [{ target := .collected w.heap.size, args := #[] }], (w.alloc (.deferred (some []))).alloc (.loop { state := .ready, pending := none, fn, tmps := a.tmps, params := ps, assign, body, defers := w.heap.size }),
   { target := .fn (.func gf) cs, args := #[.func (.yield (w.heap.size + 1)) #[] #[]] }, (w.alloc (.deferred (some []))).alloc (.loop { state := .ready, pending := none, fn, tmps := a.tmps, params := ps, assign, body, defers := w.heap.size }), gf,
   #[.func (.yield (w.heap.size + 1)) #[] #[]] ++ cs, (w.alloc (.deferred (some []))).alloc (.loop { state := .ready, pending := none, fn, tmps := a.tmps, params := ps, assign, body, defers := w.heap.size }), run_enterLoop_outer _ _ _ _ _, ?_, fun _ _ => trivial, ?_, (fun h => by cases h), ?_⟩
 · simp only [resolve, hg]
   simp [go_sem]
 · simp [invoke, go_sem, hen]
 · refine callsIn_wide.2 ((h fn _ rfl).mono ?_)
   rintro e w' ⟨v, w4, rfl, h1, h2⟩
   exact ⟨none, w4, h1, h2⟩
end
end Go.Sl
namespace Go.Proofs.YtklgiidfompdpaaGreatDoor
open Go Go.Sl Go.Gv Go.Kv Go.Po Go.Ix
set_option maxRecDepth 100000
def l_YOk (P : Program) (l : Nat) (J : List ByteArray → HProp) : Prop := ∀ (pre : List ByteArray) (x : ByteArray) (w0 w : World) (R : List HProp), pre.length < 100000 → Sat w0 w (J pre :: R) → ∃ f tmps assign body, (Instr.yield l #[strV x]).run P w = .ok (.round l f tmps assign body) w ∧
 ∀ m, RoundIn Fence.wide m P l f tmps assign body w fun e w' => e = .returned (.bool true) ∧ Sat w0 w' (J (pre ++ [x]) :: R)
theorem l_erase_perm {α : Type} : ∀ {l : List α} {i : Nat} {x : α}, l[i]? = some x → List.Perm (x :: l.eraseIdx i) l
 | [], _, _, h => by simp at h
 | a :: l, 0, x, h => by simp at h; subst h; exact List.Perm.refl _
 | a :: l, i + 1, x, h => by
   have := l_erase_perm (l := l) (i := i) (x := x) (by simpa using h)
   exact (List.Perm.swap a x _).trans (this.cons a)
theorem Gs.l_yieldAt {l : Nat} {J : List ByteArray → HProp} (hY : l_YOk Tryz.prog l J) {w0 : World} {n m k dd : Nat} {env : Env} {H : List HProp} {Q : Exit → Act → World → Prop} {ops : Array Oper} {rest : List Nat} {x y : Operand} {ts : Array TypeId} {ty : TypeId} {pos : String} {af : Array Edge} {pre : List ByteArray} (z : ByteArray)
   (hpl : pre.length < 100000) (ho : ops[k]? = some ⟨some dd, .call ⟨.value x, #[y], ts⟩, ty, pos, af, none⟩) (hdn : Nat.blt dd n = true) (hx : ev env x = some (.func (.yield l) #[] #[])) (hy : ev env y = some (strV z))
   (g : Gs w0 n ((dd, .bool true) :: env) (J (pre ++ [z]) :: H) (wpOpsIn Fence.wide m Tryz.prog ops Q rest)) : Gs w0 n env (J pre :: H) (wpOpsIn Fence.wide m Tryz.prog ops Q (k :: rest)) := fun a w e t => by
 obtain ⟨f, tmps, assign, body, h1, h2⟩ := hY pre z w0 w H hpl t
 have hw : Region.wanted ⟨some dd, .call ⟨.value x, #[y], ts⟩, ty, pos, af, none⟩ (yielded ops a.tmps) = true := by simp [Region.wanted]
 have hr : (execOp a.eval ⟨some dd, .call ⟨.value x, #[y], ts⟩, ty, pos, af, none⟩).run Tryz.prog w = .ok (.round l f tmps assign body) w := by
   show (do let d ← resolve a.eval ⟨.value x, #[y], ts⟩ ty; invoke d.target d.args : Sem Next).run Tryz.prog w = _
   have hr1 : resolve a.eval ⟨.value x, #[y], ts⟩ ty = (pure ⟨.fn (.yield l) #[], #[strV z]⟩ : Sem Deferred) := by
     simp only [resolve, e.eval hx, Deferred.ofValue]
     simp [e.eval hy]
   rw [hr1]
   simp only [Sem.run_bind, Sem.run_pure, Result.andThen_ok, invoke]
   exact h1
 simp only [wpOpsIn, ho, hw, if_true]
 unfold Oper.wpIn
 refine ⟨fun _ _ => trivial, ?_⟩
 rw [show Fence.wide.round = none from rfl, Oper.semAt_none, hr]
 refine ⟨(fun hs => by cases hs), (h2 (m - 1)).mono ?_⟩
 rintro e' w' ⟨rfl, t'⟩
 exact g _ _ (e.put (by simpa [Nat.blt_eq] using hdn) _) t'
theorem l_keysFn_spec (m : Nat) : Ct Tryz.prog 169 [.map (some m)] []
   (fun v hs => ∃ b, v = .func (.func 210) #[] #[.pointer (some ⟨b, 0, none⟩)] ∧ hs = [cl b 89 [.map (some m)]]) := by
 refine Cti Tryz.func169 (by kernel_rfl) 4 Tryz.ntmps169 rfl rfl fun w0 R => ?_
 refine Gsr (La rfl (ac_box rfl rfl) ?_)
 rintro _ _ ⟨b, rfl, rfl⟩
 refine Las rfl rfl (Lnt (Gsr (Lq rfl (pu_func (by repeat constructor) (by repeat constructor)) ?_)))
 refine Las rfl rfl (Lnt (Gs.ret ?_))
 exact Gs.fin1 Tryz.results169 rfl _ (⟨b, rfl, rfl⟩) (by repeat constructor)
theorem l_iter_spec {l : Nat} {J : List ByteArray → HProp} (hY : l_YOk Tryz.prog l J) (b m : Nat) (es : List (ByteArray × (SlV PostV))) (hes : es.length ≤ 100000) :
   Ct Tryz.prog 210 [.func (.yield l) #[] #[], .pointer (some ⟨b, 0, none⟩)] [J [], cl b 89 [.map (some m)], mp strV slV m es]
     (fun _ hs => ∃ xs, List.Perm xs (mkeys es) ∧ hs = [J xs, cl b 89 [.map (some m)], mp strV slV m es]) := by
 refine Cti Tryz.func210 (by kernel_rfl) 14 Tryz.ntmps210 rfl rfl fun w0 R => ?_
 refine Gsr (Lr rfl (rd_ld na_89 rfl (Rdc.cl1 (by repeat constructor) rfl)) ?_)
 refine La rfl (ac_range (enck := strV) (encv := slV) Tryz.underlying89 rfl (by repeat constructor)) ?_
 rintro _ _ ⟨r, rfl, rfl⟩
 refine Lnt (Gs.block (Gs.loop1 (fun s : List ByteArray × List (ByteArray × (SlV PostV)) × Option (ByteArray × (SlV PostV)) => List.Perm (s.1 ++ mkeys s.2.1) (mkeys es)) (fun s => [(0, .func (.yield l) #[] #[]), (5, .pointer (some ⟨r, 0, none⟩))]) (fun s => [itr strV slV r m es s.2.1 s.2.2, J s.1, cl b 89 [.map (some m)]] ++ R) (fun s => s.2.1.length) ([], es, none) (List.Perm.refl _) (by repeat constructor) (by repeat constructor) (fun s hs => ?_)))
 obtain ⟨pre, left, last⟩ := s
 dsimp only at hs ⊢
 refine Gsr (La rfl (ac_next rfl (by repeat constructor)) ?_)
 rintro _ _ (⟨hl, rfl, rfl⟩ | ⟨i, p, hp, rfl, rfl⟩)
 ·
  have hl' : left = [] := hl
  subst hl'
  refine Gs.itrEnd (by repeat constructor) ?_
  refine Lq rfl (pu_extract rfl rfl) (Lnt (Gs.seq (Gs.cond_f rfl (Gs.exit (Gx (Gx (Gs.blk_hit (Gs.fin_n ?_))))))))
  exact Gs.fin0 Tryz.results210 _ (⟨pre, by simpa [mkeys] using hs, rfl⟩) (by repeat constructor)
 have hperm : List.Perm ((pre ++ [p.1]) ++ mkeys (left.eraseIdx i)) (mkeys es) := by
   refine List.Perm.trans ?_ hs
   rw [List.append_assoc]
   refine List.Perm.append_left pre ?_
   have h1 : List.Perm (p :: left.eraseIdx i) left := l_erase_perm hp
   exact h1.map Prod.fst
 have hlt : (left.eraseIdx i).length < left.length := by
   have := (List.getElem?_eq_some_iff.1 hp).1
   rw [List.length_eraseIdx_of_lt this]; omega
 have hpl : pre.length < 100000 := by
   have h1 := hs.length_eq
   have h2 := (List.getElem?_eq_some_iff.1 hp).1
   simp [mkeys] at h1; omega
 refine Lq rfl (pu_extract rfl rfl) (Lnt (Gs.seq (Gs.cond_t rfl (Gs.skip (Gn (Gs.block (Gsr (Lr rfl (ac_entry rfl (by repeat constructor)) ?_))))))))
 refine Lq rfl (pu_extract rfl rfl) (Las rfl rfl (Lnt (Gs.seq (Gs.wide (m := 0) ?_))))
 refine GI.reg [0, 1, 2, 3] rfl (GI.rd Fw.wide rfl rfl rfl rfl rfl (Pu.rd (pu_move rfl)) (GI.rd Fw.wide rfl rfl rfl rfl rfl (Pu.rd (pu_move rfl)) (Gs.take (A := J pre) (by repeat constructor) ?_)))
 refine Gs.l_yieldAt hY p.1 hpl rfl rfl rfl rfl (GI.rd Fw.wide rfl rfl rfl rfl rfl (Pu.rd (pu_not rfl)) (GI.nil (Gn (Gs.cond_f rfl (Gs.skip (Gs.blk_n (Gn ?_)))))))
 exact Ag (pre ++ [p.1], left.eraseIdx i, some p) hperm hlt
def l_colJ (l b2 : Nat) (r : Loop) (pre : List ByteArray) : HProp := fun h => ∃ p : Option Addr × Nat, two (pt l (.loop r)) (two (cl b2 23 [.slice p.1 pre.length p.2]) (sl 9 1 strC p.1 p.2 pre)) h
theorem l_colJ_fold {l b2 n : Nat} {r : Loop} {pre : List ByteArray} {a : Option Addr} {c : Nat} {w0 w : World} {L : List HProp} (hn : n = pre.length) (s : Sat w0 w (pt l (.loop r) :: cl b2 23 [.slice a n c] :: sl 9 1 strC a c pre :: L)) : Sat w0 w (l_colJ l b2 r pre :: L) := by
 subst hn
 have s1 : Sat w0 w (cl b2 23 [.slice a pre.length c] :: sl 9 1 strC a c pre :: pt l (.loop r) :: L) := (s.take (.tl (.tl .hd))).take (.tl (.tl .hd))
 exact (Sat.two.2 ((Sat.two.2 s1).take (.tl .hd))).ent fun h x => ⟨(a, c), x⟩
theorem l_colJ_open {l b2 : Nat} {r : Loop} {pre : List ByteArray} {w0 w : World} {L : List HProp} (s : Sat w0 w (l_colJ l b2 r pre :: L)) : ∃ a c, Sat w0 w (pt l (.loop r) :: cl b2 23 [.slice a pre.length c] :: sl 9 1 strC a c pre :: L) := by
 obtain ⟨p, s1⟩ := s.ex
 have s2 := Sat.two.1 ((Sat.two.1 s1).take (.tl .hd))
 exact ⟨p.1, p.2, s2.take (.tl (.tl .hd))⟩
theorem l_collect_seq (b m : Nat) (es : List (ByteArray × (SlV PostV))) (hl : es.length ≤ 100000) :
   Ct Tryz.prog 144 [.slice none 0 0, .func (.func 210) #[] #[.pointer (some ⟨b, 0, none⟩)]]
     [cl b 89 [.map (some m)], mp strV slV m es] (fun v hs => ∃ xs a c, List.Perm xs (mkeys es) ∧ v = .slice a xs.length c ∧ hs = [sl 9 1 strC a c xs, mp strV slV m es]) := by
 refine Ct.introM Tryz.func144 rfl (by kernel_rfl) 13 Tryz.ntmps144 (Nat.le_of_ble_eq_true rfl) fun w0 R => ?_
 refine Gsr (La rfl (ac_box rfl rfl) ?_)
 rintro _ _ ⟨b2, rfl, rfl⟩
 refine Las rfl rfl (Lnt (Gs.seq (Gsr (Lmv rfl rfl (Lnt (Gs.block (Gs.slNil 9 1 strC ?_)))))))
 intro a w e s
 have hen : ∀ args w, (callFunc 210 args).run Tryz.prog w = .ok (.enter 210 args) w := Go.Proofs.enters_of Tryz.func210 (by kernel_rfl) rfl
 have he : a.eval (.tmp 6) = .func (.func 210) #[] #[.pointer (some ⟨b, 0, none⟩)] := e.eval rfl
 refine wp_rangeCall he hen fun fn r hr => ?_
 have sat1 := s.alloc2 (.deferred (some [])) (.loop r)
 have hY : l_YOk Tryz.prog (w.heap.size + 1) (l_colJ (w.heap.size + 1) b2 r) := by
   intro pre x w1 w' R' hpl hs
   obtain ⟨a', c', s1⟩ := l_colJ_open hs
   refine ⟨r.fn, _, r.assign, r.body, run_yield s1.pt (by rw [hr]; rfl), fun m => roundIn_of_wpIn trivial ?_⟩
   have ht : (r.params.zip #[strV x]).foldl (fun tmps (t, a) => tmps.setIfInBounds t a) r.tmps = (a.put (some 7) (strV x)).tmps := by rw [hr]; simp [Act.put]
   have e7 : EnvOk 13 [(7, strV x), (2, .pointer (some ⟨b2, 0, none⟩))] ⟨(r.params.zip #[strV x]).foldl (fun tmps (t, a) => tmps.setIfInBounds t a) r.tmps, []⟩ := by
     rw [ht]
     have e8 := (e.put (d := 7) (by decide) (strV x)).sub (e := [(7, strV x), (2, .pointer (some ⟨b2, 0, none⟩))]) (by repeat constructor)
     exact ⟨e8.size, rfl, e8.slots⟩
   refine (?_ : Gs w1 13 [(7, strV x), (2, .pointer (some ⟨b2, 0, none⟩))] _ _) _ _ e7 s1
   subst hr
   refine GI.reg [0] rfl (GI.rd (Fw.round _) rfl rfl rfl rfl rfl (Pu.rd (pu_assign rfl)) (GI.nil (Gn (Gs.take .hd (Gs.begin rfl (GI.block (GI.reg [0, 1, 2, 3, 4] rfl (GI.rd (Fw.round _) rfl rfl rfl rfl rfl (rd_ld na_23 rfl (Rdc.cl1 (by repeat constructor) rfl)) ?_))))))))
   refine GI.rd (Fw.round _) rfl rfl rfl rfl rfl (Pu.rd (pu_move rfl)) (GI.ac (Fw.round _) rfl rfl rfl rfl rfl (ac_lit strC [x] et_23 ek_9 rfl (by repeat constructor) rfl rfl (by decide)) ?_)
   rintro _ _ ⟨lb, rfl, rfl⟩
   refine GI.ac (Fw.round _) rfl rfl rfl rfl rfl (ac_append (xs := pre) et_23 ek_9 rfl rfl (by repeat constructor) (SrcH.sl Tryz.underlying23 ek_9 (SlH.own (by repeat constructor))) (by simp; omega) (by simp; omega)) ?_
   rintro _ _ ⟨a2, c2, rfl, rfl⟩
   refine GI.ac0 (Fw.round _) rfl rfl rfl rfl (ac_st sz_23 rfl rfl (by repeat constructor) rfl rfl rfl rfl) ?_
   rintro _ _ rfl
   refine GI.nil (Gs.blk_n (Gs.take (A := pt (w.heap.size + 1) (.loop _)) (by repeat constructor) ?_))
   refine Gs.endRound fun w'' s'' => ⟨rfl, l_colJ_fold (a := a2) (c := c2) rfl (Ent.sat (by repeat constructor) s'')⟩
 have satJ : Sat w0 ((w.alloc (.deferred (some []))).alloc (.loop r)) ([l_colJ (w.heap.size + 1) b2 r [], cl b 89 [.map (some m)], mp strV slV m es] ++ (pt w.heap.size (.deferred (some [])) :: R)) := by
   have := sat1.takes (As := [pt (w.heap.size + 1) (.loop r), cl b2 23 [.slice none 0 0], sl 9 1 strC none 0 [], cl b 89 [.map (some m)], mp strV slV m es]) (by repeat constructor)
   exact l_colJ_fold rfl this
 refine ((l_iter_spec hY b m es hl).calls w0 _ _ satJ).mono ?_
 rintro e' w' ⟨v, hs, rfl, ⟨xs, hp, rfl⟩, sat2⟩
 obtain ⟨a', c', s3⟩ := l_colJ_open sat2
 have hend := run_endLoop (P := Tryz.prog) s3.pt (by rw [hr]; simp)
 rw [show r.pending = none by rw [hr]] at hend
 refine ⟨v, _, rfl, hend, ?_⟩
 have s4 : Sat w0 (w'.putObj (w.heap.size + 1) (.loop { r with state := .exhausted, pending := none })) _ := s3.setMap
 have rho : Rho [(2, .pointer (some ⟨b2, 0, none⟩))] a.eval := (e.sub (e := [(2, .pointer (some ⟨b2, 0, none⟩))]) (by repeat constructor)).rho
 refine wp_seq (wp_region_lit ?_)
 refine tail_rd rfl rfl (rd_ld na_23 rfl (Rdc.cl1 (by repeat constructor) rfl)) rho s4 fun w5 s5 => ?_
 have e5 := (e.put (d := 12) (by decide) (.slice a' xs.length c'))
 have rho5 : Rho [(12, .slice a' xs.length c')] (({ a with defers := [{ target := .collected w.heap.size, args := #[] }] ++ a.defers } : Act).put (some 12) (.slice a' xs.length c')).eval :=
   (e5.sub (e := [(12, .slice a' xs.length c')]) (by repeat constructor)).rho
 refine tail_rd rfl rfl (Pu.rd (pu_assign rfl)) rho5 s5 fun w6 s6 => ?_
 have e6 := (e5.put (d := 4) (by decide) (.slice a' xs.length c'))
 refine wp_ret ?_
 have s7 := s6.take (A := pt w.heap.size (.deferred (some []))) (by repeat constructor)
 have hds : a.defers = [] := e.defers
 show LeavesInM Fence.wide 0 _ _ _ _ ({ target := .collected w.heap.size, args := #[] } :: a.defers) .returning w6
 rw [hds]
 refine ⟨by simp, .inl ⟨w.heap.size, _, rfl, run_takeDeferred s7.pt, ?_⟩⟩
 have s8 : Sat w0 (w6.putObj w.heap.size (.deferred none)) _ := s7.setMap (o' := .deferred none)
 refine ⟨_, results_tmp Tryz.results144 _ _ _, _, _, rfl, ⟨xs, a', c', hp, ?_, rfl⟩, Ent.sat (by repeat constructor) s8⟩
 exact e6.slots 4 _ rfl
theorem l_collect_spec (b m : Nat) (es : List (ByteArray × (SlV PostV))) (hl : es.length ≤ 100000) :
   Ct Tryz.prog 96 [.func (.func 210) #[] #[.pointer (some ⟨b, 0, none⟩)]]
     [cl b 89 [.map (some m)], mp strV slV m es] (fun v hs => ∃ xs a c, List.Perm xs (mkeys es) ∧ v = .slice a xs.length c ∧ hs = [sl 9 1 strC a c xs, mp strV slV m es]) := by
 refine Cti Tryz.func96 (by kernel_rfl) 5 Tryz.ntmps96 rfl rfl fun w0 R => ?_
 refine Gsr (Las rfl rfl (Lnt (Gsr (Lmv rfl rfl (La rfl (asC (l_collect_seq b m es hl)) ?_)))))
 rintro _ _ ⟨_, ⟨xs, a, c, hp, rfl, rfl⟩, rfl⟩
 refine Las rfl rfl (Lnt (Gs.ret ?_))
 exact Gs.fin1 Tryz.results96 rfl _ (⟨xs, a, c, hp, rfl, rfl⟩) (by repeat constructor)
end Go.Proofs.YtklgiidfompdpaaGreatDoor
namespace Go.Proofs.YtklgiidfompdpaaGreatDoor
open Go Go.Sl Go.Gv Go.Kv Go.Po Go.Ix
set_option maxRecDepth 100000
def t_YOk (P : Program) (l : Nat) (J : List ByteArray → HProp) : Prop := ∀ (pre : List ByteArray) (x : ByteArray) (w0 w : World) (R : List HProp), pre.length < 100000 → Sat w0 w (J pre :: R) → ∃ f tmps assign body, (Instr.yield l #[strV x]).run P w = .ok (.round l f tmps assign body) w ∧
 ∀ m, RoundIn Fence.wide m P l f tmps assign body w fun e w' => e = .returned (.bool true) ∧ Sat w0 w' (J (pre ++ [x]) :: R)
theorem t_erase_perm {α : Type} : ∀ {l : List α} {i : Nat} {x : α}, l[i]? = some x → List.Perm (x :: l.eraseIdx i) l
 | [], _, _, h => by simp at h
 | a :: l, 0, x, h => by simp at h; subst h; exact List.Perm.refl _
 | a :: l, i + 1, x, h => by
   have := t_erase_perm (l := l) (i := i) (x := x) (by simpa using h)
   exact (List.Perm.swap a x _).trans (this.cons a)
theorem Gs.t_yieldAt {l : Nat} {J : List ByteArray → HProp} (hY : t_YOk Tryz.prog l J) {w0 : World} {n m k dd : Nat} {env : Env} {H : List HProp} {Q : Exit → Act → World → Prop} {ops : Array Oper} {rest : List Nat} {x y : Operand} {ts : Array TypeId} {ty : TypeId} {pos : String} {af : Array Edge} {pre : List ByteArray} (z : ByteArray)
   (hpl : pre.length < 100000) (ho : ops[k]? = some ⟨some dd, .call ⟨.value x, #[y], ts⟩, ty, pos, af, none⟩) (hdn : Nat.blt dd n = true) (hx : ev env x = some (.func (.yield l) #[] #[])) (hy : ev env y = some (strV z))
   (g : Gs w0 n ((dd, .bool true) :: env) (J (pre ++ [z]) :: H) (wpOpsIn Fence.wide m Tryz.prog ops Q rest)) : Gs w0 n env (J pre :: H) (wpOpsIn Fence.wide m Tryz.prog ops Q (k :: rest)) := fun a w e t => by
 obtain ⟨f, tmps, assign, body, h1, h2⟩ := hY pre z w0 w H hpl t
 have hw : Region.wanted ⟨some dd, .call ⟨.value x, #[y], ts⟩, ty, pos, af, none⟩ (yielded ops a.tmps) = true := by simp [Region.wanted]
 have hr : (execOp a.eval ⟨some dd, .call ⟨.value x, #[y], ts⟩, ty, pos, af, none⟩).run Tryz.prog w = .ok (.round l f tmps assign body) w := by
   show (do let d ← resolve a.eval ⟨.value x, #[y], ts⟩ ty; invoke d.target d.args : Sem Next).run Tryz.prog w = _
   have hr1 : resolve a.eval ⟨.value x, #[y], ts⟩ ty = (pure ⟨.fn (.yield l) #[], #[strV z]⟩ : Sem Deferred) := by
     simp only [resolve, e.eval hx, Deferred.ofValue]
     simp [e.eval hy]
   rw [hr1]
   simp only [Sem.run_bind, Sem.run_pure, Result.andThen_ok, invoke]
   exact h1
 simp only [wpOpsIn, ho, hw, if_true]
 unfold Oper.wpIn
 refine ⟨fun _ _ => trivial, ?_⟩
 rw [show Fence.wide.round = none from rfl, Oper.semAt_none, hr]
 refine ⟨(fun hs => by cases hs), (h2 (m - 1)).mono ?_⟩
 rintro e' w' ⟨rfl, t'⟩
 exact g _ _ (e.put (by simpa [Nat.blt_eq] using hdn) _) t'
theorem t_keysFn_spec (m : Nat) : Ct Tryz.prog 51 [.map (some m)] []
   (fun v hs => ∃ b, v = .func (.func 98) #[] #[.pointer (some ⟨b, 0, none⟩)] ∧ hs = [cl b 96 [.map (some m)]]) := by
 refine Cti Tryz.func51 (by kernel_rfl) 4 Tryz.ntmps51 rfl rfl fun w0 R => ?_
 refine Gsr (La rfl (ac_box rfl rfl) ?_)
 rintro _ _ ⟨b, rfl, rfl⟩
 refine Las rfl rfl (Lnt (Gsr (Lq rfl (pu_func (by repeat constructor) (by repeat constructor)) ?_)))
 refine Las rfl rfl (Lnt (Gs.ret ?_))
 exact Gs.fin1 Tryz.results51 rfl _ (⟨b, rfl, rfl⟩) (by repeat constructor)
theorem t_iter_spec {l : Nat} {J : List ByteArray → HProp} (hY : t_YOk Tryz.prog l J) (b m : Nat) (es : List (ByteArray × (SlV Int))) (hes : es.length ≤ 100000) :
   Ct Tryz.prog 98 [.func (.yield l) #[] #[], .pointer (some ⟨b, 0, none⟩)] [J [], cl b 96 [.map (some m)], mp strV slV m es]
     (fun _ hs => ∃ xs, List.Perm xs (mkeys es) ∧ hs = [J xs, cl b 96 [.map (some m)], mp strV slV m es]) := by
 refine Cti Tryz.func98 (by kernel_rfl) 14 Tryz.ntmps98 rfl rfl fun w0 R => ?_
 refine Gsr (Lr rfl (rd_ld na_96 rfl (Rdc.cl1 (by repeat constructor) rfl)) ?_)
 refine La rfl (ac_range (enck := strV) (encv := slV) Tryz.underlying96 rfl (by repeat constructor)) ?_
 rintro _ _ ⟨r, rfl, rfl⟩
 refine Lnt (Gs.block (Gs.loop1 (fun s : List ByteArray × List (ByteArray × (SlV Int)) × Option (ByteArray × (SlV Int)) => List.Perm (s.1 ++ mkeys s.2.1) (mkeys es)) (fun s => [(0, .func (.yield l) #[] #[]), (5, .pointer (some ⟨r, 0, none⟩))]) (fun s => [itr strV slV r m es s.2.1 s.2.2, J s.1, cl b 96 [.map (some m)]] ++ R) (fun s => s.2.1.length) ([], es, none) (List.Perm.refl _) (by repeat constructor) (by repeat constructor) (fun s hs => ?_)))
 obtain ⟨pre, left, last⟩ := s
 dsimp only at hs ⊢
 refine Gsr (La rfl (ac_next rfl (by repeat constructor)) ?_)
 rintro _ _ (⟨hl, rfl, rfl⟩ | ⟨i, p, hp, rfl, rfl⟩)
 ·
  have hl' : left = [] := hl
  subst hl'
  refine Gs.itrEnd (by repeat constructor) ?_
  refine Lq rfl (pu_extract rfl rfl) (Lnt (Gs.seq (Gs.cond_f rfl (Gs.exit (Gx (Gx (Gs.blk_hit (Gs.fin_n ?_))))))))
  exact Gs.fin0 Tryz.results98 _ (⟨pre, by simpa [mkeys] using hs, rfl⟩) (by repeat constructor)
 have hperm : List.Perm ((pre ++ [p.1]) ++ mkeys (left.eraseIdx i)) (mkeys es) := by
   refine List.Perm.trans ?_ hs
   rw [List.append_assoc]
   refine List.Perm.append_left pre ?_
   have h1 : List.Perm (p :: left.eraseIdx i) left := t_erase_perm hp
   exact h1.map Prod.fst
 have hlt : (left.eraseIdx i).length < left.length := by
   have := (List.getElem?_eq_some_iff.1 hp).1
   rw [List.length_eraseIdx_of_lt this]; omega
 have hpl : pre.length < 100000 := by
   have h1 := hs.length_eq
   have h2 := (List.getElem?_eq_some_iff.1 hp).1
   simp [mkeys] at h1; omega
 refine Lq rfl (pu_extract rfl rfl) (Lnt (Gs.seq (Gs.cond_t rfl (Gs.skip (Gn (Gs.block (Gsr (Lr rfl (ac_entry rfl (by repeat constructor)) ?_))))))))
 refine Lq rfl (pu_extract rfl rfl) (Las rfl rfl (Lnt (Gs.seq (Gs.wide (m := 0) ?_))))
 refine GI.reg [0, 1, 2, 3] rfl (GI.rd Fw.wide rfl rfl rfl rfl rfl (Pu.rd (pu_move rfl)) (GI.rd Fw.wide rfl rfl rfl rfl rfl (Pu.rd (pu_move rfl)) (Gs.take (A := J pre) (by repeat constructor) ?_)))
 refine Gs.t_yieldAt hY p.1 hpl rfl rfl rfl rfl (GI.rd Fw.wide rfl rfl rfl rfl rfl (Pu.rd (pu_not rfl)) (GI.nil (Gn (Gs.cond_f rfl (Gs.skip (Gs.blk_n (Gn ?_)))))))
 exact Ag (pre ++ [p.1], left.eraseIdx i, some p) hperm hlt
def t_colJ (l b2 : Nat) (r : Loop) (pre : List ByteArray) : HProp := fun h => ∃ p : Option Addr × Nat, two (pt l (.loop r)) (two (cl b2 23 [.slice p.1 pre.length p.2]) (sl 9 1 strC p.1 p.2 pre)) h
theorem t_colJ_fold {l b2 n : Nat} {r : Loop} {pre : List ByteArray} {a : Option Addr} {c : Nat} {w0 w : World} {L : List HProp} (hn : n = pre.length) (s : Sat w0 w (pt l (.loop r) :: cl b2 23 [.slice a n c] :: sl 9 1 strC a c pre :: L)) : Sat w0 w (t_colJ l b2 r pre :: L) := by
 subst hn
 have s1 : Sat w0 w (cl b2 23 [.slice a pre.length c] :: sl 9 1 strC a c pre :: pt l (.loop r) :: L) := (s.take (.tl (.tl .hd))).take (.tl (.tl .hd))
 exact (Sat.two.2 ((Sat.two.2 s1).take (.tl .hd))).ent fun h x => ⟨(a, c), x⟩
theorem t_colJ_open {l b2 : Nat} {r : Loop} {pre : List ByteArray} {w0 w : World} {L : List HProp} (s : Sat w0 w (t_colJ l b2 r pre :: L)) : ∃ a c, Sat w0 w (pt l (.loop r) :: cl b2 23 [.slice a pre.length c] :: sl 9 1 strC a c pre :: L) := by
 obtain ⟨p, s1⟩ := s.ex
 have s2 := Sat.two.1 ((Sat.two.1 s1).take (.tl .hd))
 exact ⟨p.1, p.2, s2.take (.tl (.tl .hd))⟩
theorem t_collect_seq (b m : Nat) (es : List (ByteArray × (SlV Int))) (hl : es.length ≤ 100000) :
   Ct Tryz.prog 144 [.slice none 0 0, .func (.func 98) #[] #[.pointer (some ⟨b, 0, none⟩)]]
     [cl b 96 [.map (some m)], mp strV slV m es] (fun v hs => ∃ xs a c, List.Perm xs (mkeys es) ∧ v = .slice a xs.length c ∧ hs = [sl 9 1 strC a c xs, mp strV slV m es]) := by
 refine Ct.introM Tryz.func144 rfl (by kernel_rfl) 13 Tryz.ntmps144 (Nat.le_of_ble_eq_true rfl) fun w0 R => ?_
 refine Gsr (La rfl (ac_box rfl rfl) ?_)
 rintro _ _ ⟨b2, rfl, rfl⟩
 refine Las rfl rfl (Lnt (Gs.seq (Gsr (Lmv rfl rfl (Lnt (Gs.block (Gs.slNil 9 1 strC ?_)))))))
 intro a w e s
 have hen : ∀ args w, (callFunc 98 args).run Tryz.prog w = .ok (.enter 98 args) w := Go.Proofs.enters_of Tryz.func98 (by kernel_rfl) rfl
 have he : a.eval (.tmp 6) = .func (.func 98) #[] #[.pointer (some ⟨b, 0, none⟩)] := e.eval rfl
 refine wp_rangeCall he hen fun fn r hr => ?_
 have sat1 := s.alloc2 (.deferred (some [])) (.loop r)
 have hY : t_YOk Tryz.prog (w.heap.size + 1) (t_colJ (w.heap.size + 1) b2 r) := by
   intro pre x w1 w' R' hpl hs
   obtain ⟨a', c', s1⟩ := t_colJ_open hs
   refine ⟨r.fn, _, r.assign, r.body, run_yield s1.pt (by rw [hr]; rfl), fun m => roundIn_of_wpIn trivial ?_⟩
   have ht : (r.params.zip #[strV x]).foldl (fun tmps (t, a) => tmps.setIfInBounds t a) r.tmps = (a.put (some 7) (strV x)).tmps := by rw [hr]; simp [Act.put]
   have e7 : EnvOk 13 [(7, strV x), (2, .pointer (some ⟨b2, 0, none⟩))] ⟨(r.params.zip #[strV x]).foldl (fun tmps (t, a) => tmps.setIfInBounds t a) r.tmps, []⟩ := by
     rw [ht]
     have e8 := (e.put (d := 7) (by decide) (strV x)).sub (e := [(7, strV x), (2, .pointer (some ⟨b2, 0, none⟩))]) (by repeat constructor)
     exact ⟨e8.size, rfl, e8.slots⟩
   refine (?_ : Gs w1 13 [(7, strV x), (2, .pointer (some ⟨b2, 0, none⟩))] _ _) _ _ e7 s1
   subst hr
   refine GI.reg [0] rfl (GI.rd (Fw.round _) rfl rfl rfl rfl rfl (Pu.rd (pu_assign rfl)) (GI.nil (Gn (Gs.take .hd (Gs.begin rfl (GI.block (GI.reg [0, 1, 2, 3, 4] rfl (GI.rd (Fw.round _) rfl rfl rfl rfl rfl (rd_ld na_23 rfl (Rdc.cl1 (by repeat constructor) rfl)) ?_))))))))
   refine GI.rd (Fw.round _) rfl rfl rfl rfl rfl (Pu.rd (pu_move rfl)) (GI.ac (Fw.round _) rfl rfl rfl rfl rfl (ac_lit strC [x] et_23 ek_9 rfl (by repeat constructor) rfl rfl (by decide)) ?_)
   rintro _ _ ⟨lb, rfl, rfl⟩
   refine GI.ac (Fw.round _) rfl rfl rfl rfl rfl (ac_append (xs := pre) et_23 ek_9 rfl rfl (by repeat constructor) (SrcH.sl Tryz.underlying23 ek_9 (SlH.own (by repeat constructor))) (by simp; omega) (by simp; omega)) ?_
   rintro _ _ ⟨a2, c2, rfl, rfl⟩
   refine GI.ac0 (Fw.round _) rfl rfl rfl rfl (ac_st sz_23 rfl rfl (by repeat constructor) rfl rfl rfl rfl) ?_
   rintro _ _ rfl
   refine GI.nil (Gs.blk_n (Gs.take (A := pt (w.heap.size + 1) (.loop _)) (by repeat constructor) ?_))
   refine Gs.endRound fun w'' s'' => ⟨rfl, t_colJ_fold (a := a2) (c := c2) rfl (Ent.sat (by repeat constructor) s'')⟩
 have satJ : Sat w0 ((w.alloc (.deferred (some []))).alloc (.loop r)) ([t_colJ (w.heap.size + 1) b2 r [], cl b 96 [.map (some m)], mp strV slV m es] ++ (pt w.heap.size (.deferred (some [])) :: R)) := by
   have := sat1.takes (As := [pt (w.heap.size + 1) (.loop r), cl b2 23 [.slice none 0 0], sl 9 1 strC none 0 [], cl b 96 [.map (some m)], mp strV slV m es]) (by repeat constructor)
   exact t_colJ_fold rfl this
 refine ((t_iter_spec hY b m es hl).calls w0 _ _ satJ).mono ?_
 rintro e' w' ⟨v, hs, rfl, ⟨xs, hp, rfl⟩, sat2⟩
 obtain ⟨a', c', s3⟩ := t_colJ_open sat2
 have hend := run_endLoop (P := Tryz.prog) s3.pt (by rw [hr]; simp)
 rw [show r.pending = none by rw [hr]] at hend
 refine ⟨v, _, rfl, hend, ?_⟩
 have s4 : Sat w0 (w'.putObj (w.heap.size + 1) (.loop { r with state := .exhausted, pending := none })) _ := s3.setMap
 have rho : Rho [(2, .pointer (some ⟨b2, 0, none⟩))] a.eval := (e.sub (e := [(2, .pointer (some ⟨b2, 0, none⟩))]) (by repeat constructor)).rho
 refine wp_seq (wp_region_lit ?_)
 refine tail_rd rfl rfl (rd_ld na_23 rfl (Rdc.cl1 (by repeat constructor) rfl)) rho s4 fun w5 s5 => ?_
 have e5 := (e.put (d := 12) (by decide) (.slice a' xs.length c'))
 have rho5 : Rho [(12, .slice a' xs.length c')] (({ a with defers := [{ target := .collected w.heap.size, args := #[] }] ++ a.defers } : Act).put (some 12) (.slice a' xs.length c')).eval :=
   (e5.sub (e := [(12, .slice a' xs.length c')]) (by repeat constructor)).rho
 refine tail_rd rfl rfl (Pu.rd (pu_assign rfl)) rho5 s5 fun w6 s6 => ?_
 have e6 := (e5.put (d := 4) (by decide) (.slice a' xs.length c'))
 refine wp_ret ?_
 have s7 := s6.take (A := pt w.heap.size (.deferred (some []))) (by repeat constructor)
 have hds : a.defers = [] := e.defers
 show LeavesInM Fence.wide 0 _ _ _ _ ({ target := .collected w.heap.size, args := #[] } :: a.defers) .returning w6
 rw [hds]
 refine ⟨by simp, .inl ⟨w.heap.size, _, rfl, run_takeDeferred s7.pt, ?_⟩⟩
 have s8 : Sat w0 (w6.putObj w.heap.size (.deferred none)) _ := s7.setMap (o' := .deferred none)
 refine ⟨_, results_tmp Tryz.results144 _ _ _, _, _, rfl, ⟨xs, a', c', hp, ?_, rfl⟩, Ent.sat (by repeat constructor) s8⟩
 exact e6.slots 4 _ rfl
theorem t_collect_spec (b m : Nat) (es : List (ByteArray × (SlV Int))) (hl : es.length ≤ 100000) :
   Ct Tryz.prog 96 [.func (.func 98) #[] #[.pointer (some ⟨b, 0, none⟩)]]
     [cl b 96 [.map (some m)], mp strV slV m es] (fun v hs => ∃ xs a c, List.Perm xs (mkeys es) ∧ v = .slice a xs.length c ∧ hs = [sl 9 1 strC a c xs, mp strV slV m es]) := by
 refine Cti Tryz.func96 (by kernel_rfl) 5 Tryz.ntmps96 rfl rfl fun w0 R => ?_
 refine Gsr (Las rfl rfl (Lnt (Gsr (Lmv rfl rfl (La rfl (asC (t_collect_seq b m es hl)) ?_)))))
 rintro _ _ ⟨_, ⟨xs, a, c, hp, rfl, rfl⟩, rfl⟩
 refine Las rfl rfl (Lnt (Gs.ret ?_))
 exact Gs.fin1 Tryz.results96 rfl _ (⟨xs, a, c, hp, rfl, rfl⟩) (by repeat constructor)
end Go.Proofs.YtklgiidfompdpaaGreatDoor
namespace Go.Proofs.YtklgiidfompdpaaGreatDoor
open Go Go.Sl Go.Gv Go.Kv Go.Po Go.Ix
set_option maxRecDepth 100000
def w_YOk (P : Program) (l : Nat) (J : List Key → HProp) : Prop := ∀ (pre : List Key) (x : Key) (w0 w : World) (R : List HProp), pre.length < 100000 → Sat w0 w (J pre :: R) → ∃ f tmps assign body, (Instr.yield l #[keyV x]).run P w = .ok (.round l f tmps assign body) w ∧
 ∀ m, RoundIn Fence.wide m P l f tmps assign body w fun e w' => e = .returned (.bool true) ∧ Sat w0 w' (J (pre ++ [x]) :: R)
theorem w_erase_perm {α : Type} : ∀ {l : List α} {i : Nat} {x : α}, l[i]? = some x → List.Perm (x :: l.eraseIdx i) l
 | [], _, _, h => by simp at h
 | a :: l, 0, x, h => by simp at h; subst h; exact List.Perm.refl _
 | a :: l, i + 1, x, h => by
   have := w_erase_perm (l := l) (i := i) (x := x) (by simpa using h)
   exact (List.Perm.swap a x _).trans (this.cons a)
theorem Gs.w_yieldAt {l : Nat} {J : List Key → HProp} (hY : w_YOk Tryz.prog l J) {w0 : World} {n m k dd : Nat} {env : Env} {H : List HProp} {Q : Exit → Act → World → Prop} {ops : Array Oper} {rest : List Nat} {x y : Operand} {ts : Array TypeId} {ty : TypeId} {pos : String} {af : Array Edge} {pre : List Key} (z : Key)
   (hpl : pre.length < 100000) (ho : ops[k]? = some ⟨some dd, .call ⟨.value x, #[y], ts⟩, ty, pos, af, none⟩) (hdn : Nat.blt dd n = true) (hx : ev env x = some (.func (.yield l) #[] #[])) (hy : ev env y = some (keyV z))
   (g : Gs w0 n ((dd, .bool true) :: env) (J (pre ++ [z]) :: H) (wpOpsIn Fence.wide m Tryz.prog ops Q rest)) : Gs w0 n env (J pre :: H) (wpOpsIn Fence.wide m Tryz.prog ops Q (k :: rest)) := fun a w e t => by
 obtain ⟨f, tmps, assign, body, h1, h2⟩ := hY pre z w0 w H hpl t
 have hw : Region.wanted ⟨some dd, .call ⟨.value x, #[y], ts⟩, ty, pos, af, none⟩ (yielded ops a.tmps) = true := by simp [Region.wanted]
 have hr : (execOp a.eval ⟨some dd, .call ⟨.value x, #[y], ts⟩, ty, pos, af, none⟩).run Tryz.prog w = .ok (.round l f tmps assign body) w := by
   show (do let d ← resolve a.eval ⟨.value x, #[y], ts⟩ ty; invoke d.target d.args : Sem Next).run Tryz.prog w = _
   have hr1 : resolve a.eval ⟨.value x, #[y], ts⟩ ty = (pure ⟨.fn (.yield l) #[], #[keyV z]⟩ : Sem Deferred) := by
     simp only [resolve, e.eval hx, Deferred.ofValue]
     simp [e.eval hy]
   rw [hr1]
   simp only [Sem.run_bind, Sem.run_pure, Result.andThen_ok, invoke]
   exact h1
 simp only [wpOpsIn, ho, hw, if_true]
 unfold Oper.wpIn
 refine ⟨fun _ _ => trivial, ?_⟩
 rw [show Fence.wide.round = none from rfl, Oper.semAt_none, hr]
 refine ⟨(fun hs => by cases hs), (h2 (m - 1)).mono ?_⟩
 rintro e' w' ⟨rfl, t'⟩
 exact g _ _ (e.put (by simpa [Nat.blt_eq] using hdn) _) t'
theorem w_keysFn_spec (m : Nat) : Ct Tryz.prog 81 [.map (some m)] []
   (fun v hs => ∃ b, v = .func (.func 136) #[] #[.pointer (some ⟨b, 0, none⟩)] ∧ hs = [cl b 90 [.map (some m)]]) := by
 refine Cti Tryz.func81 (by kernel_rfl) 4 Tryz.ntmps81 rfl rfl fun w0 R => ?_
 refine Gsr (La rfl (ac_box rfl rfl) ?_)
 rintro _ _ ⟨b, rfl, rfl⟩
 refine Las rfl rfl (Lnt (Gsr (Lq rfl (pu_func (by repeat constructor) (by repeat constructor)) ?_)))
 refine Las rfl rfl (Lnt (Gs.ret ?_))
 exact Gs.fin1 Tryz.results81 rfl _ (⟨b, rfl, rfl⟩) (by repeat constructor)
theorem w_iter_spec {l : Nat} {J : List Key → HProp} (hY : w_YOk Tryz.prog l J) (b m : Nat) (es : List (Key × (SlV ByteArray))) (hes : es.length ≤ 100000) :
   Ct Tryz.prog 136 [.func (.yield l) #[] #[], .pointer (some ⟨b, 0, none⟩)] [J [], cl b 90 [.map (some m)], mp keyV slV m es]
     (fun _ hs => ∃ xs, List.Perm xs (mkeys es) ∧ hs = [J xs, cl b 90 [.map (some m)], mp keyV slV m es]) := by
 refine Cti Tryz.func136 (by kernel_rfl) 14 Tryz.ntmps136 rfl rfl fun w0 R => ?_
 refine Gsr (Lr rfl (rd_ld na_90 rfl (Rdc.cl1 (by repeat constructor) rfl)) ?_)
 refine La rfl (ac_range (enck := keyV) (encv := slV) Tryz.underlying90 rfl (by repeat constructor)) ?_
 rintro _ _ ⟨r, rfl, rfl⟩
 refine Lnt (Gs.block (Gs.loop1 (fun s : List Key × List (Key × (SlV ByteArray)) × Option (Key × (SlV ByteArray)) => List.Perm (s.1 ++ mkeys s.2.1) (mkeys es)) (fun s => [(0, .func (.yield l) #[] #[]), (5, .pointer (some ⟨r, 0, none⟩))]) (fun s => [itr keyV slV r m es s.2.1 s.2.2, J s.1, cl b 90 [.map (some m)]] ++ R) (fun s => s.2.1.length) ([], es, none) (List.Perm.refl _) (by repeat constructor) (by repeat constructor) (fun s hs => ?_)))
 obtain ⟨pre, left, last⟩ := s
 dsimp only at hs ⊢
 refine Gsr (La rfl (ac_next rfl (by repeat constructor)) ?_)
 rintro _ _ (⟨hl, rfl, rfl⟩ | ⟨i, p, hp, rfl, rfl⟩)
 ·
  have hl' : left = [] := hl
  subst hl'
  refine Gs.itrEnd (by repeat constructor) ?_
  refine Lq rfl (pu_extract rfl rfl) (Lnt (Gs.seq (Gs.cond_f rfl (Gs.exit (Gx (Gx (Gs.blk_hit (Gs.fin_n ?_))))))))
  exact Gs.fin0 Tryz.results136 _ (⟨pre, by simpa [mkeys] using hs, rfl⟩) (by repeat constructor)
 have hperm : List.Perm ((pre ++ [p.1]) ++ mkeys (left.eraseIdx i)) (mkeys es) := by
   refine List.Perm.trans ?_ hs
   rw [List.append_assoc]
   refine List.Perm.append_left pre ?_
   have h1 : List.Perm (p :: left.eraseIdx i) left := w_erase_perm hp
   exact h1.map Prod.fst
 have hlt : (left.eraseIdx i).length < left.length := by
   have := (List.getElem?_eq_some_iff.1 hp).1
   rw [List.length_eraseIdx_of_lt this]; omega
 have hpl : pre.length < 100000 := by
   have h1 := hs.length_eq
   have h2 := (List.getElem?_eq_some_iff.1 hp).1
   simp [mkeys] at h1; omega
 refine Lq rfl (pu_extract rfl rfl) (Lnt (Gs.seq (Gs.cond_t rfl (Gs.skip (Gn (Gs.block (Gsr (Lr rfl (ac_entry rfl (by repeat constructor)) ?_))))))))
 refine Lq rfl (pu_extract rfl rfl) (La rfl (ac_alloc zv_28 rfl) ?_)
 rintro _ _ ⟨b3, rfl, rfl⟩
 refine Lac0 rfl trivial (ac_st sz_28 rfl rfl (by repeat constructor) rfl rfl rfl rfl) ?_
 rintro _ _ rfl
 refine Lnt (Gs.seq (Gs.wide (m := 0) ?_))
 refine GI.reg [0, 1, 2, 3] rfl (GI.rd Fw.wide rfl rfl rfl rfl rfl (Pu.rd (pu_move rfl)) (GI.rd Fw.wide rfl rfl rfl rfl rfl (rd_lda ag_28 rfl (Rdc.cl 2 (by repeat constructor) rfl) rfl) ?_))
 refine Gs.take (A := J pre) (by repeat constructor) ?_
 refine Gs.w_yieldAt hY p.1 hpl rfl rfl rfl rfl (GI.rd Fw.wide rfl rfl rfl rfl rfl (Pu.rd (pu_not rfl)) (GI.nil (Gn (Gs.cond_f rfl (Gs.skip (Gs.blk_n (Gn ?_)))))))
 exact Ag (pre ++ [p.1], left.eraseIdx i, some p) hperm hlt
def w_colJ (l b2 : Nat) (r : Loop) (pre : List Key) : HProp := fun h => ∃ p : Option Addr × Nat, two (pt l (.loop r)) (two (cl b2 48 [.slice p.1 pre.length p.2]) (sl 28 2 keyC p.1 p.2 pre)) h
theorem w_colJ_fold {l b2 n : Nat} {r : Loop} {pre : List Key} {a : Option Addr} {c : Nat} {w0 w : World} {L : List HProp} (hn : n = pre.length) (s : Sat w0 w (pt l (.loop r) :: cl b2 48 [.slice a n c] :: sl 28 2 keyC a c pre :: L)) : Sat w0 w (w_colJ l b2 r pre :: L) := by
 subst hn
 have s1 : Sat w0 w (cl b2 48 [.slice a pre.length c] :: sl 28 2 keyC a c pre :: pt l (.loop r) :: L) := (s.take (.tl (.tl .hd))).take (.tl (.tl .hd))
 exact (Sat.two.2 ((Sat.two.2 s1).take (.tl .hd))).ent fun h x => ⟨(a, c), x⟩
theorem w_colJ_open {l b2 : Nat} {r : Loop} {pre : List Key} {w0 w : World} {L : List HProp} (s : Sat w0 w (w_colJ l b2 r pre :: L)) : ∃ a c, Sat w0 w (pt l (.loop r) :: cl b2 48 [.slice a pre.length c] :: sl 28 2 keyC a c pre :: L) := by
 obtain ⟨p, s1⟩ := s.ex
 have s2 := Sat.two.1 ((Sat.two.1 s1).take (.tl .hd))
 exact ⟨p.1, p.2, s2.take (.tl (.tl .hd))⟩
theorem w_collect_seq (b m : Nat) (es : List (Key × (SlV ByteArray))) (hl : es.length ≤ 100000) :
   Ct Tryz.prog 180 [.slice none 0 0, .func (.func 136) #[] #[.pointer (some ⟨b, 0, none⟩)]]
     [cl b 90 [.map (some m)], mp keyV slV m es] (fun v hs => ∃ xs a c, List.Perm xs (mkeys es) ∧ v = .slice a xs.length c ∧ hs = [sl 28 2 keyC a c xs, mp keyV slV m es]) := by
 refine Ct.introM Tryz.func180 rfl (by kernel_rfl) 13 Tryz.ntmps180 (Nat.le_of_ble_eq_true rfl) fun w0 R => ?_
 refine Gsr (La rfl (ac_box rfl rfl) ?_)
 rintro _ _ ⟨b2, rfl, rfl⟩
 refine Las rfl rfl (Lnt (Gs.seq (Gsr (Lmv rfl rfl (Lnt (Gs.block (Gs.slNil 28 2 keyC ?_)))))))
 intro a w e s
 have hen : ∀ args w, (callFunc 136 args).run Tryz.prog w = .ok (.enter 136 args) w := Go.Proofs.enters_of Tryz.func136 (by kernel_rfl) rfl
 have he : a.eval (.tmp 6) = .func (.func 136) #[] #[.pointer (some ⟨b, 0, none⟩)] := e.eval rfl
 refine wp_rangeCall he hen fun fn r hr => ?_
 have sat1 := s.alloc2 (.deferred (some [])) (.loop r)
 have hY : w_YOk Tryz.prog (w.heap.size + 1) (w_colJ (w.heap.size + 1) b2 r) := by
   intro pre x w1 w' R' hpl hs
   obtain ⟨a', c', s1⟩ := w_colJ_open hs
   refine ⟨r.fn, _, r.assign, r.body, run_yield s1.pt (by rw [hr]; rfl), fun m => roundIn_of_wpIn trivial ?_⟩
   have ht : (r.params.zip #[keyV x]).foldl (fun tmps (t, a) => tmps.setIfInBounds t a) r.tmps = (a.put (some 7) (keyV x)).tmps := by rw [hr]; simp [Act.put]
   have e7 : EnvOk 13 [(7, keyV x), (2, .pointer (some ⟨b2, 0, none⟩))] ⟨(r.params.zip #[keyV x]).foldl (fun tmps (t, a) => tmps.setIfInBounds t a) r.tmps, []⟩ := by
     rw [ht]
     have e8 := (e.put (d := 7) (by decide) (keyV x)).sub (e := [(7, keyV x), (2, .pointer (some ⟨b2, 0, none⟩))]) (by repeat constructor)
     exact ⟨e8.size, rfl, e8.slots⟩
   refine (?_ : Gs w1 13 [(7, keyV x), (2, .pointer (some ⟨b2, 0, none⟩))] _ _) _ _ e7 s1
   subst hr
   refine GI.reg [0, 1] rfl (GI.ac (Fw.round _) rfl rfl rfl rfl rfl (ac_alloc zv_28 rfl) ?_)
   rintro _ _ ⟨b5, rfl, rfl⟩
   refine GI.ac0 (Fw.round _) rfl rfl rfl rfl (ac_st sz_28 rfl rfl (by repeat constructor) rfl rfl rfl rfl) ?_
   rintro _ _ rfl
   refine GI.nil (Gn (Gs.take (.tl .hd) (Gs.begin rfl (GI.block (GI.reg [0, 1, 2, 3, 4] rfl (GI.rd (Fw.round _) rfl rfl rfl rfl rfl (rd_ld na_48 rfl (Rdc.cl1 (by repeat constructor) rfl)) ?_))))))
   refine GI.rd (Fw.round _) rfl rfl rfl rfl rfl (rd_lda ag_28 rfl (Rdc.cl 2 (by repeat constructor) rfl) rfl) ?_
   refine GI.ac (Fw.round _) rfl rfl rfl rfl rfl (ac_lit keyC [x] et_48 ek_28 rfl (by repeat constructor) rfl rfl (by decide)) ?_
   rintro _ _ ⟨lb, rfl, rfl⟩
   refine GI.ac (Fw.round _) rfl rfl rfl rfl rfl (ac_append (xs := pre) et_48 ek_28 rfl rfl (by repeat constructor) (SrcH.sl Tryz.underlying48 ek_28 (SlH.own (by repeat constructor))) (by simp; omega) (by simp; omega)) ?_
   rintro _ _ ⟨a2, c2, rfl, rfl⟩
   refine GI.ac0 (Fw.round _) rfl rfl rfl rfl (ac_st sz_48 rfl rfl (by repeat constructor) rfl rfl rfl rfl) ?_
   rintro _ _ rfl
   refine GI.nil (Gs.blk_n (Gs.take (A := pt (w.heap.size + 1) (.loop _)) (by repeat constructor) ?_))
   refine Gs.endRound fun w'' s'' => ⟨rfl, w_colJ_fold (a := a2) (c := c2) rfl (Ent.sat (by repeat constructor) s'')⟩
 have satJ : Sat w0 ((w.alloc (.deferred (some []))).alloc (.loop r)) ([w_colJ (w.heap.size + 1) b2 r [], cl b 90 [.map (some m)], mp keyV slV m es] ++ (pt w.heap.size (.deferred (some [])) :: R)) := by
   have := sat1.takes (As := [pt (w.heap.size + 1) (.loop r), cl b2 48 [.slice none 0 0], sl 28 2 keyC none 0 [], cl b 90 [.map (some m)], mp keyV slV m es]) (by repeat constructor)
   exact w_colJ_fold rfl this
 refine ((w_iter_spec hY b m es hl).calls w0 _ _ satJ).mono ?_
 rintro e' w' ⟨v, hs, rfl, ⟨xs, hp, rfl⟩, sat2⟩
 obtain ⟨a', c', s3⟩ := w_colJ_open sat2
 have hend := run_endLoop (P := Tryz.prog) s3.pt (by rw [hr]; simp)
 rw [show r.pending = none by rw [hr]] at hend
 refine ⟨v, _, rfl, hend, ?_⟩
 have s4 : Sat w0 (w'.putObj (w.heap.size + 1) (.loop { r with state := .exhausted, pending := none })) _ := s3.setMap
 have rho : Rho [(2, .pointer (some ⟨b2, 0, none⟩))] a.eval := (e.sub (e := [(2, .pointer (some ⟨b2, 0, none⟩))]) (by repeat constructor)).rho
 refine wp_seq (wp_region_lit ?_)
 refine tail_rd rfl rfl (rd_ld na_48 rfl (Rdc.cl1 (by repeat constructor) rfl)) rho s4 fun w5 s5 => ?_
 have e5 := (e.put (d := 12) (by decide) (.slice a' xs.length c'))
 have rho5 : Rho [(12, .slice a' xs.length c')] (({ a with defers := [{ target := .collected w.heap.size, args := #[] }] ++ a.defers } : Act).put (some 12) (.slice a' xs.length c')).eval :=
   (e5.sub (e := [(12, .slice a' xs.length c')]) (by repeat constructor)).rho
 refine tail_rd rfl rfl (Pu.rd (pu_assign rfl)) rho5 s5 fun w6 s6 => ?_
 have e6 := (e5.put (d := 4) (by decide) (.slice a' xs.length c'))
 refine wp_ret ?_
 have s7 := s6.take (A := pt w.heap.size (.deferred (some []))) (by repeat constructor)
 have hds : a.defers = [] := e.defers
 show LeavesInM Fence.wide 0 _ _ _ _ ({ target := .collected w.heap.size, args := #[] } :: a.defers) .returning w6
 rw [hds]
 refine ⟨by simp, .inl ⟨w.heap.size, _, rfl, run_takeDeferred s7.pt, ?_⟩⟩
 have s8 : Sat w0 (w6.putObj w.heap.size (.deferred none)) _ := s7.setMap (o' := .deferred none)
 refine ⟨_, results_tmp Tryz.results180 _ _ _, _, _, rfl, ⟨xs, a', c', hp, ?_, rfl⟩, Ent.sat (by repeat constructor) s8⟩
 exact e6.slots 4 _ rfl
theorem w_collect_spec (b m : Nat) (es : List (Key × (SlV ByteArray))) (hl : es.length ≤ 100000) :
   Ct Tryz.prog 134 [.func (.func 136) #[] #[.pointer (some ⟨b, 0, none⟩)]]
     [cl b 90 [.map (some m)], mp keyV slV m es] (fun v hs => ∃ xs a c, List.Perm xs (mkeys es) ∧ v = .slice a xs.length c ∧ hs = [sl 28 2 keyC a c xs, mp keyV slV m es]) := by
 refine Cti Tryz.func134 (by kernel_rfl) 5 Tryz.ntmps134 rfl rfl fun w0 R => ?_
 refine Gsr (Las rfl rfl (Lnt (Gsr (Lmv rfl rfl (La rfl (asC (w_collect_seq b m es hl)) ?_)))))
 rintro _ _ ⟨_, ⟨xs, a, c, hp, rfl, rfl⟩, rfl⟩
 refine Las rfl rfl (Lnt (Gs.ret ?_))
 exact Gs.fin1 Tryz.results134 rfl _ (⟨xs, a, c, hp, rfl, rfl⟩) (by repeat constructor)
end Go.Proofs.YtklgiidfompdpaaGreatDoor
namespace Go.Bst
def sortB (l : List ByteArray) : List ByteArray := ((l.map fun s => s.data.toList).mergeSort fun x y => decide (x ≤ y)).map fun b => ⟨b.toArray⟩
theorem of_list (s : ByteArray) : (⟨s.data.toList.toArray⟩ : ByteArray) = s := by cases s; rfl
theorem sortB_perm (l : List ByteArray) : List.Perm (sortB l) l := by
 unfold sortB
 refine ((List.mergeSort_perm _ _).map _).trans ?_
 rw [List.map_map]
 have : ((fun b : List UInt8 => (⟨b.toArray⟩ : ByteArray)) ∘ fun s : ByteArray => s.data.toList) = id := by funext s; exact of_list s
 rw [this, List.map_id]
theorem sortB_mem {l : List ByteArray} {x : ByteArray} : x ∈ sortB l ↔ x ∈ l := (sortB_perm l).mem_iff
theorem sortB_length {l : List ByteArray} : (sortB l).length = l.length := (sortB_perm l).length_eq
theorem sortB_of_perm {l m : List ByteArray} (p : List.Perm l m) : sortB l = sortB m := by
 unfold sortB
 congr 1
 have tr : ∀ a b c : List UInt8, decide (a ≤ b) = true → decide (b ≤ c) = true → decide (a ≤ c) = true := fun a b c h1 h2 => by
   simp only [decide_eq_true_eq] at *; exact List.le_trans h1 h2
 have tot : ∀ a b : List UInt8, (decide (a ≤ b) || decide (b ≤ a)) = true := fun a b => by
   rcases List.le_total a b with h | h <;> simp [h]
 refine List.Perm.eq_of_pairwise (le := fun x y => decide (x ≤ y) = true) ?_ (List.pairwise_mergeSort tr tot _) (List.pairwise_mergeSort tr tot _) (((List.mergeSort_perm _ _).trans (p.map _)).trans (List.mergeSort_perm _ _).symm)
 intro a b _ _ h1 h2
 simp only [decide_eq_true_eq] at h1 h2
 exact List.le_antisymm h1 h2
end Go.Bst
namespace Go.Sl
open Go Go.Sort Go.Proofs
section
variable {α : Type} {w0 w : World} {L : List HProp} {E : Nat} {enc : α → Value} {b off c : Nat} {xs : List α}
theorem sl1_block (s : Sat w0 w (sl E 1 (fun x => [enc x]) (some ⟨b, off, none⟩) c xs :: L)) : ∃ cells, Sat w0 w (pt b (.cells cells E (0, 0)) :: L) ∧ w.heap[b]? = some (.cells cells E (0, 0)) ∧ xs.length ≤ c ∧ off + c ≤ cells.size ∧
   ∀ i x, xs[i]? = some x → cells[off + i]? = some (enc x) := by
 obtain ⟨h, le, h1, h2, d, rfl, hs, hl⟩ := s.heap
 rcases hs with ⟨h0, -, -⟩ | ⟨b', off', cells, hb, hp, h3, h4, h5⟩
 · cases h0
 · cases hb
   have s1 : Sat w0 w (pt b (.cells cells E (0, 0)) :: L) := ⟨s.os, s.tape, s.output, s.size, _, le, h1, h2, d, rfl, hp, hl⟩
   exact ⟨cells, s1, s1.pt, h3, by omega, fun i x hi => by have := h5 i x hi 0 (enc x) rfl; simpa using this⟩
variable [Inhabited α]
theorem sl1_holds (s : Sat w0 w (sl E 1 (fun x => [enc x]) (some ⟨b, off, none⟩) c xs :: L)) : Holds enc w b off xs.toArray ∧ b < w.heap.size := by
 obtain ⟨cells, -, hb, h3, h4, h5⟩ := sl1_block s
 refine ⟨fun j hj => ?_, (Array.getElem?_eq_some_iff.1 hb).1⟩
 simp only [List.size_toArray] at hj
 have hx : xs[j]? = some xs[j] := by simp [hj]
 have hc := h5 _ _ hx
 have e1 : xs.toArray[j]! = xs[j] := by rw [getElem!_pos _ _ (by simpa using hj)]; simp
 refine ⟨?_, by simp [World.frozen?, hb]⟩
 rw [e1]
 simpa [World.cell?, hb] using hc
theorem sl1_sorted {ys : List α} {n : Nat} {os : Array Obj} (hl : ys.length = xs.length) (s : Sat w0 w (sl E 1 (fun x => [enc x]) (some ⟨b, off, none⟩) c xs :: L)) :
   Sat w0 (grow (putRow enc (Sort.ahead w n) b off ys.toArray) os) (sl E 1 (fun x => [enc x]) (some ⟨b, off, none⟩) c ys :: L) := by
 obtain ⟨cells, s1, hb, h3, h4, h5⟩ := sl1_block s
 have hblt := (Array.getElem?_eq_some_iff.1 hb).1
 have hsz : (putRow enc (Sort.ahead w n) b off ys.toArray).heap.size = w.heap.size := by simp [putRow, mapBlock, Sort.ahead]
 have hnew : (grow (putRow enc (Sort.ahead w n) b off ys.toArray) os).heap[b]? = some (.cells (putCells enc off ys.toArray cells) E (0, 0)) := by
   rw [heap_grow_old _ _ (by rw [hsz]; exact hblt)]
   simp [putRow, mapBlock, Sort.ahead, Array.getElem?_modify, hb, onCells]
 have hold : ∀ k, k ≠ b → k < w.heap.size → (grow (putRow enc (Sort.ahead w n) b off ys.toArray) os).heap[k]? = w.heap[k]? := fun k hk hlt => by
   rw [heap_grow_old _ _ (by rw [hsz]; exact hlt)]
   have : b ≠ k := fun e => hk e.symm
   simp [putRow, mapBlock, Sort.ahead, Array.getElem?_modify, this]
 refine (s1.write (w' := grow (putRow enc (Sort.ahead w n) b off ys.toArray) os) rfl rfl rfl (by show w.heap.size ≤ ((putRow enc (Sort.ahead w n) b off ys.toArray).heap ++ os).size; rw [Array.size_append, hsz]; omega) hnew hold).ent fun hh hp => .inr ⟨b, off, _, rfl, hp, by omega, by simp [putCells]; omega, fun i y hi j v hj => ?_⟩
 have hil : i < ys.length := (List.getElem?_eq_some_iff.1 hi).1
 have hj0 : j = 0 ∧ v = enc y := by
   cases j with
   | zero => simp at hj; exact ⟨rfl, hj.symm⟩
   | succ j => simp at hj
 obtain ⟨rfl, rfl⟩ := hj0
 have hpos : off + i < cells.size := by omega
 simp only [putCells, Array.getElem?_mapIdx, Nat.mul_one, Nat.add_zero]
 rw [Array.getElem?_eq_getElem hpos]
 simp only [Option.map_some, List.size_toArray]
 rw [if_pos ⟨by omega, by omega⟩, Nat.add_sub_cancel_left]
 have e1 : ys.toArray[i]! = y := by
   rw [getElem!_pos _ _ (by simpa using hil)]
   simpa [hil] using hi
 rw [e1]
theorem sl_map {α β : Type} {E sz : Nat} {enc : α → List Value} {enc' : β → List Value} {a : Option Addr} {c : Nat} {xs : List α} (f : α → β) (hf : ∀ x, enc x = enc' (f x)) : ∀ h, sl E sz enc a c xs h → sl E sz enc' a c (xs.map f) h := fun h x => by
 rcases x with ⟨rfl, rfl, rfl⟩ | ⟨b, off, cells, rfl, hp, h1, h2, h3⟩
 · exact .inl ⟨rfl, rfl, rfl⟩
 · refine .inr ⟨b, off, cells, rfl, hp, by simpa using h1, h2, fun i y hi j v hj => ?_⟩
   rw [List.getElem?_map] at hi
   obtain ⟨x, hx, rfl⟩ := Option.map_eq_some_iff.1 hi
   exact h3 i x hx j v (by rw [hf]; exact hj)
end
end Go.Sl
namespace Go.Ix
open Go Go.Sl Go.Gv Go.Kv Go.Po
def sortI (l : List Int) : List Int := l.mergeSort fun x y => decide (x ≤ y)
theorem sortI_length {l : List Int} : (sortI l).length = l.length := List.length_mergeSort ..
theorem sortI_perm (l : List Int) : List.Perm (sortI l) l := List.mergeSort_perm ..
end Go.Ix
namespace Go.Proofs
open Go.Shelf
namespace YtklgiidfompdpaaGreatDoor
open Go Go.Sl Go.Gv Go.Kv Go.Bst Go.Sort Go.Po Go.Ix
set_option maxRecDepth 100000
instance : Inhabited Key := ⟨⟨0, 0⟩⟩
instance : Inhabited PostV := ⟨⟨⟨0, 0⟩, ⟨none, [], 0⟩⟩⟩
theorem sortS_spec (a : Option Addr) (c : Nat) (xs : List ByteArray) (hl : xs.length ≤ 1000000) : Ct Tryz.prog 97 [.slice a xs.length c] [sl 9 1 strC a c xs]
   (fun v hs => v = .tuple #[] ∧ hs = [sl 9 1 strC a c (sortB xs)]) := by
 refine ⟨enters_of Tryz.func97 (by kernel_rfl) rfl _, fun w0 w R s => ?_⟩
 by_cases he : xs = []
 · subst he
   refine (Any.slices_Sort_string_none Tryz.laysSortS a c w).mono ?_
   rintro e w' ⟨rfl, rfl⟩
   exact ⟨_, _, rfl, ⟨rfl, rfl⟩, by rw [show sortB [] = [] by simp [sortB]]; exact s⟩
 · obtain ⟨b, off, ha, -⟩ := (SlH.own .hd : SlH w0 ([sl 9 1 strC a c xs] ++ R) 1 strC a xs) w s he
   subst ha
   have s1 : Sat w0 w (sl 9 1 (fun x : List UInt8 => [encStr x]) (some ⟨b, off, none⟩) c (xs.map fun s => s.data.toList) :: R) := Sat.ent s (sl_map (fun s : ByteArray => s.data.toList) fun x => by show [Value.string x] = [Value.string ⟨x.data.toList.toArray⟩]; rw [of_list])
   obtain ⟨hH, hb⟩ := sl1_holds s1
   have hS := Any.slices_Sort_string Tryz.laysSortS b off c (xs.map fun s => s.data.toList) w hH hb (by simp; omega)
   rw [List.length_map] at hS
   refine hS.mono ?_
   rintro e w' ⟨rfl, n, os, rfl⟩
   refine ⟨_, _, rfl, ⟨rfl, rfl⟩, ?_⟩
   have s2 := sl1_sorted (n := n) (os := os) (ys := (xs.map fun s => s.data.toList).mergeSort fun x y => decide (x ≤ y)) (by rw [List.length_mergeSort]) s1
   exact s2.ent (sl_map (fun l : List UInt8 => (⟨l.toArray⟩ : ByteArray)) fun x => rfl)
theorem sortI_spec (a : Option Addr) (c : Nat) (xs : List Int) (hl : xs.length ≤ 1000000000000) : Ct Tryz.prog 126 [.slice a xs.length c] [sl 3 1 intC a c xs]
   (fun v hs => v = .tuple #[] ∧ hs = [sl 3 1 intC a c (sortI xs)]) := by
 refine ⟨enters_of Tryz.func126 (by kernel_rfl) rfl _, fun w0 w R s => ?_⟩
 by_cases he : xs = []
 · subst he
   refine (Any.slices_Sort_int_none Tryz.laysSortI a c w).mono ?_
   rintro e w' ⟨rfl, rfl⟩
   exact ⟨_, _, rfl, ⟨rfl, rfl⟩, by rw [show sortI [] = [] from List.mergeSort_nil]; exact s⟩
 · obtain ⟨b, off, ha, -⟩ := (SlH.own .hd : SlH w0 ([sl 3 1 intC a c xs] ++ R) 1 intC a xs) w s he
   subst ha
   have s1 : Sat w0 w (sl 3 1 (fun x : Int => [Value.int .i64 x]) (some ⟨b, off, none⟩) c xs :: R) := s
   obtain ⟨hH, hb⟩ := sl1_holds s1
   have hS := Any.slices_Sort_int Tryz.laysSortI b off c xs w hH hb (by omega)
   refine hS.mono ?_
   rintro e w' ⟨rfl, n, os, rfl⟩
   exact ⟨_, _, rfl, ⟨rfl, rfl⟩, sl1_sorted (n := n) (os := os) (ys := xs.mergeSort fun x y => decide (x ≤ y)) (by rw [List.length_mergeSort]) s1⟩
def cfI (a b : Key) : Int := ordZ a b
theorem ltOf_cfI (x y : Key) : ltOf cfI x y = before x y := by
 unfold ltOf cfI; exact ordZ_lt
theorem swo_keyI : SWO (ltOf cfI) where
 irrefl x := by rw [ltOf_cfI]; exact before_irr
 trans x y z h1 h2 := by rw [ltOf_cfI] at *; exact before_trans h1 h2
 ntrans x y z h1 h2 := by rw [ltOf_cfI] at *; rw [before_not] at *; omega
theorem tot_keyI (x y : Key) (h1 : ltOf cfI x y = false) (h2 : ltOf cfI y x = false) : x = y := by
 rw [ltOf_cfI] at *; rw [before_not] at *
 cases x; cases y; simp at *; omega
theorem sortKI_spec (a : Option Addr) (c : Nat) (xs : List Key) (hl : xs.length ≤ 100000) (hn : xs.Nodup) : Ct Tryz.prog 135 [.slice a xs.length c, .func (.func 82) #[] #[]] [sl 28 2 keyC a c xs]
   (fun v hs => v = .tuple #[] ∧ hs = [sl 28 2 keyC a c (sortK xs)]) := by
 refine ⟨enters_of Tryz.func135 (by kernel_rfl) rfl _, fun w0 w R s => ?_⟩
 by_cases he : xs = []
 · subst he
   refine (AnyF.slices_SortFunc_none { Tryz.sortKeys with } a c (.func (.func 82) #[] #[]) w).mono ?_
   rintro e w' ⟨rfl, rfl⟩
   exact ⟨_, _, rfl, ⟨rfl, rfl⟩, s⟩
 · obtain ⟨b, off, ha, -⟩ := (SlH.own .hd : SlH w0 ([sl 28 2 keyC a c xs] ++ R) 2 keyC a xs) w s he
   subst ha
   obtain ⟨hH, hb⟩ := sl_holds ek_28 s
   have eg : ∀ args w, (callFunc 82 args).run Tryz.prog w = .ok (.enter 82 args) w := enters_of Tryz.func82 (by kernel_rfl) rfl
   have hS := AnyQ.slices_SortFunc_total (P := Tryz.prog) { Tryz.sortKeys with } 2 Tryz.isAgg28 Tryz.sizeOf28 keyC (fun _ => rfl) ek_28.one cfI swo_keyI 82 #[] b off c xs.toArray w eg
     (fun m os dk _ x y => (orderI_exact x.o x.q y.o y.q _).mono fun e w' ⟨h1, os', h2⟩ => ⟨h1, 0, os', h2⟩) hH hb (by simp; omega) tot_keyI
   refine hS.mono ?_
   rintro e w' ⟨rfl, n, os, rfl⟩
   refine ⟨_, _, rfl, ⟨rfl, rfl⟩, ?_⟩
   have hm : (xs.toArray.toList.mergeSort fun x y => !(ltOf cfI) y x) = sortK xs := by
     have e : (fun x y : Key => !(ltOf cfI) y x) = fun x y => !before y x := by funext x y; rw [ltOf_cfI]
     rw [e]; exact sort_merge xs hn
   rw [hm]
   exact sl_sorted ek_28 sortK_length s
def cfP (a b : PostV) : Int := ordZ a.k b.k
theorem ltOf_cfP (x y : PostV) : ltOf cfP x y = before x.k y.k := by
 unfold ltOf cfP; exact ordZ_lt
theorem swo_postI : SWO (ltOf cfP) where
 irrefl x := by rw [ltOf_cfP]; exact before_irr
 trans x y z h1 h2 := by rw [ltOf_cfP] at *; exact before_trans h1 h2
 ntrans x y z h1 h2 := by rw [ltOf_cfP] at *; rw [before_not] at *; omega
theorem sortPI_spec (a : Option Addr) (c : Nat) (xs : List PostV) (hl : xs.length ≤ 1000000000000) : Ct Tryz.prog 127 [.slice a xs.length c, .func (.func 128) #[] #[]] [sl 106 3 postC a c xs]
   (fun v hs => v = .tuple #[] ∧ ∃ ys, List.Perm ys xs ∧ (ys.Pairwise fun p q => before q.k p.k = false) ∧ hs = [sl 106 3 postC a c ys]) := by
 refine ⟨enters_of Tryz.func127 (by kernel_rfl) rfl _, fun w0 w R s => ?_⟩
 by_cases he : xs = []
 · subst he
   refine (AnyF.slices_SortFunc_none { Tryz.sortPosts with } a c (.func (.func 128) #[] #[]) w).mono ?_
   rintro e w' ⟨rfl, rfl⟩
   exact ⟨_, _, rfl, ⟨rfl, [], List.Perm.refl _, List.Pairwise.nil, rfl⟩, s⟩
 · obtain ⟨b, off, ha, -⟩ := (SlH.own .hd : SlH w0 ([sl 106 3 postC a c xs] ++ R) 3 postC a xs) w s he
   subst ha
   obtain ⟨hH, hb⟩ := sl_holds ek_106 s
   have eg : ∀ args w, (callFunc 128 args).run Tryz.prog w = .ok (.enter 128 args) w := enters_of Tryz.func128 (by kernel_rfl) rfl
   have hS := AnyQ.slices_SortFunc (P := Tryz.prog) { Tryz.sortPosts with } 3 Tryz.isAgg106 Tryz.sizeOf106 postC (fun _ => rfl) ek_106.one cfP swo_postI 128 #[] b off c xs.toArray w eg
     (fun m os dk _ x y => (prefix1_exact x.k.o x.k.q y.k.o y.k.q (.slice x.t.a x.t.xs.length x.t.c) (.slice y.t.a y.t.xs.length y.t.c) rfl rfl _).mono fun e w' ⟨h1, os', h2⟩ => ⟨h1, 0, os', h2⟩) hH hb (by simp; omega)
   refine hS.mono ?_
   rintro e w' ⟨rfl, d', n, os, ⟨hsz, -, hperm⟩, hso, rfl⟩
   have e1 : d'.extract 0 xs.toArray.size = d' := by rw [← hsz]; exact Array.extract_size
   rw [e1, Array.extract_size] at hperm
   have hlen : d'.toList.length = xs.length := by simpa using hsz
   refine ⟨_, _, rfl, ⟨rfl, d'.toList, by simpa using hperm, ?_, rfl⟩, ?_⟩
   · rw [List.pairwise_iff_getElem]
     intro i j hi hj hij
     have hi' : i < d'.size := by simpa using hi
     have hj' : j < d'.size := by simpa using hj
     have := hso i j (Nat.zero_le _) hij (by omega)
     rw [getElem!_pos d' j hj', getElem!_pos d' i hi', ltOf_cfP] at this
     simpa using this
   · have := sl_sorted (n := n) (os := os) (ys := d'.toList) ek_106 hlen s
     rw [Array.toArray_toList] at this
     exact this
theorem sortedT_spec (b m : Nat) (es : List (ByteArray × SlV Int)) (hl : es.length ≤ 100000) :
   Ct Tryz.prog 50 [.func (.func 98) #[] #[.pointer (some ⟨b, 0, none⟩)]]
     [cl b 96 [.map (some m)], mp strV slV m es] (fun v hs => ∃ a c, v = .slice a (sortB (mkeys es)).length c ∧ hs = [sl 9 1 strC a c (sortB (mkeys es)), mp strV slV m es]) := by
 refine Cti Tryz.func50 (by kernel_rfl) 9 Tryz.ntmps50 rfl rfl fun w0 R => ?_
 refine Gsr (Las rfl rfl (Lnt (Gsr (Lmv rfl rfl (La rfl (asC (t_collect_spec b m es hl)) ?_)))))
 rintro _ _ ⟨_, ⟨xs, a, c, hp, rfl, rfl⟩, rfl⟩
 refine Las rfl rfl (Lnil ?_)
 have hxl : xs.length ≤ 100000 := by rw [hp.length_eq]; simp [mkeys]; exact hl
 have hss : sortB xs = sortB (mkeys es) := sortB_of_perm hp
 refine Gn (Gsr (Lmv rfl rfl (La rfl (asC (sortS_spec a c xs (by omega))) ?_)))
 rintro _ _ ⟨_, ⟨rfl, rfl⟩, rfl⟩
 refine Lnil ?_
 rw [hss]
 refine Gn (Gsr (Lmv rfl rfl (Las rfl rfl (Lnt (Gs.ret ?_)))))
 exact Gs.fin1 Tryz.results50 rfl _ (⟨a, c, by rw [← hss, sortB_length], rfl⟩) (by repeat constructor)
theorem sortedL_spec (b m : Nat) (es : List (ByteArray × SlV PostV)) (hl : es.length ≤ 100000) :
   Ct Tryz.prog 50 [.func (.func 210) #[] #[.pointer (some ⟨b, 0, none⟩)]]
     [cl b 89 [.map (some m)], mp strV slV m es] (fun v hs => ∃ a c, v = .slice a (sortB (mkeys es)).length c ∧ hs = [sl 9 1 strC a c (sortB (mkeys es)), mp strV slV m es]) := by
 refine Cti Tryz.func50 (by kernel_rfl) 9 Tryz.ntmps50 rfl rfl fun w0 R => ?_
 refine Gsr (Las rfl rfl (Lnt (Gsr (Lmv rfl rfl (La rfl (asC (l_collect_spec b m es hl)) ?_)))))
 rintro _ _ ⟨_, ⟨xs, a, c, hp, rfl, rfl⟩, rfl⟩
 refine Las rfl rfl (Lnil ?_)
 have hxl : xs.length ≤ 100000 := by rw [hp.length_eq]; simp [mkeys]; exact hl
 have hss : sortB xs = sortB (mkeys es) := sortB_of_perm hp
 refine Gn (Gsr (Lmv rfl rfl (La rfl (asC (sortS_spec a c xs (by omega))) ?_)))
 rintro _ _ ⟨_, ⟨rfl, rfl⟩, rfl⟩
 refine Lnil ?_
 rw [hss]
 refine Gn (Gsr (Lmv rfl rfl (Las rfl rfl (Lnt (Gs.ret ?_)))))
 exact Gs.fin1 Tryz.results50 rfl _ (⟨a, c, by rw [← hss, sortB_length], rfl⟩) (by repeat constructor)
theorem sortedW_spec (b m : Nat) (es : List (Key × SlV ByteArray)) (hl : es.length ≤ 100000) (hn : (mkeys es).Nodup) :
   Ct Tryz.prog 80 [.func (.func 136) #[] #[.pointer (some ⟨b, 0, none⟩)], .func (.func 82) #[] #[]]
     [cl b 90 [.map (some m)], mp keyV slV m es] (fun v hs => ∃ a c, v = .slice a (sortK (mkeys es)).length c ∧ hs = [sl 28 2 keyC a c (sortK (mkeys es)), mp keyV slV m es]) := by
 refine Cti Tryz.func80 (by kernel_rfl) 12 Tryz.ntmps80 rfl rfl fun w0 R => ?_
 refine Gsr (Las rfl rfl (Lnt (Gsr (Lmv rfl rfl (La rfl (asC (w_collect_spec b m es hl)) ?_)))))
 rintro _ _ ⟨_, ⟨xs, a, c, hp, rfl, rfl⟩, rfl⟩
 refine Las rfl rfl (Lnil ?_)
 have hxl : xs.length ≤ 100000 := by rw [hp.length_eq]; simp [mkeys]; exact hl
 have hxn : xs.Nodup := hp.nodup_iff.2 hn
 have hss : sortK xs = sortK (mkeys es) := sortK_of hxn (sortK_asc hn) ((sortK_perm _).trans hp.symm)
 refine Gn (Gsr (Lmv rfl rfl (Lmv rfl rfl (La rfl (asC (sortKI_spec a c xs (by omega) hxn)) ?_))))
 rintro _ _ ⟨_, ⟨rfl, rfl⟩, rfl⟩
 refine Lnil ?_
 rw [hss]
 refine Gn (Gsr (Lmv rfl rfl (Las rfl rfl (Lnt (Gs.ret ?_)))))
 exact Gs.fin1 Tryz.results80 rfl _ (⟨a, c, by rw [← hss, sortK_length], rfl⟩) (by repeat constructor)
theorem words_spec (x : Nat) (L : List (ByteArray × SlV PostV)) (W : List (Key × SlV ByteArray)) (hl : L.length ≤ 100000) :
   Ct Tryz.prog 124 [ptr x] [ixA x L W] (fun v hs => ∃ a c, v = .slice a (sortB (mkeys L)).length c ∧ hs = [ixA x L W, sl 9 1 strC a c (sortB (mkeys L))]) := by
 refine Cti Tryz.func124 (by kernel_rfl) 11 Tryz.ntmps124 rfl rfl fun w0 R => ?_
 refine Gs.ix fun ml mw S hL hW => ?_
 refine Gsr (Las rfl rfl (Lnt (Gs.seq (Gsr (Lmv rfl rfl (Lq rfl (pu_eqN Tryz.underlying72 rfl rfl) (Lnt (Gs.cond_ff rfl rfl (Gs.skip (Gn (Gsr ?_)))))))))))
 refine Lmv rfl rfl (Lq rfl (by first | exact pu_nil rfl | exact pu_nilF rfl) ?_)
 refine Lq rfl (pu_fa fa_92_0 rfl) (Lr rfl (rd_ld na_89 rfl (Rdc.cl1 (by repeat constructor) rfl)) ?_)
 refine La rfl (asC (l_keysFn_spec ml)) ?_
 rintro _ _ ⟨_, ⟨fb, rfl, rfl⟩, rfl⟩
 refine La rfl (asC (sortedL_spec fb ml L hl)) ?_
 rintro _ _ ⟨_, ⟨sa, sc, rfl, rfl⟩, rfl⟩
 refine Las rfl rfl (Lnt (Gs.ret (Gs.takes (As := [cl x 92 [.map (some ml), .map (some mw)], mp strV slV ml L, mp keyV slV mw W, S]) (by repeat constructor) (Gs.ixc hL hW ?_))))
 exact Gs.fin1 Tryz.results124 rfl _ (⟨sa, sc, rfl, rfl⟩) (by repeat constructor)
theorem keys_spec (x : Nat) (L : List (ByteArray × SlV PostV)) (W : List (Key × SlV ByteArray)) (hl : W.length ≤ 100000) :
   Ct Tryz.prog 44 [ptr x] [ixA x L W] (fun v hs => ∃ a c, v = .slice a (sortK (mkeys W)).length c ∧ hs = [ixA x L W, sl 28 2 keyC a c (sortK (mkeys W))]) := by
 refine Cti Tryz.func44 (by kernel_rfl) 11 Tryz.ntmps44 rfl rfl fun w0 R => ?_
 refine Gs.ix fun ml mw S hL hW => ?_
 refine Gs.mpNodup (enck := keyV) (encv := (slV : SlV ByteArray → Value)) (b := mw) (m := W) (by repeat constructor) fun hn => ?_
 refine Gsr (Las rfl rfl (Lnt (Gs.seq (Gsr (Lmv rfl rfl (Lq rfl (pu_eqN Tryz.underlying72 rfl rfl) (Lnt (Gs.cond_ff rfl rfl (Gs.skip (Gn (Gsr ?_)))))))))))
 refine Lmv rfl rfl (Lq rfl (by first | exact pu_nil rfl | exact pu_nilF rfl) ?_)
 refine Lq rfl (pu_fa fa_92_1 rfl) (Lr rfl (rd_ld na_90 rfl (Rdc.cl1 (by repeat constructor) rfl)) ?_)
 refine La rfl (asC (w_keysFn_spec mw)) ?_
 rintro _ _ ⟨_, ⟨fb, rfl, rfl⟩, rfl⟩
 refine La rfl (asC (sortedW_spec fb mw W hl hn)) ?_
 rintro _ _ ⟨_, ⟨sa, sc, rfl, rfl⟩, rfl⟩
 refine Las rfl rfl (Lnt (Gs.ret (Gs.takes (As := [cl x 92 [.map (some ml), .map (some mw)], mp strV slV ml L, mp keyV slV mw W, S]) (by repeat constructor) (Gs.ixc hL hW ?_))))
 exact Gs.fin1 Tryz.results44 rfl _ (⟨sa, sc, rfl, rfl⟩) (by repeat constructor)
end YtklgiidfompdpaaGreatDoor
end Go.Proofs
namespace Go.Proofs
open Go.Shelf
namespace YtklgiidfompdpaaGreatDoor
open Go Go.Sl Go.Gv
def Tabs (h0 : Hp) : Prop := ∀ w, Hp.le h0 w → Lib.Utf8Tabs (Tryz.laysValid_ren.g 3) (Tryz.laysValid_ren.g 4) w
def validS (s : ByteArray) : Bool := Lib.validD s.data.toList
theorem valid_spec {h0 : Hp} (T : Tabs h0) (s : ByteArray) (hs : s.size ≤ 9223372036854775807) : Ct Tryz.prog 105 [.string s] [ro h0] (fun v hs => v = .bool (validS s) ∧ hs = [ro h0]) :=
 Ct.ofBelow Tryz.func105 rfl (by kernel_rfl) (V := fun _ => .bool (validS s)) (fun w0 w R st => Any.utf8_ValidString Tryz.laysValid s w hs (T w (Sat.ro st))) (fun _ => ⟨rfl, rfl⟩)
end YtklgiidfompdpaaGreatDoor
end Go.Proofs
namespace Go.Proofs.YtklgiidfompdpaaGreatDoor
open Go Go.Sl Go.Gv
set_option maxRecDepth 100000
def inB (i m : Int) : Bool := decide (0 ≤ i) && decide (i ≤ m)
def stampB (w c : Int) : Bool := inB w 1099511627776 && inB c 65535
def textB (s : ByteArray) : Bool := decide ((s.size : Int) ≤ 120) && validS s
def keyB (k : Key) : Bool := decide (0 ≤ k.o) && decide (k.o < 8) && decide (1 ≤ k.q) && decide (k.q ≤ 1023)
def recB (r : Rec) : Bool := keyB r.key && stampB r.w r.c && textB r.t
theorem wall_spec (i : Int) : Ct Tryz.prog 140 [int i] [] (fun v hs => v = .bool (inB i 1099511627776) ∧ hs = []) := by
 refine Cti Tryz.func140 (by kernel_rfl) 9 Tryz.ntmps140 rfl rfl fun w0 R => ?_
 refine Gsr (Las rfl rfl (Lnt (Gsr (Lmv rfl rfl (Lq rfl (pu_ge rfl rfl) (LpuB rfl rfl trivial (pu_move rfl) (fun hg2 => ?_) (fun hg2 => ?_)))))))
 ·
  have hg2' := of_decide_eq_true hg2
  refine Lpu rfl rfl ⟨_, rfl, rfl⟩ (pu_move rfl) (Lpu rfl rfl ⟨_, rfl, rfl⟩ (pu_le rfl rfl) (Lpk rfl rfl rfl (Las rfl rfl (Lnt (Gs.ret ?_)))))
  exact Gs.fin1 Tryz.results140 rfl _ (⟨by simp [inB, hg2'], rfl⟩) (by repeat constructor)
 have hg2' := of_decide_eq_false hg2
 refine Lof rfl (Lof rfl (Lpk rfl rfl rfl (Las rfl rfl (Lnt (Gs.ret ?_)))))
 exact Gs.fin1 Tryz.results140 rfl _ (⟨by simp [inB, hg2'], rfl⟩) (by repeat constructor)
theorem stampMay_spec (w c : Int) : Ct Tryz.prog 91 [.agg #[int w, int c]] [] (fun v hs => v = .bool (stampB w c) ∧ hs = []) := by
 refine Cti Tryz.func91 (by kernel_rfl) 16 Tryz.ntmps91 rfl rfl fun w0 R => ?_
 refine Gsr (La rfl (ac_box rfl rfl) ?_)
 rintro _ _ ⟨b1, rfl, rfl⟩
 refine Las rfl rfl (Lnt (Gsr (Lq rfl (pu_fa fa_30_0 rfl) (Lr rfl (rd_ld na_3 rfl (Rdc.cl1 (by repeat constructor) rfl)) ?_))))
 refine La rfl (asC (wall_spec _)) ?_
 rintro _ _ ⟨_, ⟨rfl, rfl⟩, rfl⟩
 refine LpuB rfl rfl trivial (pu_move rfl) (fun hg3 => ?_) (fun hg3 => ?_)
 ·
  refine Lpu rfl rfl ⟨_, rfl, rfl⟩ (pu_fa fa_30_1 rfl) (Lrd rfl rfl ⟨_, rfl, rfl⟩ (rd_ld na_3 rfl (Rdc.cl1 (by repeat constructor) rfl)) ?_)
  refine Lpu rfl rfl ⟨_, rfl, rfl⟩ (pu_ge rfl rfl) (Lpk rfl rfl rfl (LpuB rfl rfl trivial (pu_move rfl) (fun hg8 => ?_) (fun hg8 => ?_)))
  ·
   refine Lpu rfl rfl ⟨_, rfl, rfl⟩ (pu_fa fa_30_1 rfl) (Lrd rfl rfl ⟨_, rfl, rfl⟩ (rd_ld na_3 rfl (Rdc.cl1 (by repeat constructor) rfl)) ?_)
   refine Lpu rfl rfl ⟨_, rfl, rfl⟩ (pu_le rfl rfl) (Lpk rfl rfl rfl (Las rfl rfl (Lnt (Gs.ret ?_))))
   exact Gs.fin1 Tryz.results91 rfl _ (⟨by grind [stampB, inB], rfl⟩) (by repeat constructor)
  refine Lof rfl (Lof rfl (Lof rfl (Lpk rfl rfl rfl (Las rfl rfl (Lnt (Gs.ret ?_))))))
  exact Gs.fin1 Tryz.results91 rfl _ (⟨by grind [stampB, inB], rfl⟩) (by repeat constructor)
 refine Lof rfl (Lof rfl (Lof rfl (Lpk rfl rfl rfl (Lmv rfl rfl (Lof rfl (Lof rfl (Lof rfl (Lpk rfl rfl rfl (Las rfl rfl (Lnt (Gs.ret ?_)))))))))))
 exact Gs.fin1 Tryz.results91 rfl _ (⟨by grind [stampB, inB], rfl⟩) (by repeat constructor)
theorem textMay_spec {h0 : Hp} (T : Tabs h0) (s : ByteArray) : Ct Tryz.prog 92 [.string s] [ro h0] (fun v hs => v = .bool (textB s) ∧ hs = [ro h0]) := by
 refine Cti Tryz.func92 (by kernel_rfl) 10 Tryz.ntmps92 rfl rfl fun w0 R => ?_
 refine Gsr (Las rfl rfl (Lnt (Gsr (Lmv rfl rfl (Lq rfl (pu_lenS Tryz.underlying9 rfl) (Lq rfl (pu_le rfl rfl) (LpuB rfl rfl trivial (pu_move rfl) (fun hg3 => ?_) (fun hg3 => ?_))))))))
 ·
  have hg := of_decide_eq_true hg3
  refine Lpu rfl rfl ⟨_, rfl, rfl⟩ (pu_move rfl) (Lac rfl rfl ⟨_, rfl, rfl⟩ (asC (valid_spec T s (by omega))) ?_)
  rintro _ _ ⟨_, ⟨rfl, rfl⟩, rfl⟩
  refine Lpk rfl rfl rfl (Las rfl rfl (Lnt (Gs.ret ?_)))
  exact Gs.fin1 Tryz.results92 rfl _ (⟨by simp [textB, hg], rfl⟩) (by repeat constructor)
 have hg := of_decide_eq_false hg3
 refine Lof rfl (Lof rfl (Lpk rfl rfl rfl (Las rfl rfl (Lnt (Gs.ret ?_)))))
 exact Gs.fin1 Tryz.results92 rfl _ (⟨by simp [textB, hg], rfl⟩) (by repeat constructor)
theorem recMay_spec {h0 : Hp} (T : Tabs h0) (r : Rec) : Ct Tryz.prog 48 [recV r] [ro h0] (fun v hs => v = .bool (recB r) ∧ hs = [ro h0]) := by
 refine Cti Tryz.func48 (by kernel_rfl) 35 Tryz.ntmps48 rfl rfl fun w0 R => ?_
 refine Gsr (La rfl (ac_box rfl rfl) ?_)
 rintro _ _ ⟨b1, rfl, rfl⟩
 refine Las rfl rfl (Lnt (Gsr (Lq rfl (pu_fa fa_32_0 rfl) (Lq rfl (pu_fa fa_28_0 rfl) (Lr rfl (rd_ld na_3 rfl (Rdc.cl1 (by repeat constructor) rfl)) ?_)))))
 refine Lq rfl (pu_ge rfl rfl) (LpuB rfl rfl trivial (pu_move rfl) (fun hg4 => ?_) (fun hg4 => ?_))
 ·
  refine Lpu rfl rfl ⟨_, rfl, rfl⟩ (pu_fa fa_32_0 rfl) (Lpu rfl rfl ⟨_, rfl, rfl⟩ (pu_fa fa_28_0 rfl) (Lrd rfl rfl ⟨_, rfl, rfl⟩ (rd_ld na_3 rfl (Rdc.cl1 (by repeat constructor) rfl)) ?_))
  refine Lpu rfl rfl ⟨_, rfl, rfl⟩ (pu_lt rfl rfl) (Lpk rfl rfl rfl (LpuB rfl rfl trivial (pu_move rfl) (fun hg10 => ?_) (fun hg10 => ?_)))
  ·
   refine Lpu rfl rfl ⟨_, rfl, rfl⟩ (pu_fa fa_32_0 rfl) (Lpu rfl rfl ⟨_, rfl, rfl⟩ (pu_fa fa_28_1 rfl) (Lrd rfl rfl ⟨_, rfl, rfl⟩ (rd_ld na_3 rfl (Rdc.cl1 (by repeat constructor) rfl)) ?_))
   refine Lpu rfl rfl ⟨_, rfl, rfl⟩ (pu_ge rfl rfl) (Lpk rfl rfl rfl (LpuB rfl rfl trivial (pu_move rfl) (fun hg16 => ?_) (fun hg16 => ?_)))
   ·
    refine Lpu rfl rfl ⟨_, rfl, rfl⟩ (pu_fa fa_32_0 rfl) (Lpu rfl rfl ⟨_, rfl, rfl⟩ (pu_fa fa_28_1 rfl) (Lrd rfl rfl ⟨_, rfl, rfl⟩ (rd_ld na_3 rfl (Rdc.cl1 (by repeat constructor) rfl)) ?_))
    refine Lpu rfl rfl ⟨_, rfl, rfl⟩ (pu_le rfl rfl) (Lpk rfl rfl rfl (LpuB rfl rfl trivial (pu_move rfl) (fun hg22 => ?_) (fun hg22 => ?_)))
    ·
     refine Lpu rfl rfl ⟨_, rfl, rfl⟩ (pu_fa fa_32_1 rfl) (Lrd rfl rfl ⟨_, rfl, rfl⟩ (rd_lda ag_30 rfl (Rdc.cl 2 (by repeat constructor) rfl) rfl) ?_)
     refine Lac rfl rfl ⟨_, rfl, rfl⟩ (asC (stampMay_spec _ _)) ?_
     rintro _ _ ⟨_, ⟨rfl, rfl⟩, rfl⟩
     refine Lpk rfl rfl rfl (LpuB rfl rfl trivial (pu_move rfl) (fun hg27 => ?_) (fun hg27 => ?_))
     ·
      refine Lpu rfl rfl ⟨_, rfl, rfl⟩ (pu_fa fa_32_2 rfl) (Lrd rfl rfl ⟨_, rfl, rfl⟩ (rd_ld na_9 rfl (Rdc.cl1 (by repeat constructor) rfl)) ?_)
      refine Lac rfl rfl ⟨_, rfl, rfl⟩ (asC (textMay_spec T _)) ?_
      rintro _ _ ⟨_, ⟨rfl, rfl⟩, rfl⟩
      refine Lpk rfl rfl rfl (Las rfl rfl (Lnt (Gs.ret ?_)))
      exact Gs.fin1 Tryz.results48 rfl _ (⟨by grind [recB, keyB, Rec.key], rfl⟩) (by repeat constructor)
     refine Lof rfl (Lof rfl (Lof rfl (Lpk rfl rfl rfl (Las rfl rfl (Lnt (Gs.ret ?_))))))
     exact Gs.fin1 Tryz.results48 rfl _ (⟨by grind [recB, keyB, Rec.key], rfl⟩) (by repeat constructor)
    refine Lof rfl (Lof rfl (Lof rfl (Lpk rfl rfl rfl (Lmv rfl rfl (Lof rfl (Lof rfl (Lof rfl (Lpk rfl rfl rfl (Las rfl rfl (Lnt (Gs.ret ?_)))))))))))
    exact Gs.fin1 Tryz.results48 rfl _ (⟨by grind [recB, keyB, Rec.key], rfl⟩) (by repeat constructor)
   refine Lof rfl (Lof rfl (Lof rfl (Lof rfl (Lpk rfl rfl rfl (Lmv rfl rfl (Lof rfl (Lof rfl (Lof rfl (Lpk rfl rfl rfl (Lmv rfl rfl (Lof rfl ?_)))))))))))
   refine Lof rfl (Lof rfl (Lpk rfl rfl rfl (Las rfl rfl (Lnt (Gs.ret ?_)))))
   exact Gs.fin1 Tryz.results48 rfl _ (⟨by grind [recB, keyB, Rec.key], rfl⟩) (by repeat constructor)
  refine Lof rfl (Lof rfl (Lof rfl (Lof rfl (Lpk rfl rfl rfl (Lmv rfl rfl (Lof rfl (Lof rfl (Lof rfl (Lof rfl (Lpk rfl rfl rfl (Lmv rfl rfl ?_)))))))))))
  refine Lof rfl (Lof rfl (Lof rfl (Lpk rfl rfl rfl (Lmv rfl rfl (Lof rfl (Lof rfl (Lof rfl (Lpk rfl rfl rfl (Las rfl rfl (Lnt (Gs.ret ?_)))))))))))
  exact Gs.fin1 Tryz.results48 rfl _ (⟨by grind [recB, keyB, Rec.key], rfl⟩) (by repeat constructor)
 refine Lof rfl (Lof rfl (Lof rfl (Lof rfl (Lpk rfl rfl rfl (Lmv rfl rfl (Lof rfl (Lof rfl (Lof rfl (Lof rfl (Lpk rfl rfl rfl (Lmv rfl rfl ?_)))))))))))
 refine Lof rfl (Lof rfl (Lof rfl (Lof rfl (Lpk rfl rfl rfl (Lmv rfl rfl (Lof rfl (Lof rfl (Lof rfl (Lpk rfl rfl rfl (Lmv rfl rfl (Lof rfl ?_)))))))))))
 refine Lof rfl (Lof rfl (Lpk rfl rfl rfl (Las rfl rfl (Lnt (Gs.ret ?_)))))
 exact Gs.fin1 Tryz.results48 rfl _ (⟨by grind [recB, keyB, Rec.key], rfl⟩) (by repeat constructor)
end Go.Proofs.YtklgiidfompdpaaGreatDoor
namespace Go.Proofs
open Go.Shelf
set_option maxRecDepth 100000
def Tryz.laysWR_ren : Go.Shelf.Ren := ⟨fun | 168 => 142 | 240 => 182 | 242 => 183 | 276 => 238 | 278 => 239 | n => n, fun | 0 => 0 | 3 => 3 | 4 => 4 | 5 => 5 | 9 => 9 | 20 => 20 | 21 => 21 | 37 => 174 | 46 => 185 | 51 => 193 | 70 => 173 | 72 => 176 | 75 => 178 | 80 => 181 | 164 => 268 | n => n, fun  | n => n⟩
theorem Tryz.laysWR : Go.Proofs.Lays.n168 Tryz.prog Tryz.laysWR_ren := {
 mixed := by kernel_rfl
 f168 := Tryz.func142.trans (congrArg some (by kernel_rfl))
 f240 := Tryz.func182.trans (congrArg some (by kernel_rfl))
 f242 := Tryz.func183.trans (congrArg some (by kernel_rfl))
 f276 := Tryz.func238.trans (congrArg some (by kernel_rfl))
 f278 := Tryz.func239.trans (congrArg some (by kernel_rfl))
 t0 := Tryz.underlying0
 a0 := Tryz.isAgg0
 z0 := Tryz.sizeOf0
 v0 := Tryz.zeroValue0
 t3 := Tryz.underlying3
 a3 := Tryz.isAgg3
 z3 := Tryz.sizeOf3
 v3 := Tryz.zeroValue3
 t4 := Tryz.underlying4
 a4 := Tryz.isAgg4
 z4 := Tryz.sizeOf4
 v4 := Tryz.zeroValue4
 t5 := Tryz.underlying5
 a5 := Tryz.isAgg5
 z5 := Tryz.sizeOf5
 v5 := Tryz.zeroValue5
 t9 := Tryz.underlying9
 a9 := Tryz.isAgg9
 z9 := Tryz.sizeOf9
 v9 := Tryz.zeroValue9
 t20 := Tryz.underlying20
 a20 := Tryz.isAgg20
 z20 := Tryz.sizeOf20
 v20 := Tryz.zeroValue20
 t21 := Tryz.underlying21
 a21 := Tryz.isAgg21
 z21 := Tryz.sizeOf21
 v21 := Tryz.zeroValue21
 t37 := Tryz.underlying174
 a37 := Tryz.isAgg174
 z37 := Tryz.sizeOf174
 v37 := Tryz.zeroValue174
 t46 := Tryz.underlying185
 a46 := Tryz.isAgg185
 z46 := Tryz.sizeOf185
 v46 := Tryz.zeroValue185
 t51 := Tryz.underlying193
 a51 := Tryz.isAgg193
 z51 := Tryz.sizeOf193
 v51 := Tryz.zeroValue193
 t70 := Tryz.underlying173
 a70 := Tryz.isAgg173
 z70 := Tryz.sizeOf173
 v70 := Tryz.zeroValue173
 t72 := Tryz.underlying176
 a72 := Tryz.isAgg176
 z72 := Tryz.sizeOf176
 v72 := Tryz.zeroValue176
 t75 := Tryz.underlying178
 a75 := Tryz.isAgg178
 z75 := Tryz.sizeOf178
 v75 := Tryz.zeroValue178
 t164 := Tryz.underlying268
 a164 := Tryz.isAgg268
 z164 := Tryz.sizeOf268
 v164 := Tryz.zeroValue268
}
end Go.Proofs
namespace Go.Proofs
open Go.RowKit Go.Shelf
namespace YtklgiidfompdpaaGreatDoor
def lowF (s : ByteArray) : Nat → Nat → List UInt8
 | 0, _ => []
 | fuel + 1, pos => if pos < s.size then Lib.encodeRune (Lib.toLowerU (Utf8.decode s pos).1) ++ lowF s fuel (pos + (Utf8.decode s pos).2) else []
def normB (s : ByteArray) : ByteArray := if validS s then ⟨(lowF s s.size 0).toArray⟩ else ⟨#[]⟩
theorem width_pos (s : ByteArray) (pos : Nat) (h : pos < s.size) : 1 ≤ (Utf8.decode s pos).2 := by
 by_cases ha : (s[pos]'h).toNat < 128
 · rw [decode_ascii s pos h ha]
   exact Nat.le_refl _
 · exact (decode_high s pos h (by omega)).2
theorem lowF_end (s : ByteArray) (fuel pos : Nat) (h : ¬ pos < s.size) : lowF s fuel pos = [] := by
 cases fuel with
 | zero => rfl
 | succ f => simp [lowF, h]
theorem bextra : Builder.Extra Tryz.prog Tryz.laysWR_ren where
 sizeBuilder := by kernel_rfl
 liesBuilder := by kernel_rfl
 t5 := Tryz.underlying5
 a5 := Tryz.isAgg5
 z5 := Tryz.sizeOf5
 v5 := Tryz.zeroValue5
 infoByte := by kernel_rfl
 cellsByte := by kernel_rfl
 sizeByte := by kernel_rfl
 neB5 := by decide
theorem bextra2 : Builder.Extra Tryz.prog Tryz.laysBS_ren where
 sizeBuilder := by kernel_rfl
 liesBuilder := by kernel_rfl
 t5 := Tryz.underlying5
 a5 := Tryz.isAgg5
 z5 := Tryz.sizeOf5
 v5 := Tryz.zeroValue5
 infoByte := by kernel_rfl
 cellsByte := by kernel_rfl
 sizeByte := by kernel_rfl
 neB5 := by decide
theorem writeRune_c (B b : Nat) (bs : List Value) (r : Int) (hr0 : -2147483648 ≤ r) (hr1 : r ≤ 2147483647) (w : World) (h : Lib.IsBuilderF 176 5 B b bs w) (hlen : bs.length + 4 ≤ 140737488355328) (hBw : B ≤ w.heap.size) :
   Calls Tryz.prog 142 #[.pointer (some ⟨b, 0, none⟩), .int .i32 r] w fun e w' => e = .returned (.tuple #[.int .i64 (Lib.runeCells r).length, .nilIface]) ∧ (Lib.BuilderAtF 176 5 B b (.pointer (some ⟨b, 0, none⟩)) (bs ++ Lib.runeCells r) w' ∧ Below B w w' ∧ Lib.OthersKept 5 (some b) w w') :=
 Any.Builder_WriteRune_k Tryz.laysWR bextra B b bs r hr0 hr1 w h hlen hBw
theorem string_c (B b : Nat) (l : List UInt8) (w : World) (h : Lib.IsBuilderF 176 5 B b (Lib.byteCells l) w) (hBw : B ≤ w.heap.size) :
   Calls Tryz.prog 143 #[.pointer (some ⟨b, 0, none⟩)] w fun e w' => e = .returned (.string ⟨l.toArray⟩) ∧ (Lib.IsBuilderF 176 5 B b (Lib.byteCells l) w' ∧ Below B w w') :=
 Any.Builder_String_any_f Tryz.laysBS bextra2 B b l w h hBw
theorem lower_c (r : Int) (w : World) (hV : Lib.CaseVar (Tryz.laysLower_ren.g 13) Lib.caseA w) :
   Calls Tryz.prog 109 #[.int .i32 r] w fun e w' => e = .returned (.int .i32 (Lib.toLowerU r)) ∧ ∃ q, w' = w.drewN q :=
 Any.unicode_ToLower_laid Tryz.laysLower r w hV
theorem caseVar_below {g : Nat} {T : Array Lib.CaseRow} {w w' : World} (h : Lib.CaseVar g T w) (hb : Below w.heap.size w w') : Lib.CaseVar g T w' := by
 have k : ∀ {a : Addr} {v : Value}, w.cell? a = some v → w'.cell? a = some v := fun {a v} hc => (hb.cell (World.block_lt_of_cell? w a hc)).trans hc
 obtain ⟨R, oR, cap, h1, h2⟩ := h
 exact ⟨R, oR, cap, k h1, fun i hi => ⟨k (h2 i hi).1, k (h2 i hi).2.1, k (h2 i hi).2.2.1, k (h2 i hi).2.2.2.1, k (h2 i hi).2.2.2.2⟩⟩
theorem valid_c (s : ByteArray) (w : World) (hs : s.size ≤ 9223372036854775807) (hT : Lib.Utf8Tabs (Tryz.laysValid_ren.g 3) (Tryz.laysValid_ren.g 4) w) :
   Calls Tryz.prog 105 #[.string s] w fun e w' => e = .returned (.bool (validS s)) ∧ Below w.heap.size w w' := Any.utf8_ValidString Tryz.laysValid s w hs hT
theorem low_range (r : Int) (h0 : -2147483648 ≤ r) (h1 : r ≤ 2147483647) : -2147483648 ≤ Lib.toLowerU r ∧ Lib.toLowerU r ≤ 2147483647 := by
 rw [← toLowerW_caseA]
 unfold Lib.toLowerW
 split
 · split <;> omega
 · unfold Lib.toW
   split
   · unfold RowKit.wrap32; omega
   · omega
set_option maxHeartbeats 4000000 in
set_option maxRecDepth 1000000 in
theorem norm_walk (s : ByteArray) (w : World) (hs : s.size ≤ 35184372088832) (hT : Lib.Utf8Tabs (Tryz.laysValid_ren.g 3) (Tryz.laysValid_ren.g 4) w) (hC : Lib.CaseVar (Tryz.laysLower_ren.g 13) Lib.caseA w) :
   Calls Tryz.prog 95 #[.string s] w fun e w' => e = .returned (.string (normB s)) ∧ Below w.heap.size w w' := by
 have cV := valid_c s w (by omega) hT
 cases hv : validS s with
 | false =>
   rw [hv] at cV
   have hn : normB s = ⟨#[]⟩ := by unfold normB; rw [hv]; rfl
   rw [hn]
   go_enter Tryz.func95, Tryz.ntmps95
   go_wp2_with (go_at_call 105; refine cV.mono ?_)
   rintro e W1 ⟨rfl, b1⟩
   go_wp2
   go_ret
   exact ⟨rfl, b1⟩
 | true =>
   rw [hv] at cV
   have hn : normB s = ⟨(lowF s s.size 0).toArray⟩ := by unfold normB; rw [hv]; rfl
   rw [hn]
   go_enter Tryz.func95, Tryz.ntmps95
   go_wp2_with (go_at_call 105; refine cV.mono ?_)
   rintro e W0 ⟨rfl, b0⟩
   have hC0 := caseVar_below hC b0
   go_wp2
   go_loopw [] (fun wr => ∃ (pos fuel : Nat) (acc : List UInt8), Lib.IsBuilderF 176 5 W0.heap.size W0.heap.size (Lib.byteCells acc) wr ∧ wr.heap[W0.heap.size + 1]? = some (.stringIter s pos) ∧ Below W0.heap.size W0 wr ∧ acc ++ lowF s fuel pos = lowF s s.size 0 ∧ s.size ≤ pos + fuel ∧ acc.length ≤ 4 * pos) (fun wr => s.size - wr.iterPos (W0.heap.size + 1))
   case atStart =>
     refine ⟨0, s.size, [], (Lib.IsBuilderF.of (Lib.fresh_isBuilder 176 5 W0)).alloc _, ?_, ((Below.refl _ W0).alloc (Nat.le_refl _) _).alloc (by simp) _, rfl, by omega, by simp⟩
     have := World.iter_heap (W0.alloc (.cells #[.pointer none, .slice none 0 0] 176)) s 0
     simpa using this
   case round =>
     obtain ⟨pos, fuel, acc, hI, hit, hbw, hacc, hfu, hal⟩ := hrel
     have hsz : W0.heap.size + 1 < wr.heap.size := (Array.getElem?_eq_some_iff.1 hit).1
     by_cases hp : pos < s.size
     · have hnx : ∀ ty, (Instr.next (.pointer (some ⟨W0.heap.size + 1, 0, none⟩)) true ty).run Tryz.prog wr = _ := fun ty => Lib.run_next_any_at wr (W0.heap.size + 1) s pos ty hit hp
       have hwd := width_pos s pos hp
       have hd1 := decode_le s pos
       have hI2 := hI.iterAt hit (pos + (Utf8.decode s pos).2)
       have hit2 := Lib.iterAt_heap wr (W0.heap.size + 1) s pos (pos + (Utf8.decode s pos).2) hit
       have hbw2 := Lib.below_iterAt hbw (k := W0.heap.size + 1) (by omega) s (pos + (Utf8.decode s pos).2)
       have hsz2 : W0.heap.size ≤ (wr.iterAt (W0.heap.size + 1) s (pos + (Utf8.decode s pos).2)).heap.size := by rw [Lib.iterAt_size]; omega
       have hCr := caseVar_below hC0 hbw2
       obtain ⟨f, rfl⟩ : ∃ f, fuel = f + 1 := ⟨fuel - 1, by omega⟩
       have cL := lower_c ((Utf8.decode s pos).1 : Int) _ hCr
       go_wp2_with (go_at_call 109; refine cL.mono ?_)
       rintro e W1 ⟨rfl, q, rfl⟩
       have hI3 : Lib.IsBuilderF 176 5 W0.heap.size W0.heap.size (Lib.byteCells acc) ((wr.iterAt (W0.heap.size + 1) s (pos + (Utf8.decode s pos).2)).drewN q) := hI2
       have hit3 : ((wr.iterAt (W0.heap.size + 1) s (pos + (Utf8.decode s pos).2)).drewN q).heap[W0.heap.size + 1]? = some (.stringIter s (pos + (Utf8.decode s pos).2)) := hit2
       have hbw3 : Below W0.heap.size W0 ((wr.iterAt (W0.heap.size + 1) s (pos + (Utf8.decode s pos).2)).drewN q) := ⟨hbw2.os, hbw2.tape, hbw2.output, hbw2.size, hbw2.block⟩
       have hlo := low_range ((Utf8.decode s pos).1 : Int) (by omega) (by omega)
       go_wp2_with (go_at_call 142; refine (writeRune_c W0.heap.size W0.heap.size _ _ hlo.1 hlo.2 _ hI3 (by rw [Lib.byteCells_length]; omega) hsz2).mono ?_)
       rintro e W2 ⟨rfl, h1, b1, k1⟩
       go_wp2
       go_roundw
       case rel =>
         have hl4 := Lib.runeCells_le (Lib.toLowerU ((Utf8.decode s pos).1 : Int))
         rw [Lib.runeCells_length] at hl4
         refine ⟨pos + (Utf8.decode s pos).2, f, acc ++ Lib.encodeRune (Lib.toLowerU (Utf8.decode s pos).1), ?_, k1.iter hit3 (by omega), hbw3.trans b1, ?_, by omega, by simp; omega⟩
         · rw [Lib.byteCells_append, Lib.byteCells_encodeRune]; exact Or.inr h1
         · rw [← hacc]; simp [lowF, hp]
       case measure =>
         simp only [World.iterPos, k1.iter hit3 (by omega), hit]
         omega
     · have hnx : ∀ ty, (Instr.next (.pointer (some ⟨W0.heap.size + 1, 0, none⟩)) true ty).run Tryz.prog wr = _ := fun ty => Lib.run_next_end_at wr (W0.heap.size + 1) s pos ty hit hp
       go_wp2_with (go_at_call 143; refine (string_c W0.heap.size W0.heap.size acc _ hI (by omega)).mono ?_)
       rintro e W1 ⟨rfl, _, b1⟩
       go_wp2
       go_ret
       rw [lowF_end s fuel pos hp, List.append_nil] at hacc
       subst hacc
       exact ⟨rfl, b0.trans ((hbw.trans b1).mono b0.size)⟩
end YtklgiidfompdpaaGreatDoor
end Go.Proofs
