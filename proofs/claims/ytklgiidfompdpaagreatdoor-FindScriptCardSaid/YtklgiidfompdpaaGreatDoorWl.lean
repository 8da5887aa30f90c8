/- What the closing leans on: part 12. -/
import Derived.Test.YtklgiidfompdpaaGreatDoorWk
import Derived.Test.YtklgiidfompdpaaGreatDoorWf
namespace Go.Proofs.YtklgiidfompdpaaGreatDoor
open Go Go.Sl Go.Gv Go.Kv Go.Po Go.Ix Go.Qu Go.Shelf
set_option maxRecDepth 100000
abbrev lookC (r : Rec) (a : Option Addr) (n c : Nat) : List Value := [int r.o, int r.q, int r.w, int r.c, .string r.t, .slice a n c]
abbrev lookV (r : Rec) (a : Option Addr) (n c : Nat) : Value := .agg (lookC r a n c).toArray
theorem holds1_spec {S : HProp} {x : AskV} {xb : Nat} {p : ByteArray} (hA : ARd S x) (hp : x.w.xs[0]? = some p) (w : WordP) :
   Ct Tryz.prog 160 ([] ++ [wordV w] ++ [ptr xb]) [S, cl xb 26 (askC x)] (fun v hs => v = .bool (preB w.1 p) ∧ hs = [S, cl xb 26 (askC x)]) := by
 have hlt := (List.getElem?_eq_some_iff.1 hp).1
 have hmx : maxLen = 9223372036854775807 := by decide
 have hxl := hA.l
 refine Cti Tryz.func160 (by kernel_rfl) 11 Tryz.ntmps160 rfl rfl fun w0 R => ?_
 refine Gs.slAddr (hA.w.h (by repeat constructor)) fun ab ao ha => ?_
 have hsa := ha (fun e => by rw [e] at hlt; simp at hlt)
 have hs := hA.w
 rw [hsa] at hs
 refine Gsr (La rfl (ac_box rfl rfl) ?_)
 rintro _ _ ⟨wb, rfl, rfl⟩
 refine Las rfl rfl (Lnt (Gs.seq (Gs.regD mixed (by kernel_rfl) (Rq 0 rfl (by kernel_rfl) (pu_fa fa_98_0 rfl) (Rr 1 rfl (by kernel_rfl) (rd_ld na_9 rfl (Rdc.cl1 (by repeat constructor) rfl)) ?_)))))
 refine Rq 2 rfl (by kernel_rfl) (pu_fa fa_26_2 rfl) (Rr 3 rfl (by kernel_rfl) (rd_ld na_23 rfl (Rdc.cl1 (by repeat constructor) rfl)) ?_)
 rw [hsa]
 refine Rq 4 rfl (by kernel_rfl) (pu_ia se_23 rfl rfl (by omega) (by omega)) (Rr 5 rfl (by kernel_rfl) (rd_ld na_9 rfl (Rdc.el0 (hs.h (by repeat constructor)) hp rfl rfl)) ?_)
 refine Rg.one (by kernel_rfl) (Stp.ac 6 rfl rfl (by kernel_rfl) trivial (asC (hasPrefix_spec w.1 p))  ?_)
 rintro _ _ ⟨_, ⟨rfl, rfl⟩, rfl⟩
 refine Rq 7 rfl (by kernel_rfl) (pu_assign rfl) (Rg.end (by kernel_rfl) (Gn (Gs.ret ?_)))
 exact Gs.fin1 Tryz.results160 rfl _ (⟨rfl, rfl⟩) (by repeat constructor)
theorem holds2_spec {S : HProp} {r : Rec} {a : Option Addr} {n c lb : Nat} {y : AskV} {b : Bool} (h : Ct Tryz.prog 112 [lookV r a n c, askV y] [S] (fun v hs => v = .bool b ∧ hs = [S])) :
   Ct Tryz.prog 161 ([] ++ [askV y] ++ [ptr lb]) [S, cl lb 148 (lookC r a n c)] (fun v hs => v = .bool (!b) ∧ hs = [S, cl lb 148 (lookC r a n c)]) := by
 refine Cti Tryz.func161 (by kernel_rfl) 8 Tryz.ntmps161 rfl rfl fun w0 R => ?_
 refine Gsr (La rfl (ac_box rfl rfl) ?_)
 rintro _ _ ⟨yb, rfl, rfl⟩
 refine Las rfl rfl (Lnt (Gsr (Lr rfl (rd_lda ag_148 rfl (Rdc.cl 6 (by repeat constructor) rfl) rfl) ?_)))
 refine Lr rfl (rd_lda ag_26 rfl (Rdc.cl 4 (by repeat constructor) rfl) rfl) ?_
 refine La rfl (asC (h)) ?_
 rintro _ _ ⟨_, ⟨rfl, rfl⟩, rfl⟩
 refine Lq rfl (pu_not rfl) (Las rfl rfl (Lnt (Gs.ret ?_)))
 exact Gs.fin1 Tryz.results161 rfl _ (⟨rfl, rfl⟩) (by repeat constructor)
theorem toks_any (pre : ByteArray → ByteArray → Bool) (l : List ByteArray) (p : ByteArray) : (toksOf l 0).any (fun w => pre w.1 p) = l.any fun w => pre w p := by
 have h : (toksOf l 0).map Prod.fst = l := by
   refine List.ext_getElem? fun i => ?_
   rw [List.getElem?_map, tok_at]; cases l[i]? <;> rfl
 rw [← h, List.any_map, h]; rfl
set_option maxHeartbeats 1000000 in
theorem holdsD_spec {S : HProp} (r : Rec) {wa : Option Addr} {wc : Nat} {l : List ByteArray} (hS : Srd S 2 wordC wa (toksOf l 0)) (hl : l.length ≤ 1000) : ∀ (d : Nat) {x : AskV} (hA : ARd S x) (hF : FewA d x) (hG : goodA oddB d x = true),
   Ct Tryz.prog 112 [lookV r wa (toksOf l 0).length wc, askV x] [S] (fun v hs => v = .bool (holdsA preB r l d x) ∧ hs = [S])
 | 0, x, hA, hF, hG => hF.elim
 | d + 1, x, hA, hF, hG => by
   have ih := @holdsD_spec S r wa wc l hS hl d
   have hkd := good_kind hG
   have hgs := good_subs hG
   obtain ⟨hf1, hf2, hf3, hf4⟩ := hF
   have hmx : maxLen = 9223372036854775807 := by decide
   have hxl := hA.l
   have hTl := toks_length l 0
   obtain ⟨v0, hv0⟩ : ∃ z, z = holdsA preB r l (d + 1) x := ⟨_, rfl⟩
   rw [← hv0]
   refine Cti Tryz.func112 (by kernel_rfl) 71 Tryz.ntmps112 rfl rfl fun w0 R => ?_
   refine Gs.slAddr (hA.s.h (by repeat constructor)) fun ab ao ha => ?_
   refine Gsr (La rfl (ac_box rfl rfl) ?_)
   rintro _ _ ⟨lb, rfl, rfl⟩
   refine La rfl (ac_box rfl rfl) ?_
   rintro _ _ ⟨xb, rfl, rfl⟩
   refine Las rfl rfl (Lnt (Gs.seq (Gsr (Lq rfl (pu_fa fa_26_0 rfl) (Lr rfl (rd_ld na_3 rfl (Rdc.cl1 (by repeat constructor) rfl)) ?_)))))
   refine Lnt (Gs.block (Gs.seq (Gsr (Lq rfl (pu_eq rfl rfl) (Las rfl rfl (Lnt (Gs.cut (E := [(2, ptr lb), (3, ptr xb), (7, int x.kind), (8, .bool (decide (x.kind = 1 ∨ x.kind = 3)))]) (I := ([cl lb 148 (lookC r wa (toksOf l 0).length wc), cl xb 26 (askC x), S] ++ R)) ?_ ?_)))))))
   ·
    refine Gs.cond rfl (fun hka => ?_) (fun hka => ?_)
    ·
     rw [show decide (x.kind = 1) = decide (x.kind = 1 ∨ x.kind = 3) from (decide_eq_true (of_decide_eq_true hka)).trans (decide_eq_true (.inl (of_decide_eq_true hka))).symm]
     refine Gs.skip (Gn ?_)
     exact Gs.cutEnd (by repeat constructor) (by repeat constructor)
    refine Gs.reg (Lq rfl (pu_eq rfl rfl) (Las rfl rfl ?_))
    rw [show decide (x.kind = 3) = decide (x.kind = 1 ∨ x.kind = 3) from decide_eq_decide.2 ⟨fun h => .inr h, fun h => h.resolve_left (of_decide_eq_false hka)⟩]
    refine Lnt ?_
    exact Gs.cutEnd (by repeat constructor) (by repeat constructor)
   refine Gs.cond rfl (fun hk1 => ?_) (fun hk1 => ?_)
   ·
    refine Gsr (Lq rfl (pu_fa fa_148_1 rfl) (Lr rfl (rd_ld na_83 rfl (Rdc.cl1 (by repeat constructor) rfl)) ?_))
    refine Lq rfl (pu_fa fa_26_2 rfl) (Lr rfl (rd_ld na_23 rfl (Rdc.cl1 (by repeat constructor) rfl)) ?_)
    refine La rfl (asC (phraseD_spec hS hA.w hl (by show x.ws.length ≤ 1000; omega))) ?_
    rintro _ _ ⟨_, ⟨rfl, rfl⟩, rfl⟩
    refine Las rfl rfl (Lnt (Gs.ret (Gs.blk_r (Gr ?_))))
    exact Gs.fin1 Tryz.results112 rfl _ (⟨by rw [hv0, holds_1 (of_decide_eq_true hk1)], rfl⟩) (by repeat constructor)
   refine Gsr (Lq rfl (pu_eq rfl rfl) (Las rfl rfl (Lnt (Gs.cond rfl (fun hk2 => ?_) (fun hk2 => ?_)))))
   ·
    have hwl : x.ws.length = 1 := by
      have h2 := of_decide_eq_true hk2
      rcases hkd with h | h | h | h | h
      · exact h.2.2
      · omega
      · omega
      · omega
      · omega
    obtain ⟨p, hp⟩ := List.length_eq_one_iff.1 hwl
    have hp0 : x.w.xs[0]? = some p := by show x.ws[0]? = _; rw [hp]; rfl
    refine Gsr (Lq rfl (pu_fa fa_148_1 rfl) (Lr rfl (rd_ld na_83 rfl (Rdc.cl1 (by repeat constructor) rfl)) ?_))
    refine Lq rfl (pu_func (by repeat constructor) (by repeat constructor)) ?_
    refine La rfl (asC (containsW_spec (q := fun w => preB w.1 p) hS (by omega) (fun w _ => holds1_spec hA hp0 w))) ?_
    rintro _ _ ⟨_, ⟨rfl, rfl⟩, rfl⟩
    refine Las rfl rfl (Lnt (Gs.ret (Gs.blk_r (Gr ?_))))
    exact Gs.fin1 Tryz.results112 rfl _ (⟨by rw [hv0, holds_2 (of_decide_eq_true hk2), toks_any, show x.ws = [p] from hp]; rfl, rfl⟩) (by repeat constructor)
   refine Gsr (Lq rfl (pu_eq rfl rfl) (Las rfl rfl (Lnt (Gs.cond rfl (fun hk4 => ?_) (fun hk4 => ?_)))))
   ·
    refine Gsr (Lq rfl (pu_fa fa_148_0 rfl) (Lq rfl (pu_fa fa_32_0 rfl) (Lq rfl (pu_fa fa_28_0 rfl) (Lr rfl (rd_ld na_3 rfl (Rdc.cl1 (by repeat constructor) rfl)) ?_))))
    refine Lq rfl (pu_fa fa_26_1 rfl) (Lr rfl (rd_ld na_3 rfl (Rdc.cl1 (by repeat constructor) rfl)) ?_)
    refine Lq rfl (pu_eq rfl rfl) (Las rfl rfl (Lnt (Gs.ret (Gs.blk_r (Gr ?_)))))
    exact Gs.fin1 Tryz.results112 rfl _ (⟨by rw [hv0, holds_4 (of_decide_eq_true hk4)], rfl⟩) (by repeat constructor)
   refine Gsr (Lq rfl (pu_eq rfl rfl) (Las rfl rfl (Lnt (Gs.cond rfl (fun hk5 => ?_) (fun hk5 => ?_)))))
   ·
    refine Gsr (Lq rfl (pu_fa fa_148_0 rfl) (Lq rfl (pu_fa fa_32_1 rfl) (Lq rfl (pu_fa fa_30_0 rfl) (Lr rfl (rd_ld na_3 rfl (Rdc.cl1 (by repeat constructor) rfl)) ?_))))
    refine Lq rfl (pu_fa fa_26_1 rfl) (Lr rfl (rd_ld na_3 rfl (Rdc.cl1 (by repeat constructor) rfl)) ?_)
    refine Lq rfl (pu_ge rfl rfl) (Las rfl rfl (Lnt (Gs.ret (Gs.blk_r (Gr ?_)))))
    exact Gs.fin1 Tryz.results112 rfl _ (⟨by rw [hv0, holds_5 (of_decide_eq_true hk5)], rfl⟩) (by repeat constructor)
   refine Gsr (Lq rfl (pu_eq rfl rfl) (Las rfl rfl (Lnt (Gs.cond rfl (fun hk6 => ?_) (fun hk6 => ?_)))))
   ·
    refine Gsr (Lq rfl (pu_fa fa_148_0 rfl) (Lq rfl (pu_fa fa_32_1 rfl) (Lq rfl (pu_fa fa_30_0 rfl) (Lr rfl (rd_ld na_3 rfl (Rdc.cl1 (by repeat constructor) rfl)) ?_))))
    refine Lq rfl (pu_fa fa_26_1 rfl) (Lr rfl (rd_ld na_3 rfl (Rdc.cl1 (by repeat constructor) rfl)) ?_)
    refine Lq rfl (pu_le rfl rfl) (Las rfl rfl (Lnt (Gs.ret (Gs.blk_r (Gr ?_)))))
    exact Gs.fin1 Tryz.results112 rfl _ (⟨by rw [hv0, holds_6 (of_decide_eq_true hk6)], rfl⟩) (by repeat constructor)
   refine Gsr (Lq rfl (pu_eq rfl rfl) (Las rfl rfl (Lnt (Gs.cond rfl (fun hk8 => ?_) (fun hk8 => ?_)))))
   ·
    refine Gsr (Lq rfl (pu_fa fa_26_3 rfl) (Lr rfl (rd_ld na_24 rfl (Rdc.cl1 (by repeat constructor) rfl)) ?_))
    refine Lr rfl (rd_lda ag_148 rfl (Rdc.cl 6 (by repeat constructor) rfl) rfl) ?_
    refine Lq rfl (pu_func (by repeat constructor) (by repeat constructor)) ?_
    refine La rfl (asC (containsAv_spec (F := cl xb 26 (askC x)) (us := [lookV r wa (toksOf l 0).length wc]) (cs := []) (q := holdsA preB r l d) hA.s (fun y hy => Ct.fr (ih (hA.sub y hy) (hf4 y hy) (hgs y hy))) (by omega))) ?_
    rintro _ _ ⟨_, ⟨rfl, rfl⟩, rfl⟩
    refine Las rfl rfl (Lnt (Gs.ret (Gs.blk_r (Gr ?_))))
    exact Gs.fin1 Tryz.results112 rfl _ (⟨by rw [hv0, holds_8 (of_decide_eq_true hk8)], rfl⟩) (by repeat constructor)
   refine Gs.skip (Gs.blk_n (Gn (Gsr (Lq rfl (pu_func (by repeat constructor) (by repeat constructor)) ?_))))
   refine Las rfl rfl (Lnt (Gs.seq (Gsr (Lq rfl (pu_fa fa_26_0 rfl) (Lr rfl (rd_ld na_3 rfl (Rdc.cl1 (by repeat constructor) rfl)) ?_)))))
   refine Lq rfl (pu_eq rfl rfl) (Lnt (Gs.cond rfl (fun hk9 => ?_) (fun hk9 => ?_)))
   ·
    have hsl : x.ss.length = 1 := by
      have h9 := of_decide_eq_true hk9
      rcases hkd with h | h | h | h | h
      · omega
      · omega
      · omega
      · exact h.2
      · omega
    obtain ⟨y, hy⟩ := List.length_eq_one_iff.1 hsl
    have hy0 : x.ss[0]? = some y := by rw [hy]; rfl
    have hym : y ∈ x.ss := by rw [hy]; simp
    have hsa := ha (fun e => by rw [e] at hsl; cases hsl)
    have hs := hA.s
    rw [hsa] at hs
    refine Gsr (Lmv rfl rfl (Lq rfl (pu_fa fa_26_3 rfl) (Lr rfl (rd_ld na_24 rfl (Rdc.cl1 (by repeat constructor) rfl)) ?_)))
    rw [hsa]
    refine Lq rfl (pu_ia se_24 rfl rfl (by omega) (by omega)) (Lr rfl (rd_lda ag_26 rfl (Rdc.el0 (hs.h (by repeat constructor)) hy0 rfl rfl) rfl) ?_)
    refine La rfl (as_callV rfl (holds2_spec (ih (hA.sub y hym) (hf4 y hym) (hgs y hym))) (by repeat constructor) (by repeat constructor)) ?_
    rintro _ _ ⟨_, ⟨rfl, rfl⟩, rfl⟩
    refine Las rfl rfl (Lnt (Gs.ret (Gr ?_)))
    exact Gs.fin1 Tryz.results112 rfl _ (⟨by rw [hv0, holdsNot (of_decide_eq_true hk9) hy], rfl⟩) (by repeat constructor)
   have hk7 : x.kind = 7 := by
     have e1 := of_decide_eq_false hk1
     have e2 := of_decide_eq_false hk2
     have e4 := of_decide_eq_false hk4
     have e5 := of_decide_eq_false hk5
     have e6 := of_decide_eq_false hk6
     have e8 := of_decide_eq_false hk8
     have e9 := of_decide_eq_false hk9
     omega
   refine Gs.skip (Gn (Gsr (Lq rfl (pu_fa fa_26_3 rfl) (Lr rfl (rd_ld na_24 rfl (Rdc.cl1 (by repeat constructor) rfl)) ?_))))
   refine Lmv rfl rfl (La rfl (asC (containsAv_spec (F := cl lb 148 (lookC r wa (toksOf l 0).length wc)) (us := []) (cs := [ptr lb]) (q := fun y => !holdsA preB r l d y) hA.s (fun y hy => holds2_spec (ih (hA.sub y hy) (hf4 y hy) (hgs y hy))) (by omega))) ?_)
   rintro _ _ ⟨_, ⟨rfl, rfl⟩, rfl⟩
   refine Lq rfl (pu_not rfl) (Las rfl rfl (Lnt (Gs.ret ?_)))
   exact Gs.fin1 Tryz.results112 rfl _ (⟨by rw [hv0, holds_7 hk7, List.not_any_eq_all_not]; congr 2; funext y; rw [Bool.not_not], rfl⟩) (by repeat constructor)
set_option maxHeartbeats 1000000 in
theorem holds15_spec {S : HProp} (r : Rec) {wa : Option Addr} {wc : Nat} {l : List ByteArray} (hS : Srd S 2 wordC wa (toksOf l 0)) (hl : l.length ≤ 1000) (hw : ∀ w ∈ l, w.size ≤ 100000) : ∀ (d : Nat) {x : AskV} (hA : ARd S x) (hF : FewA d x) (hG : goodA oddB d x = true),
   Ct Tryz.prog 38 [askV x, recV r, .slice wa (toksOf l 0).length wc] [S] (fun v hs => v = .bool (holdsA preB r l d x) ∧ hs = [S])
 | 0, x, hA, hF, hG => hF.elim
 | d + 1, x, hA, hF, hG => by
   have ih := @holds15_spec S r wa wc l hS hl hw d
   have hkd := good_kind hG
   have hgs := good_subs hG
   obtain ⟨hf1, hf2, hf3, hf4⟩ := hF
   have hmx : maxLen = 9223372036854775807 := by decide
   have hxl := hA.l
   have hTl := toks_length l 0
   obtain ⟨v0, hv0⟩ : ∃ z, z = holdsA preB r l (d + 1) x := ⟨_, rfl⟩
   rw [← hv0]
   refine Cti Tryz.func38 (by kernel_rfl) 113 Tryz.ntmps38 rfl rfl fun w0 R => ?_
   refine Gs.slAddr (hA.s.h (by repeat constructor)) fun ab ao ha => ?_
   refine Gs.slAddr (hA.w.h (by repeat constructor)) fun ub uo hu => ?_
   refine Gs.slAddr (hS.h (by repeat constructor)) fun tb tof hta => ?_
   refine Gsr (La rfl (ac_box rfl rfl) ?_)
   rintro _ _ ⟨xb, rfl, rfl⟩
   refine La rfl (ac_box rfl rfl) ?_
   rintro _ _ ⟨rb, rfl, rfl⟩
   refine Las rfl rfl (Lnt (Gs.seq (Gsr (Lq rfl (pu_fa fa_26_0 rfl) (Lr rfl (rd_ld na_3 rfl (Rdc.cl1 (by repeat constructor) rfl)) ?_)))))
   refine Lnt (Gs.block (Gs.seq (Gsr (Lq rfl (pu_eq rfl rfl) (Las rfl rfl (Lnt (Gs.cut (E := [(2, .slice wa (toksOf l 0).length wc), (3, ptr xb), (4, ptr rb), (11, int x.kind), (12, .bool (decide (x.kind = 1 ∨ x.kind = 3)))]) (I := ([cl xb 26 (askC x), cl rb 32 (recC r), S] ++ R)) ?_ ?_)))))))
   ·
    refine Gs.cond rfl (fun hka => ?_) (fun hka => ?_)
    ·
     rw [show decide (x.kind = 1) = decide (x.kind = 1 ∨ x.kind = 3) from (decide_eq_true (of_decide_eq_true hka)).trans (decide_eq_true (.inl (of_decide_eq_true hka))).symm]
     refine Gs.skip (Gn ?_)
     exact Gs.cutEnd (by repeat constructor) (by repeat constructor)
    refine Gs.reg (Lq rfl (pu_eq rfl rfl) (Las rfl rfl ?_))
    rw [show decide (x.kind = 3) = decide (x.kind = 1 ∨ x.kind = 3) from decide_eq_decide.2 ⟨fun h => .inr h, fun h => h.resolve_left (of_decide_eq_false hka)⟩]
    refine Lnt ?_
    exact Gs.cutEnd (by repeat constructor) (by repeat constructor)
   refine Gs.cond rfl (fun hk1 => ?_) (fun hk1 => ?_)
   ·
    refine Gsr (Lmv rfl rfl (Lq rfl (pu_fa fa_26_2 rfl) (Lr rfl (rd_ld na_23 rfl (Rdc.cl1 (by repeat constructor) rfl)) ?_)))
    refine La rfl (asC (phrase15_spec hS hA.w hl (by show x.ws.length ≤ 1000; omega))) ?_
    rintro _ _ ⟨_, ⟨rfl, rfl⟩, rfl⟩
    refine Las rfl rfl (Lnt (Gs.ret (Gs.blk_r (Gr ?_))))
    exact Gs.fin1 Tryz.results38 rfl _ (⟨by rw [hv0, holds_1 (of_decide_eq_true hk1)], rfl⟩) (by repeat constructor)
   refine Gsr (Lq rfl (pu_eq rfl rfl) (Las rfl rfl (Lnt (Gs.cond rfl (fun hk2 => ?_) (fun hk2 => ?_)))))
   ·
    have hwl : x.ws.length = 1 := by
      have h2 := of_decide_eq_true hk2
      rcases hkd with h | h | h | h | h
      · exact h.2.2
      · omega
      · omega
      · omega
      · omega
    obtain ⟨p, hp⟩ := List.length_eq_one_iff.1 hwl
    have hp0 : x.w.xs[0]? = some p := by show x.ws[0]? = _; rw [hp]; rfl
    have hpl : p.size ≤ 100 := hf2 p (by rw [hp]; simp)
    have hua := hu (fun e => by have h : x.w.xs.length = 1 := hwl; rw [e] at h; cases h)
    have hus := hA.w
    rw [hua] at hus
    have h1l : x.w.xs.length = 1 := hwl
    refine Gs.seq (Gsr (Las rfl rfl (Lnt (Gs.block (Gs.loop1 (fun i : Nat => i ≤ l.length ∧ ((l.take i).any fun w => preB w p) = false) (fun i => [(2, .slice wa (toksOf l 0).length wc), (3, ptr xb), (4, ptr rb), (7, int i)]) (fun i => [cl xb 26 (askC x), cl rb 32 (recC r), S] ++ R) (fun i => l.length - i) 0 (⟨Nat.zero_le _, rfl⟩) (by repeat constructor) (by repeat constructor) (fun i ⟨hi, hno⟩ => ?_))))))
    refine Gs.seq (Gsr (Lmv rfl rfl (Lmv rfl rfl (Lq rfl (pu_len Tryz.underlying83 rfl) (Lq rfl (pu_lt rfl rfl) (Lnt (Gs.cond rfl (fun hc3 => ?_) (fun hc3 => ?_))))))))
    ·
     have hlt : i < l.length := by have := of_decide_eq_true hc3; omega
     obtain ⟨w, hwi⟩ : ∃ z, l[i]? = some z := ⟨l[i], by simp [hlt]⟩
     have hwT : (toksOf l 0)[i]? = some (w, (i : Int)) := by rw [tok_at, hwi]; rfl
     have hwz := hw w (List.mem_of_getElem? hwi)
     obtain rfl := hta (fun hc => by rw [hc] at hTl; simp at hTl; omega)
     refine Gs.skip (Gn (Gs.seq (Gs.block (Gsr (Lq rfl (pu_fa fa_26_2 rfl) (Lr rfl (rd_ld na_23 rfl (Rdc.cl1 (by repeat constructor) rfl)) ?_))))))
     rw [hua]
     refine Lq rfl (pu_ia se_23 rfl rfl (by omega) (by omega)) (Lr rfl (rd_ld na_9 rfl (Rdc.el0 (hus.h (by repeat constructor)) hp0 rfl rfl)) ?_)
     refine Lq rfl (pu_lenS Tryz.underlying9 rfl) (Las rfl rfl (Lnt (Gs.seq (Gs.regD mixed (by kernel_rfl) (Rmv 0 rfl (by kernel_rfl) rfl (Rmv 1 rfl (by kernel_rfl) rfl (Rq 2 rfl (by kernel_rfl) (pu_ia se_83 rfl rfl (by omega) (by omega)) (Rq 3 rfl (by kernel_rfl) (pu_fa fa_98_0 rfl) (Rr 4 rfl (by kernel_rfl) (rd_ld na_9 rfl (Rdc.elp 1 (hS.h (by repeat constructor)) hwT rfl rfl)) ?_)))))))))
     rw [show ((w, (i : Int)) : WordP).1 = w from rfl]
     refine Rq 5 rfl (by kernel_rfl) (pu_lenS Tryz.underlying9 rfl) (Rmv 6 rfl (by kernel_rfl) rfl (Rq 7 rfl (by kernel_rfl) (pu_ge rfl rfl) (Rg.puB 8 rfl rfl (by kernel_rfl) trivial (pu_move rfl) (fun hg8 => ?_) (fun hg8 => ?_))))
     ·
      have hge8 : p.size ≤ w.size := by have := of_decide_eq_true hg8; omega
      refine Rg.pu 9 rfl rfl (by kernel_rfl) ⟨_, rfl, rfl⟩ (pu_move rfl) (Rg.pu 10 rfl rfl (by kernel_rfl) ⟨_, rfl, rfl⟩ (pu_move rfl) (Rg.pu 11 rfl rfl (by kernel_rfl) ⟨_, rfl, rfl⟩ (pu_ia se_83 rfl rfl (by omega) (by omega)) (Rg.pu 12 rfl rfl (by kernel_rfl) ⟨_, rfl, rfl⟩ (pu_fa fa_98_0 rfl) (Rg.rd 13 rfl rfl (by kernel_rfl) ⟨_, rfl, rfl⟩ (rd_ld na_9 rfl (Rdc.elp 1 (hS.h (by repeat constructor)) hwT rfl rfl)) ?_))))
      rw [show ((w, (i : Int)) : WordP).1 = w from rfl]
      refine Rg.pu 14 rfl rfl (by kernel_rfl) ⟨_, rfl, rfl⟩ (pu_move rfl) (Rg.pu 15 rfl rfl (by kernel_rfl) ⟨_, rfl, rfl⟩ (pu_sliceHS Tryz.underlying9 rfl rfl (by omega) (by omega)) (Rg.pu 16 rfl rfl (by kernel_rfl) ⟨_, rfl, rfl⟩ (pu_fa fa_26_2 rfl) (Rg.rd 17 rfl rfl (by kernel_rfl) ⟨_, rfl, rfl⟩ (rd_ld na_23 rfl (Rdc.cl1 (by repeat constructor) rfl)) ?_)))
      rw [hua]
      refine Rg.pu 18 rfl rfl (by kernel_rfl) ⟨_, rfl, rfl⟩ (pu_ia se_23 rfl rfl (by omega) (by omega)) (Rg.rd 19 rfl rfl (by kernel_rfl) ⟨_, rfl, rfl⟩ (rd_ld na_9 rfl (Rdc.el0 (hus.h (by repeat constructor)) hp0 rfl rfl)) ?_)
      refine Rg.pu 20 rfl rfl (by kernel_rfl) ⟨_, rfl, rfl⟩ (pu_eqS rfl rfl) (Rpk 21 rfl (by kernel_rfl) rfl rfl (Rg.end (by kernel_rfl) (Gn (Gs.cond rfl (fun hc4 => ?_) (fun hc4 => ?_)))))
      ·
       have hyes : preB w p = true := by rw [preB_long hge8]; exact hc4
       have hres : (l.any fun w => preB w p) = true := List.any_eq_true.2 ⟨w, List.mem_of_getElem? hwi, hyes⟩
       refine Gsr (Las rfl rfl (Lnt (Gs.ret (Gs.blk_r (Gr (Gr (Gs.blk_r (Gr (Gs.blk_r (Gr ?_))))))))))
       exact Gs.fin1 Tryz.results38 rfl _ (⟨by rw [hv0, holds_2 (of_decide_eq_true hk2), show x.ws = [p] from hp]; exact congrArg Value.bool hres.symm, rfl⟩) (by repeat constructor)
      have hno2 : preB w p = false := by rw [preB_long hge8]; exact hc4
      have hstep : ((l.take (i + 1)).any fun w => preB w p) = false := by rw [List.take_add_one, hwi, List.any_append, hno]; simp [hno2]
      refine Gs.skip (Gs.blk_n (Gn (Gs.reg (Lmv rfl rfl (Lq rfl (by first | exact pu_addI rfl rfl rfl (by omega) (by omega) | exact pu_add rfl rfl) ?_)))))
      refine Las rfl rfl (Lnt ?_)
      exact Ag (i + 1) ⟨hlt, hstep⟩ (by omega)
     have hno2 : preB w p = false := preB_short (by have := of_decide_eq_false hg8; omega)
     have hstep : ((l.take (i + 1)).any fun w => preB w p) = false := by rw [List.take_add_one, hwi, List.any_append, hno]; simp [hno2]
     refine Rof 9 rfl (by kernel_rfl) rfl (Rof 10 rfl (by kernel_rfl) rfl (Rof 11 rfl (by kernel_rfl) rfl (Rof 12 rfl (by kernel_rfl) rfl (Rof 13 rfl (by kernel_rfl) rfl (Rof 14 rfl (by kernel_rfl) rfl (Rof 15 rfl (by kernel_rfl) rfl (Rof 16 rfl (by kernel_rfl) rfl (Rof 17 rfl (by kernel_rfl) rfl (Rof 18 rfl (by kernel_rfl) rfl (Rof 19 rfl (by kernel_rfl) rfl (Rof 20 rfl (by kernel_rfl) rfl ?_)))))))))))
     refine Rpk 21 rfl (by kernel_rfl) rfl rfl (Rg.end (by kernel_rfl) (Gn (Gs.cond_f rfl (Gs.skip (Gs.blk_n (Gn (Gs.reg (Lmv rfl rfl (Lq rfl (by first | exact pu_addI rfl rfl rfl (by omega) (by omega) | exact pu_add rfl rfl) ?_)))))))))
     refine Las rfl rfl (Lnt ?_)
     exact Ag (i + 1) ⟨hlt, hstep⟩ (by omega)
    have hge : i = l.length := by have := of_decide_eq_false hc3; omega
    rw [hge, List.take_length] at hno
    refine Gs.exit (Gx (Gx (Gs.blk_hit (Gn (Gsr (Las rfl rfl (Lnt (Gs.ret (Gs.blk_r (Gr ?_))))))))))
    exact Gs.fin1 Tryz.results38 rfl _ (⟨by rw [hv0, holds_2 (of_decide_eq_true hk2), show x.ws = [p] from hp]; exact congrArg Value.bool hno.symm, rfl⟩) (by repeat constructor)
   refine Gsr (Lq rfl (pu_eq rfl rfl) (Las rfl rfl (Lnt (Gs.cond rfl (fun hk4 => ?_) (fun hk4 => ?_)))))
   ·
    refine Gsr (Lq rfl (pu_fa fa_32_0 rfl) (Lq rfl (pu_fa fa_28_0 rfl) (Lr rfl (rd_ld na_3 rfl (Rdc.cl1 (by repeat constructor) rfl)) ?_)))
    refine Lq rfl (pu_fa fa_26_1 rfl) (Lr rfl (rd_ld na_3 rfl (Rdc.cl1 (by repeat constructor) rfl)) ?_)
    refine Lq rfl (pu_eq rfl rfl) (Las rfl rfl (Lnt (Gs.ret (Gs.blk_r (Gr ?_)))))
    exact Gs.fin1 Tryz.results38 rfl _ (⟨by rw [hv0, holds_4 (of_decide_eq_true hk4)], rfl⟩) (by repeat constructor)
   refine Gsr (Lq rfl (pu_eq rfl rfl) (Las rfl rfl (Lnt (Gs.cond rfl (fun hk5 => ?_) (fun hk5 => ?_)))))
   ·
    refine Gsr (Lq rfl (pu_fa fa_32_1 rfl) (Lq rfl (pu_fa fa_30_0 rfl) (Lr rfl (rd_ld na_3 rfl (Rdc.cl1 (by repeat constructor) rfl)) ?_)))
    refine Lq rfl (pu_fa fa_26_1 rfl) (Lr rfl (rd_ld na_3 rfl (Rdc.cl1 (by repeat constructor) rfl)) ?_)
    refine Lq rfl (pu_ge rfl rfl) (Las rfl rfl (Lnt (Gs.ret (Gs.blk_r (Gr ?_)))))
    exact Gs.fin1 Tryz.results38 rfl _ (⟨by rw [hv0, holds_5 (of_decide_eq_true hk5)], rfl⟩) (by repeat constructor)
   refine Gsr (Lq rfl (pu_eq rfl rfl) (Las rfl rfl (Lnt (Gs.cond rfl (fun hk6 => ?_) (fun hk6 => ?_)))))
   ·
    refine Gsr (Lq rfl (pu_fa fa_32_1 rfl) (Lq rfl (pu_fa fa_30_0 rfl) (Lr rfl (rd_ld na_3 rfl (Rdc.cl1 (by repeat constructor) rfl)) ?_)))
    refine Lq rfl (pu_fa fa_26_1 rfl) (Lr rfl (rd_ld na_3 rfl (Rdc.cl1 (by repeat constructor) rfl)) ?_)
    refine Lq rfl (pu_le rfl rfl) (Las rfl rfl (Lnt (Gs.ret (Gs.blk_r (Gr ?_)))))
    exact Gs.fin1 Tryz.results38 rfl _ (⟨by rw [hv0, holds_6 (of_decide_eq_true hk6)], rfl⟩) (by repeat constructor)
   refine Gsr (Lq rfl (pu_eq rfl rfl) (Las rfl rfl (Lnt (Gs.cond rfl (fun hk9 => ?_) (fun hk9 => ?_)))))
   ·
    have hsl : x.ss.length = 1 := by
      have h9 := of_decide_eq_true hk9
      rcases hkd with h | h | h | h | h
      · omega
      · omega
      · omega
      · exact h.2
      · omega
    obtain ⟨y, hy⟩ := List.length_eq_one_iff.1 hsl
    have hy0 : x.ss[0]? = some y := by rw [hy]; rfl
    have hym : y ∈ x.ss := by rw [hy]; simp
    have hsa := ha (fun e => by rw [e] at hsl; cases hsl)
    have hs := hA.s
    rw [hsa] at hs
    refine Gs.seq (Gs.regD mixed (by kernel_rfl) (Rq 0 rfl (by kernel_rfl) (pu_fa fa_26_3 rfl) (Rr 1 rfl (by kernel_rfl) (rd_ld na_24 rfl (Rdc.cl1 (by repeat constructor) rfl)) ?_)))
    rw [hsa]
    refine Rq 2 rfl (by kernel_rfl) (pu_ia se_24 rfl rfl (by omega) (by omega)) (Rr 3 rfl (by kernel_rfl) (rd_lda ag_26 rfl (Rdc.el0 (hs.h (by repeat constructor)) hy0 rfl rfl) rfl) ?_)
    refine Rr 4 rfl (by kernel_rfl) (rd_lda ag_32 rfl (Rdc.cl 5 (by repeat constructor) rfl) rfl) ?_
    refine Rmv 5 rfl (by kernel_rfl) rfl (Rg.one (by kernel_rfl) (Stp.ac 6 rfl rfl (by kernel_rfl) trivial (asC (ih (hA.sub y hym) (hf4 y hym) (hgs y hym)))  ?_))
    rintro _ _ ⟨_, ⟨rfl, rfl⟩, rfl⟩
    refine Rq 7 rfl (by kernel_rfl) (pu_not rfl) (Rq 8 rfl (by kernel_rfl) (pu_assign rfl) (Rg.end (by kernel_rfl) (Gn (Gs.ret (Gs.blk_r (Gr ?_))))))
    exact Gs.fin1 Tryz.results38 rfl _ (⟨by rw [hv0, holdsNot (of_decide_eq_true hk9) hy], rfl⟩) (by repeat constructor)
   have hk7 : x.kind = 7 ∨ x.kind = 8 := by
     have e1 := of_decide_eq_false hk1
     have e2 := of_decide_eq_false hk2
     have e4 := of_decide_eq_false hk4
     have e5 := of_decide_eq_false hk5
     have e6 := of_decide_eq_false hk6
     have e9 := of_decide_eq_false hk9
     omega
   refine Gs.skip (Gs.blk_n (Gn (Gs.seq (Gsr (Las rfl rfl (Lnt (Gs.block (Gs.loop1 (fun i : Nat => i ≤ x.ss.length ∧ ∀ y ∈ x.ss.take i, holdsA preB r l d y = decide (x.kind = 7)) (fun i => [(2, .slice wa (toksOf l 0).length wc), (3, ptr xb), (4, ptr rb), (9, int i)]) (fun i => [cl xb 26 (askC x), cl rb 32 (recC r), S] ++ R) (fun i => x.ss.length - i) 0 (⟨Nat.zero_le _, fun y h => by cases h⟩) (by repeat constructor) (by repeat constructor) (fun i ⟨hi, hno⟩ => ?_)))))))))
   refine Gs.seq (Gsr (Lmv rfl rfl (Lq rfl (pu_fa fa_26_3 rfl) (Lr rfl (rd_ld na_24 rfl (Rdc.cl1 (by repeat constructor) rfl)) ?_))))
   refine Lq rfl (pu_len Tryz.underlying24 rfl) (Lq rfl (pu_lt rfl rfl) (Lnt (Gs.cond rfl (fun hc9 => ?_) (fun hc9 => ?_))))
   ·
    have hlt : i < x.ss.length := by have := of_decide_eq_true hc9; omega
    obtain ⟨y, hy⟩ : ∃ z, x.ss[i]? = some z := ⟨x.ss[i], by simp [hlt]⟩
    have hsa := ha (fun e => by rw [e] at hlt; exact Nat.not_lt_zero _ hlt)
    have hs := hA.s
    rw [hsa] at hs
    have hym := List.mem_of_getElem? hy
    refine Gs.skip (Gn (Gs.seq (Gs.block (Gs.seq (Gs.regD mixed (by kernel_rfl) (Rq 0 rfl (by kernel_rfl) (pu_fa fa_26_3 rfl) (Rr 1 rfl (by kernel_rfl) (rd_ld na_24 rfl (Rdc.cl1 (by repeat constructor) rfl)) ?_)))))))
    rw [hsa]
    refine Rmv 2 rfl (by kernel_rfl) rfl (Rq 3 rfl (by kernel_rfl) (pu_ia se_24 rfl rfl (by omega) (by omega)) (Rr 4 rfl (by kernel_rfl) (rd_lda ag_26 rfl (Rdc.el0 (hs.h (by repeat constructor)) hy rfl rfl) rfl) ?_))
    refine Rr 5 rfl (by kernel_rfl) (rd_lda ag_32 rfl (Rdc.cl 5 (by repeat constructor) rfl) rfl) ?_
    refine Rmv 6 rfl (by kernel_rfl) rfl (Rq 8 rfl (by kernel_rfl) (pu_fa fa_26_0 rfl) (Rr 9 rfl (by kernel_rfl) (rd_ld na_3 rfl (Rdc.cl1 (by repeat constructor) rfl)) ?_))
    refine Rq 10 rfl (by kernel_rfl) (pu_eq rfl rfl) (Rg.one (by kernel_rfl) (Stp.acR 7 [9] rfl rfl (by kernel_rfl) trivial (asC (ih (hA.sub y hym) (hf4 y hym) (hgs y hym))) (by rintro _ _ ⟨_, ⟨rfl, rfl⟩, rfl⟩; exact (Reads.cons rfl rfl rfl trivial rfl (rd_ld na_3 rfl (Rdc.cl1 (by repeat constructor) rfl)) Reads.nil)) ?_))
    rintro _ _ ⟨_, ⟨rfl, rfl⟩, rfl⟩
    refine Rq 11 rfl (by kernel_rfl) (pu_neB Tryz.underlying4 rfl rfl) (Rg.end (by kernel_rfl) (Gn (Gs.cond rfl (fun hc10 => ?_) (fun hc10 => ?_))))
    ·
     have hd : holdsA preB r l d y ≠ decide (x.kind = 7) := by simpa using hc10
     refine Gsr (Lq rfl (pu_fa fa_26_0 rfl) (Lr rfl (rd_ld na_3 rfl (Rdc.cl1 (by repeat constructor) rfl)) ?_))
     refine Lq rfl (pu_eq rfl rfl) (Las rfl rfl (Lnt (Gs.ret (Gs.blk_r (Gr (Gr (Gs.blk_r (Gr ?_))))))))
     exact Gs.fin1 Tryz.results38 rfl _ (⟨by
       rcases hk7 with h | h
       · have e : holdsA preB r l d y = false := by rw [h] at hd; simpa using hd
         rw [hv0, holds_7 h, show x.ss.all (holdsA preB r l d) = false from List.all_eq_false.2 ⟨y, hym, by simp [e]⟩, h]; rfl
       · have e : holdsA preB r l d y = true := by rw [h] at hd; simpa using hd
         rw [hv0, holds_8 h, show x.ss.any (holdsA preB r l d) = true from List.any_eq_true.2 ⟨y, hym, e⟩, h]; rfl, rfl⟩) (by repeat constructor)
    have hd : holdsA preB r l d y = decide (x.kind = 7) := by simpa using hc10
    have hno2 : ∀ z ∈ x.ss.take (i + 1), holdsA preB r l d z = decide (x.kind = 7) := fun z hz => by
      rw [List.take_add_one, hy] at hz
      rcases List.mem_append.1 hz with h | h
      · exact hno z h
      · rw [List.mem_singleton.1 h]; exact hd
    refine Gs.skip (Gs.blk_n (Gn (Gs.reg (Lmv rfl rfl (Lq rfl (by first | exact pu_addI rfl rfl rfl (by omega) (by omega) | exact pu_add rfl rfl) ?_)))))
    refine Las rfl rfl (Lnt ?_)
    exact Ag (i + 1) ⟨hlt, hno2⟩ (by omega)
   have hge : i = x.ss.length := by have := of_decide_eq_false hc9; omega
   rw [hge, List.take_length] at hno
   refine Gs.exit (Gx (Gx (Gs.blk_hit (Gn (Gsr (Lq rfl (pu_fa fa_26_0 rfl) (Lr rfl (rd_ld na_3 rfl (Rdc.cl1 (by repeat constructor) rfl)) ?_)))))))
   refine Lq rfl (pu_eq rfl rfl) (Las rfl rfl (Lnt (Gs.ret ?_)))
   exact Gs.fin1 Tryz.results38 rfl _ (⟨by
     rcases hk7 with h | h
     · have e : ∀ y ∈ x.ss, holdsA preB r l d y = true := fun y hy => by rw [hno y hy, h]; rfl
       rw [hv0, holds_7 h, show x.ss.all (holdsA preB r l d) = true from List.all_eq_true.2 e, h]; rfl
     · have e : ∀ y ∈ x.ss, holdsA preB r l d y = false := fun y hy => by rw [hno y hy, h]; rfl
       rw [hv0, holds_8 h, show x.ss.any (holdsA preB r l d) = false from List.any_eq_false.2 fun y hy => by rw [e y hy]; decide, h]; rfl, rfl⟩) (by repeat constructor)
def HoldsB (d : Nat) (x : AskV) (r : Rec) : Bool := mayA d x && (recB r && holdsQ d x r)
theorem may_good {d : Nat} {x : AskV} (h : mayA d x = true) : goodA oddB d x = true := by
 unfold mayA at h; rw [Bool.and_eq_true, Bool.and_eq_true] at h; exact h.2.2
theorem word_size {s w : ByteArray} (h : w ∈ wordsB s) : w.size ≤ 100000 := by
 unfold wordsB at h
 split at h
 · obtain ⟨u, hu, rfl⟩ := List.mem_map.1 h
   have h1 := fields_size hu
   rename_i ht
   have h2 : s.size ≤ 120 := by
     unfold textB at ht; rw [Bool.and_eq_true] at ht
     have := of_decide_eq_true ht.1; omega
   unfold normB
   split
   · have h3 : ∀ (f pos : Nat), (lowF u f pos).length ≤ 4 * f := by
       intro f
       induction f with
       | zero => intro pos; simp [lowF]
       | succ f ih =>
         intro pos
         unfold lowF
         split
         · have h4 := Lib.runeCells_le (Lib.toLowerU (Utf8.decode u pos).1)
           rw [Lib.runeCells_length] at h4
           have := ih (pos + (Utf8.decode u pos).2)
           rw [List.length_append]; omega
         · simp
     have := h3 u.size 0
     show (lowF u u.size 0).toArray.size ≤ 100000
     rw [List.size_toArray]; omega
   · decide
 · cases h
theorem HoldsD_spec {S : HProp} (hT : TabU S) {d : Nat} {x : AskV} (hA : ARd S x) (hF : FewA d x) (hz : sizeA d x ≤ 1000) (hd : d ≤ 1000) (r : Rec) :
   Ct Tryz.prog 65 [askV x, recV r] [S] (fun v hs => v = .bool (HoldsB d x r) ∧ hs = [S]) := by
 obtain ⟨v0, hv0⟩ : ∃ z, z = HoldsB d x r := ⟨_, rfl⟩
 have hv := hv0
 unfold HoldsB at hv
 rw [← hv0]
 have hTT := hT
 obtain ⟨h0, T, hi⟩ := hTT
 refine Cti Tryz.func65 (by kernel_rfl) 20 Tryz.ntmps65 rfl rfl fun w0 R => ?_
 refine Gsr (La rfl (ac_box rfl rfl) ?_)
 rintro _ _ ⟨xb, rfl, rfl⟩
 refine La rfl (ac_box rfl rfl) ?_
 rintro _ _ ⟨rb, rfl, rfl⟩
 refine Las rfl rfl (Lnt (Gs.seq (Gs.regD mixed (by kernel_rfl) (Rr 0 rfl (by kernel_rfl) (rd_lda ag_26 rfl (Rdc.cl 4 (by repeat constructor) rfl) rfl) ?_))))
 refine Rg.one (by kernel_rfl) (Stp.ac 1 rfl rfl (by kernel_rfl) trivial (asC (mayA_spec hT hA hF hz hd))  ?_)
 rintro _ _ ⟨_, ⟨rfl, rfl⟩, rfl⟩
 refine Rg.puB 2 rfl rfl (by kernel_rfl) trivial (pu_move rfl) (fun hg2 => ?_) (fun hg2 => ?_)
 ·
  refine Rg.rd 3 rfl rfl (by kernel_rfl) ⟨_, rfl, rfl⟩ (rd_lda ag_32 rfl (Rdc.cl 5 (by repeat constructor) rfl) rfl) ?_
  refine Rg.one (by kernel_rfl) (Stp.ac 4 rfl rfl (by kernel_rfl) ⟨_, rfl, rfl⟩ (asC (hT.ct (fun h0 T => recMay_spec T.1 r)))  ?_)
  rintro _ _ ⟨_, ⟨rfl, rfl⟩, rfl⟩
  refine Rpk 5 rfl (by kernel_rfl) rfl rfl (Rg.puB 6 rfl rfl (by kernel_rfl) trivial (pu_move rfl) (fun hg6 => ?_) (fun hg6 => ?_))
  ·
   refine Rg.rd 7 rfl rfl (by kernel_rfl) ⟨_, rfl, rfl⟩ (rd_lda ag_32 rfl (Rdc.cl 5 (by repeat constructor) rfl) rfl) ?_
   refine Rg.pu 8 rfl rfl (by kernel_rfl) ⟨_, rfl, rfl⟩ (pu_fa fa_32_2 rfl) (Rg.rd 9 rfl rfl (by kernel_rfl) ⟨_, rfl, rfl⟩ (rd_ld na_9 rfl (Rdc.cl1 (by repeat constructor) rfl)) ?_)
   refine Rg.rd 12 rfl rfl (by kernel_rfl) ⟨_, rfl, rfl⟩ (rd_lda ag_26 rfl (Rdc.cl 4 (by repeat constructor) rfl) rfl) ?_
   refine Rg.one (by kernel_rfl) (Stp.acR 10 [7, 12] rfl rfl (by kernel_rfl) ⟨_, rfl, rfl⟩ (asC ((of_spec T r.t).inn hi (fun v hs ⟨a, c, _, h⟩ => ⟨_, h⟩))) (by rintro _ _ ⟨_, ⟨_, ⟨ta, tc, rfl, ⟨⟩⟩, rfl⟩, rfl⟩; exact (Reads.cons rfl rfl rfl ⟨_, rfl, rfl⟩ rfl (rd_lda ag_32 rfl (Rdc.cl 5 (by repeat constructor) rfl) rfl) (Reads.cons rfl rfl rfl ⟨_, rfl, rfl⟩ rfl (rd_lda ag_26 rfl (Rdc.cl 4 (by repeat constructor) rfl) rfl) Reads.nil))) ?_)
   rintro _ _ ⟨_, ⟨_, ⟨ta, tc, rfl, ⟨⟩⟩, rfl⟩, rfl⟩
   refine Rg.pu 11 rfl rfl (by kernel_rfl) ⟨_, rfl, rfl⟩ (pu_build bd_148 (by repeat constructor) rfl) ?_
   refine Rg.one (by kernel_rfl) (Stp.ac 13 rfl rfl (by kernel_rfl) ⟨_, rfl, rfl⟩ (asC (Ct.two0 (holdsD_spec (S := two S (sl 98 2 wordC ta tc (toksV r.t))) r (l := wordsB r.t) (wa := ta) (wc := tc) (Srd.two2 Srd.own) (by have := words_len r.t; omega) d hA.two1 hF (may_good hg2))))  ?_)
   rintro _ _ ⟨_, ⟨rfl, rfl⟩, rfl⟩
   refine Rpk 14 rfl (by kernel_rfl) rfl rfl (Rq 15 rfl (by kernel_rfl) (pu_assign rfl) (Rg.end (by kernel_rfl) (Gn (Gs.ret ?_))))
   exact Gs.fin1 Tryz.results65 rfl _ (⟨by
     first
       | rw [hv, hg2, hg6, Bool.true_and, Bool.true_and]; rfl
       | rw [hv, hg2, hg6, Bool.true_and, Bool.false_and]
       | rw [hv, hg2, Bool.false_and], rfl⟩) (by repeat constructor)
  refine Rof 7 rfl (by kernel_rfl) rfl (Rof 8 rfl (by kernel_rfl) rfl (Rof 9 rfl (by kernel_rfl) rfl (Rof 10 rfl (by kernel_rfl) rfl (Rof 11 rfl (by kernel_rfl) rfl (Rof 12 rfl (by kernel_rfl) rfl (Rof 13 rfl (by kernel_rfl) rfl (Rpk 14 rfl (by kernel_rfl) rfl rfl (Rq 15 rfl (by kernel_rfl) (pu_assign rfl) (Rg.end (by kernel_rfl) (Gn (Gs.ret ?_)))))))))))
  exact Gs.fin1 Tryz.results65 rfl _ (⟨by
    first
      | rw [hv, hg2, hg6, Bool.true_and, Bool.true_and]; rfl
      | rw [hv, hg2, hg6, Bool.true_and, Bool.false_and]
      | rw [hv, hg2, Bool.false_and], rfl⟩) (by repeat constructor)
 refine Rof 3 rfl (by kernel_rfl) rfl (Rof 4 rfl (by kernel_rfl) rfl (Rpk 5 rfl (by kernel_rfl) rfl rfl (Rmv 6 rfl (by kernel_rfl) rfl (Rof 7 rfl (by kernel_rfl) rfl (Rof 8 rfl (by kernel_rfl) rfl (Rof 9 rfl (by kernel_rfl) rfl (Rof 10 rfl (by kernel_rfl) rfl (Rof 11 rfl (by kernel_rfl) rfl (Rof 12 rfl (by kernel_rfl) rfl (Rof 13 rfl (by kernel_rfl) rfl (Rpk 14 rfl (by kernel_rfl) rfl rfl ?_)))))))))))
 refine Rq 15 rfl (by kernel_rfl) (pu_assign rfl) (Rg.end (by kernel_rfl) (Gn (Gs.ret ?_)))
 exact Gs.fin1 Tryz.results65 rfl _ (⟨by
   first
     | rw [hv, hg2, hg6, Bool.true_and, Bool.true_and]; rfl
     | rw [hv, hg2, hg6, Bool.true_and, Bool.false_and]
     | rw [hv, hg2, Bool.false_and], rfl⟩) (by repeat constructor)
theorem Holds15_spec {S : HProp} (hT : TabU S) {d : Nat} {x : AskV} (hA : ARd S x) (hF : FewA d x) (hz : sizeA d x ≤ 1000) (hd : d ≤ 1000) (r : Rec) :
   Ct Tryz.prog 16 [askV x, recV r] [S] (fun v hs => v = .bool (HoldsB d x r) ∧ hs = [S]) := by
 obtain ⟨v0, hv0⟩ : ∃ z, z = HoldsB d x r := ⟨_, rfl⟩
 have hv := hv0
 unfold HoldsB at hv
 rw [← hv0]
 have hTT := hT
 obtain ⟨h0, T, hi⟩ := hTT
 refine Cti Tryz.func16 (by kernel_rfl) 19 Tryz.ntmps16 rfl rfl fun w0 R => ?_
 refine Gsr (La rfl (ac_box rfl rfl) ?_)
 rintro _ _ ⟨xb, rfl, rfl⟩
 refine La rfl (ac_box rfl rfl) ?_
 rintro _ _ ⟨rb, rfl, rfl⟩
 refine Las rfl rfl (Lnt (Gs.seq (Gs.regD mixed (by kernel_rfl) (Rr 0 rfl (by kernel_rfl) (rd_lda ag_26 rfl (Rdc.cl 4 (by repeat constructor) rfl) rfl) ?_))))
 refine Rg.one (by kernel_rfl) (Stp.ac 1 rfl rfl (by kernel_rfl) trivial (asC (may14_spec hT hA hF hz hd))  ?_)
 rintro _ _ ⟨_, ⟨rfl, rfl⟩, rfl⟩
 refine Rg.puB 2 rfl rfl (by kernel_rfl) trivial (pu_move rfl) (fun hg2 => ?_) (fun hg2 => ?_)
 ·
  refine Rg.rd 3 rfl rfl (by kernel_rfl) ⟨_, rfl, rfl⟩ (rd_lda ag_32 rfl (Rdc.cl 5 (by repeat constructor) rfl) rfl) ?_
  refine Rg.one (by kernel_rfl) (Stp.ac 4 rfl rfl (by kernel_rfl) ⟨_, rfl, rfl⟩ (asC (hT.ct (fun h0 T => recMay4_spec T.1 r)))  ?_)
  rintro _ _ ⟨_, ⟨rfl, rfl⟩, rfl⟩
  refine Rpk 5 rfl (by kernel_rfl) rfl rfl (Rg.puB 6 rfl rfl (by kernel_rfl) trivial (pu_move rfl) (fun hg6 => ?_) (fun hg6 => ?_))
  ·
   refine Rg.rd 7 rfl rfl (by kernel_rfl) ⟨_, rfl, rfl⟩ (rd_lda ag_26 rfl (Rdc.cl 4 (by repeat constructor) rfl) rfl) ?_
   refine Rg.rd 8 rfl rfl (by kernel_rfl) ⟨_, rfl, rfl⟩ (rd_lda ag_32 rfl (Rdc.cl 5 (by repeat constructor) rfl) rfl) ?_
   refine Rg.pu 9 rfl rfl (by kernel_rfl) ⟨_, rfl, rfl⟩ (pu_fa fa_32_2 rfl) (Rg.rd 10 rfl rfl (by kernel_rfl) ⟨_, rfl, rfl⟩ (rd_ld na_9 rfl (Rdc.cl1 (by repeat constructor) rfl)) ?_)
   refine Rg.one (by kernel_rfl) (Stp.acR 11 [7, 8] rfl rfl (by kernel_rfl) ⟨_, rfl, rfl⟩ (asC ((of1_spec T r.t).inn hi (fun v hs ⟨a, c, _, h⟩ => ⟨_, h⟩))) (by rintro _ _ ⟨_, ⟨_, ⟨ta, tc, rfl, ⟨⟩⟩, rfl⟩, rfl⟩; exact (Reads.cons rfl rfl rfl ⟨_, rfl, rfl⟩ rfl (rd_lda ag_26 rfl (Rdc.cl 4 (by repeat constructor) rfl) rfl) (Reads.cons rfl rfl rfl ⟨_, rfl, rfl⟩ rfl (rd_lda ag_32 rfl (Rdc.cl 5 (by repeat constructor) rfl) rfl) Reads.nil))) ?_)
   rintro _ _ ⟨_, ⟨_, ⟨ta, tc, rfl, ⟨⟩⟩, rfl⟩, rfl⟩
   refine Rg.one (by kernel_rfl) (Stp.ac 12 rfl rfl (by kernel_rfl) ⟨_, rfl, rfl⟩ (asC (Ct.two0 (holds15_spec (S := two S (sl 98 2 wordC ta tc (toksV r.t))) r (l := wordsB r.t) (wa := ta) (wc := tc) (Srd.two2 Srd.own) (by have := words_len r.t; omega) (fun w hw => word_size hw) d hA.two1 hF (may_good hg2))))  ?_)
   rintro _ _ ⟨_, ⟨rfl, rfl⟩, rfl⟩
   refine Rpk 13 rfl (by kernel_rfl) rfl rfl (Rq 14 rfl (by kernel_rfl) (pu_assign rfl) (Rg.end (by kernel_rfl) (Gn (Gs.ret ?_))))
   exact Gs.fin1 Tryz.results16 rfl _ (⟨by
     first
       | rw [hv, hg2, hg6, Bool.true_and, Bool.true_and]; rfl
       | rw [hv, hg2, hg6, Bool.true_and, Bool.false_and]
       | rw [hv, hg2, Bool.false_and], rfl⟩) (by repeat constructor)
  refine Rof 7 rfl (by kernel_rfl) rfl (Rof 8 rfl (by kernel_rfl) rfl (Rof 9 rfl (by kernel_rfl) rfl (Rof 10 rfl (by kernel_rfl) rfl (Rof 11 rfl (by kernel_rfl) rfl (Rof 12 rfl (by kernel_rfl) rfl (Rpk 13 rfl (by kernel_rfl) rfl rfl (Rq 14 rfl (by kernel_rfl) (pu_assign rfl) (Rg.end (by kernel_rfl) (Gn (Gs.ret ?_))))))))))
  exact Gs.fin1 Tryz.results16 rfl _ (⟨by
    first
      | rw [hv, hg2, hg6, Bool.true_and, Bool.true_and]; rfl
      | rw [hv, hg2, hg6, Bool.true_and, Bool.false_and]
      | rw [hv, hg2, Bool.false_and], rfl⟩) (by repeat constructor)
 refine Rof 3 rfl (by kernel_rfl) rfl (Rof 4 rfl (by kernel_rfl) rfl (Rpk 5 rfl (by kernel_rfl) rfl rfl (Rmv 6 rfl (by kernel_rfl) rfl (Rof 7 rfl (by kernel_rfl) rfl (Rof 8 rfl (by kernel_rfl) rfl (Rof 9 rfl (by kernel_rfl) rfl (Rof 10 rfl (by kernel_rfl) rfl (Rof 11 rfl (by kernel_rfl) rfl (Rof 12 rfl (by kernel_rfl) rfl (Rpk 13 rfl (by kernel_rfl) rfl rfl (Rq 14 rfl (by kernel_rfl) (pu_assign rfl) ?_)))))))))))
 refine Rg.end (by kernel_rfl) (Gn (Gs.ret ?_))
 exact Gs.fin1 Tryz.results16 rfl _ (⟨by
   first
     | rw [hv, hg2, hg6, Bool.true_and, Bool.true_and]; rfl
     | rw [hv, hg2, hg6, Bool.true_and, Bool.false_and]
     | rw [hv, hg2, Bool.false_and], rfl⟩) (by repeat constructor)
end Go.Proofs.YtklgiidfompdpaaGreatDoor
namespace Go.Proofs.YtklgiidfompdpaaGreatDoor
open Go Go.Sl Go.Gv Go.Po
set_option maxRecDepth 100000
theorem del_keepK {α : Type} {ys : List α} {m : Nat} {x : α} (h : m < ys.length) : (ys.set m x).take (m + 1) = ys.take m ++ [x] := by
 rw [List.take_add_one, List.getElem?_set_self h, List.take_set_of_le (Nat.le_refl _)]; rfl
theorem indexKf_spec {F : HProp} {g : FuncId} {cs : List Value} {q : Key → Bool} {a : Option Addr} {c : Nat} {xs : List Key} (hg : ∀ p, Ct Tryz.prog g ([] ++ [keyV p] ++ cs) [F] (fun v hs => v = .bool (q p) ∧ hs = [F])) (hl : xs.length ≤ 100000) :
   Ct Tryz.prog 176 [.slice a xs.length c, .func (.func g) #[] cs.toArray] [sl 28 2 keyC a c xs, F] (fun v hs => (∃ z : Int, v = int z ∧ ((z = -1 ∧ ∀ x ∈ xs, q x = false) ∨ (∃ i : Nat, z = i ∧ (∃ x, xs[i]? = some x ∧ q x = true) ∧ ∀ x ∈ xs.take i, q x = false))) ∧ hs = [sl 28 2 keyC a c xs, F]) := by
 refine Cti Tryz.func176 (by kernel_rfl) 19 Tryz.ntmps176 rfl rfl fun w0 R => ?_
 refine Gs.slAddr (SlH.own (by repeat constructor)) fun ab ao ha => ?_
 refine Gsr (Las rfl rfl (Lnt (Gs.seq (Gsr (Lmv rfl rfl (Lq rfl (pu_len Tryz.underlying48 rfl) (Lmv rfl rfl (Lnt (Gs.block (Gs.loop1 (fun i : Nat => i ≤ xs.length ∧ ∀ x ∈ xs.take i, q x = false) (fun i => [(0, .slice a xs.length c), (1, .func (.func g) #[] cs.toArray), (7, int xs.length), (8, int i)]) (fun i => [sl 28 2 keyC a c xs, F] ++ R) (fun i => xs.length - i) 0 (⟨Nat.zero_le _, fun x hx => by simp at hx⟩) (by repeat constructor) (by repeat constructor) (fun i ⟨hi, hq⟩ => ?_)))))))))))
 refine Gsr (Lq rfl (pu_lt rfl rfl) (Lnt (Gs.seq (Gs.cond rfl (fun hc0 => ?_) (fun hc0 => ?_)))))
 ·
  have hlt : i < xs.length := by have := of_decide_eq_true hc0; omega
  obtain ⟨x, hx⟩ : ∃ x, xs[i]? = some x := ⟨xs[i], by simp [hlt]⟩
  obtain rfl := ha (by rintro rfl; simp at hlt)
  refine Gs.skip (Gn (Gs.seq (Gs.block (Gsr (Lmv rfl rfl (Las rfl rfl (Lnt (Gsr (Lmv rfl rfl (Lmv rfl rfl (Lmv rfl rfl ?_)))))))))))
  refine Lq rfl (pu_ia se_48 rfl rfl (by omega) (by omega)) (Lr rfl (rd_lda ag_28 rfl (Rdc.el0 (SlH.own (by repeat constructor)) hx rfl rfl) rfl) ?_)
  refine La rfl (as_callV rfl (hg x) (by repeat constructor) (by repeat constructor)) ?_
  rintro _ _ ⟨_, ⟨rfl, rfl⟩, rfl⟩
  refine Lnt (Gs.cond rfl (fun hc1 => ?_) (fun hc1 => ?_))
  ·
   refine Gsr (Lmv rfl rfl (Las rfl rfl (Lnt (Gs.ret (Gs.blk_r (Gr (Gr (Gs.blk_r (Gr ?_)))))))))
   exact Gs.fin1 Tryz.results176 rfl _ (⟨⟨_, rfl, .inr ⟨i, rfl, ⟨x, hx, hc1⟩, hq⟩⟩, rfl⟩) (by repeat constructor)
  refine Gs.skip (Gs.blk_n (Gn (Gs.reg (Lq rfl (by first | exact pu_addI rfl rfl rfl (by omega) (by omega) | exact pu_add rfl rfl) ?_))))
  refine Lmv rfl rfl (Lnt ?_)
  exact Ag (i + 1) ⟨hlt, fun y hy => by rw [List.take_add_one, hx] at hy; rcases List.mem_append.1 hy with hy | hy; exact hq y hy; simp at hy; subst hy; exact hc1⟩ (by show xs.length - (i + 1) < xs.length - i; omega)
 have hge : i = xs.length := by have := of_decide_eq_false hc0; omega
 rw [hge, List.take_length] at hq
 refine Gs.exit (Gx (Gx (Gs.blk_hit (Gn (Gsr (Las rfl rfl (Lnt (Gs.ret ?_))))))))
 exact Gs.fin1 Tryz.results176 rfl _ (⟨⟨_, rfl, .inl ⟨rfl, hq⟩⟩, rfl⟩) (by repeat constructor)
theorem deleteK_spec {F : HProp} {g : FuncId} {cs : List Value} {q : Key → Bool} {a : Option Addr} {c : Nat} {xs : List Key} (hg : ∀ p, Ct Tryz.prog g ([] ++ [keyV p] ++ cs) [F] (fun v hs => v = .bool (q p) ∧ hs = [F])) (hl : xs.length ≤ 100000) :
   Ct Tryz.prog 130 [.slice a xs.length c, .func (.func g) #[] cs.toArray] [sl 28 2 keyC a c xs, F]
     (fun v hs => v = .slice a (xs.filter fun x => !q x).length c ∧ hs = [sl 28 2 keyC a c (xs.filter fun x => !q x), F]) := by
 refine Cti Tryz.func130 (by kernel_rfl) 42 Tryz.ntmps130 rfl rfl fun w0 R => ?_
 refine Gs.slAddr (SlH.own (by repeat constructor)) fun ab ao ha => Gs.slLen (by repeat constructor) fun hlc => ?_
 refine Gsr (Las rfl rfl (Lnt (Gsr (Lmv rfl rfl (Lmv rfl rfl (La rfl (asC (indexKf_spec (q := q) hg hl)) ?_))))))
 rintro _ _ ⟨_, ⟨⟨z, rfl, hz⟩, rfl⟩, rfl⟩
 refine Las rfl rfl (Lnt (Gs.seq (Gsr (Lmv rfl rfl (Lq rfl (pu_eq rfl rfl) (Lnt (Gs.cond rfl (fun hc0 => ?_) (fun hc0 => ?_))))))))
 ·
  have hall : xs.filter (fun x => !q x) = xs := List.filter_eq_self.2 fun x hx => by rcases hz with ⟨-, h⟩ | ⟨i, rfl, -⟩ <;> first | (rw [h x hx]; rfl) | (have := of_decide_eq_true hc0; omega)
  refine Gsr (Lmv rfl rfl (Las rfl rfl (Lnt (Gs.ret (Gr ?_)))))
  exact Gs.fin1 Tryz.results130 rfl _ (⟨by rw [hall], by rw [hall]⟩) (by repeat constructor)
 obtain ⟨i0, rfl, ⟨x0, hx0, hq0⟩, hz2⟩ : ∃ i : Nat, z = i ∧ (∃ x, xs[i]? = some x ∧ q x = true) ∧ ∀ x ∈ xs.take i, q x = false := by rcases hz with ⟨h, -⟩ | h <;> first | exact h | (exact absurd h (of_decide_eq_false hc0))
 have hi0 : i0 < xs.length := (List.getElem?_eq_some_iff.1 hx0).1
 obtain rfl := ha (by rintro rfl; simp at hi0)
 have hst : xs.take i0 = (xs.take (i0 + 1)).filter (fun x => !q x) := by rw [List.take_add_one, hx0, List.filter_append, List.filter_eq_self.2 (fun x hx => by rw [hz2 x hx]; rfl)]; simp [hq0]
 refine Gs.skip (Gn (Gs.seq (Gsr (Lmv rfl rfl (Lq rfl (by first | exact pu_addI rfl rfl rfl (by omega) (by omega) | exact pu_add rfl rfl) ?_)))))
 refine Las rfl rfl (Lnt (Gs.block (Gs.loop1 (fun s : Nat × Nat × List Key => s.1 ≤ xs.length ∧ s.2.1 ≤ s.1 ∧ s.2.2.length = xs.length ∧ s.2.2.take s.2.1 = (xs.take s.1).filter (fun x => !q x) ∧ s.2.2.drop s.1 = xs.drop s.1) (fun s => [(0, .slice (some ⟨ab, ao, none⟩) xs.length c), (1, .func (.func g) #[] cs.toArray), (5, int s.2.1), (6, int s.1)]) (fun s => [sl 28 2 keyC (some ⟨ab, ao, none⟩) c s.2.2, F] ++ R) (fun s => xs.length - s.1) (i0 + 1, i0, xs) (⟨hi0, Nat.le_succ _, rfl, hst, rfl⟩) (by repeat constructor) (by repeat constructor) (fun s hs => ?_))))
 obtain ⟨j, m, ys⟩ := s
 obtain ⟨hj, hm, hyl, hyt, hyd⟩ := hs
 dsimp only at hj hm hyl hyt hyd ⊢
 refine Gs.seq (Gsr (Lmv rfl rfl (Lmv rfl rfl (Lq rfl (pu_len Tryz.underlying48 rfl) (Lq rfl (pu_lt rfl rfl) (Lnt (Gs.cond rfl (fun hc1 => ?_) (fun hc1 => ?_))))))))
 ·
  have hlt : j < xs.length := by have := of_decide_eq_true hc1; omega
  obtain ⟨x, hx⟩ : ∃ x, xs[j]? = some x := ⟨xs[j], by simp [hlt]⟩
  have hxy : ys[j]? = some x := by have := congrArg (·[0]?) hyd; simp only [List.getElem?_drop, Nat.add_zero] at this; rw [this]; exact hx
  refine Gs.skip (Gn (Gs.seq (Gs.block (Gsr (Lmv rfl rfl (Lmv rfl rfl (Lq rfl (pu_ia se_48 rfl rfl (by omega) (by omega)) (Lr rfl (rd_lda ag_28 rfl (Rdc.el0 (SlH.own (by repeat constructor)) hxy rfl rfl) rfl) ?_))))))))
  refine La rfl (ac_alloc zv_28 rfl) ?_
  rintro _ _ ⟨xb, rfl, rfl⟩
  refine Lac0 rfl trivial (ac_st sz_28 rfl rfl (by repeat constructor) rfl rfl rfl rfl) ?_
  rintro _ _ rfl
  refine Lnt (Gsr (Lmv rfl rfl (Lr rfl (rd_lda ag_28 rfl (Rdc.cl 2 (by repeat constructor) rfl) rfl) ?_)))
  refine La rfl (as_callV rfl (hg x) (by repeat constructor) (by repeat constructor)) ?_
  rintro _ _ ⟨_, ⟨rfl, rfl⟩, rfl⟩
  refine Lq rfl (pu_not rfl) (Lnt (Gs.cond rfl (fun hc2 => ?_) (fun hc2 => ?_)))
  ·
   have hX : q x = false := by simpa using hc2
   have k1 : (ys.set m x).length = xs.length := by rw [List.length_set]; exact hyl
   have k2 : (ys.set m x).take (m + 1) = (xs.take (j + 1)).filter (fun x => !q x) := by rw [del_keepK (by omega), hyt, List.take_add_one, hx, List.filter_append]; simp [hX]
   have k3 : (ys.set m x).drop (j + 1) = xs.drop (j + 1) := by rw [List.drop_set_of_lt (by omega), ← List.drop_drop, hyd, List.drop_drop]
   refine Gsr (Lmv rfl rfl (Lmv rfl rfl (Lr rfl (rd_lda ag_28 rfl (Rdc.cl 2 (by repeat constructor) rfl) rfl) ?_)))
   refine Lq rfl (pu_ia se_48 rfl rfl (by omega) (by omega)) (Lac0 rfl trivial (ac_stE (enc := keyC) (xs := ys) (i := m) (x0 := ys[m]'(by omega)) (y0 := x) (vs := keyC x) (fo := 0) sz_28 ek_28 rfl rfl (by repeat constructor) rfl rfl rfl (by simp) rfl rfl) ?_)
   rintro _ _ rfl
   refine Lnt (Gs.reg (Lmv rfl rfl (Lq rfl (by first | exact pu_addI rfl rfl rfl (by omega) (by omega) | exact pu_add rfl rfl) ?_)))
   refine Las rfl rfl (Lnil (Gs.blk_n (Gn (Gs.reg (Lmv rfl rfl (Lq rfl (by first | exact pu_addI rfl rfl rfl (by omega) (by omega) | exact pu_add rfl rfl) ?_))))))
   refine Las rfl rfl (Lnt ?_)
   first | exact Ag (j + 1, m + 1, ys.set m x) ⟨by show j + 1 ≤ xs.length; omega, by show m + 1 ≤ j + 1; omega, k1, k2, k3⟩ (by show xs.length - (j + 1) < xs.length - j; omega) | exact Ag (j + 1, m, ys) ⟨by show j + 1 ≤ xs.length; omega, by show m ≤ j + 1; omega, hyl, k2, k3⟩ (by show xs.length - (j + 1) < xs.length - j; omega)
  have hX : q x = true := by simpa using hc2
  have k2 : ys.take m = (xs.take (j + 1)).filter (fun x => !q x) := by rw [hyt, List.take_add_one, hx, List.filter_append]; simp [hX]
  have k3 : ys.drop (j + 1) = xs.drop (j + 1) := by rw [← List.drop_drop, hyd, List.drop_drop]
  refine Gs.skip (Gs.blk_n (Gn (Gs.reg (Lmv rfl rfl (Lq rfl (by first | exact pu_addI rfl rfl rfl (by omega) (by omega) | exact pu_add rfl rfl) ?_)))))
  refine Las rfl rfl (Lnt ?_)
  first | exact Ag (j + 1, m + 1, ys.set m x) ⟨by show j + 1 ≤ xs.length; omega, by show m + 1 ≤ j + 1; omega, k1, k2, k3⟩ (by show xs.length - (j + 1) < xs.length - j; omega) | exact Ag (j + 1, m, ys) ⟨by show j + 1 ≤ xs.length; omega, by show m ≤ j + 1; omega, hyl, k2, k3⟩ (by show xs.length - (j + 1) < xs.length - j; omega)
 have hge : j = xs.length := by have := of_decide_eq_false hc1; omega
 rw [hge, List.take_length] at hyt
 have hml : (ys.take m).length = m := by rw [List.length_take]; omega
 have hdl : (ys.drop m).length = xs.length - m := by rw [List.length_drop]; omega
 refine Gs.exit (Gx (Gx (Gs.blk_hit (Gn (Gsr (Lmv rfl rfl (Lmv rfl rfl (Lq rfl (pu_sliceL et_48 rfl rfl (by omega) (by omega)) (Lac0 rfl trivial (ac_clear (enc := keyC) (xs := ys.take m) (zs := ys.drop m) Tryz.underlying48 zv_28 rfl rfl rfl (by decide) (by rw [hml]; rfl) hdl.symm ek_28 (by rw [List.take_append_drop]; repeat constructor)) ?_)))))))))
 rintro _ _ rfl
 refine Lnt (Gsr (Lmv rfl rfl (Lmv rfl rfl (Lq rfl (pu_sliceH et_48 rfl rfl (by omega) (by omega)) (Las rfl rfl (Lnil ?_))))))
 rw [show suba (some ⟨ab, ao, none⟩) 0 c 2 = some ⟨ab, ao, none⟩ from suba_0, hyt]
 refine Gn (Gs.ret ?_)
 exact Gs.fin1 Tryz.results130 rfl _ (⟨by rw [← hyt, hml]; rfl, rfl⟩) (by repeat constructor)
end Go.Proofs.YtklgiidfompdpaaGreatDoor
namespace Go.Sl
open Go
theorem Ct.bigs0 {P : Program} {f : FuncId} {args : List Value} {L : List HProp} {x : Value} (c : Ct P f args L (fun v hs => v = x ∧ hs = L)) : Ct P f args [Sl.big L] (fun v hs => v = x ∧ hs = [Sl.big L]) :=
 ⟨c.enters, fun w0 w R s => (c.calls w0 w R (Sat.big.1 s)).mono fun _ _ ⟨v, hs, he, ⟨h1, h2⟩, t⟩ => ⟨v, _, he, ⟨h1, rfl⟩, by subst h2; exact Sat.big.2 t⟩⟩
theorem Gs.bigFold {w0 : World} {n : Nat} {env : Env} {L M : List HProp} {X : Act → World → Prop} (g : Gs w0 n env (Sl.big L :: M) X) : Gs w0 n env (L ++ M) X := fun a w e s => g a w e (Sat.big.2 s)
theorem Gs.bigOpen {w0 : World} {n : Nat} {env : Env} {L M : List HProp} {X : Act → World → Prop} (g : Gs w0 n env (L ++ M) X) : Gs w0 n env (Sl.big L :: M) X := fun a w e s => g a w e (Sat.big.1 s)
end Go.Sl
namespace Go.Proofs.YtklgiidfompdpaaGreatDoor
open Go Go.Sl Go.Gv Go.Kv Go.Po Go.Ix Go.Qu Go.Shelf
set_option maxRecDepth 100000
theorem which1_spec {F : HProp} {g : FuncId} {cs : List Value} {q : Rec → Bool} {ib sb x ix m : Nat} {M : List (Key × Rec)} (hg : ∀ r, Ct Tryz.prog g ([] ++ [recV r] ++ cs) [F] (fun v hs => v = .bool (q r) ∧ hs = [F])) (k : Key) :
   Ct Tryz.prog 131 ([] ++ [keyV k] ++ [ptr ib, ptr sb]) [cl ib 80 [.func (.func g) #[] cs.toArray], cl sb 38 [ptr x], cl x 76 (shC ix m), mp keyV recV m M, F]
     (fun v hs => v = .bool (!q ((mget M k).getD Rec.zero)) ∧ hs = [cl ib 80 [.func (.func g) #[] cs.toArray], cl sb 38 [ptr x], cl x 76 (shC ix m), mp keyV recV m M, F]) := by
 refine Cti Tryz.func131 (by kernel_rfl) 14 Tryz.ntmps131 rfl rfl fun w0 R => ?_
 refine Gsr (La rfl (ac_box rfl rfl) ?_)
 rintro _ _ ⟨kb, rfl, rfl⟩
 refine Las rfl rfl (Lnt (Gs.seq (Gs.regD mixed (by kernel_rfl) (Rr 0 rfl (by kernel_rfl) (rd_ld na_80 rfl (Rdc.cl1 (by repeat constructor) rfl)) ?_))))
 refine Rr 1 rfl (by kernel_rfl) (rd_ld na_38 rfl (Rdc.cl1 (by repeat constructor) rfl)) ?_
 refine Rq 2 rfl (by kernel_rfl) (by first | exact pu_nil rfl | exact pu_nilF rfl) ?_
 refine Rq 3 rfl (by kernel_rfl) (pu_fa fa_76_1 rfl) (Rr 4 rfl (by kernel_rfl) (rd_ld na_74 rfl (Rdc.cl1 (by repeat constructor) rfl)) ?_)
 refine Rr 5 rfl (by kernel_rfl) (rd_lda ag_28 rfl (Rdc.cl 2 (by repeat constructor) rfl) rfl) ?_
 refine Rr 6 rfl (by kernel_rfl) (rd_look1 (k := k) (encv := recV) Tryz.underlying74 kt_28 zvk_32 rfl rfl (by repeat constructor)) ?_
 refine Rg.one (by kernel_rfl) (Stp.ac 7 rfl rfl (by kernel_rfl) trivial (as_callV rfl (hg ((mget M k).getD Rec.zero)) (by repeat constructor) (by repeat constructor))  ?_)
 rintro _ _ ⟨_, ⟨rfl, rfl⟩, rfl⟩
 refine Rq 8 rfl (by kernel_rfl) (pu_not rfl) (Rq 9 rfl (by kernel_rfl) (pu_assign rfl) (Rg.end (by kernel_rfl) (Gn (Gs.ret ?_))))
 exact Gs.fin1 Tryz.results131 rfl _ (⟨rfl, rfl⟩) (by repeat constructor)
theorem swhich_spec (x : Nat) (rs : List Rec) (hr : rs.length ≤ 800) {F : HProp} {g : FuncId} {cs : List Value} {q : Rec → Bool} (hg : ∀ r, Ct Tryz.prog g ([] ++ [recV r] ++ cs) [F] (fun v hs => v = .bool (q r) ∧ hs = [F])) :
   Ct Tryz.prog 74 [ptr x, .func (.func g) #[] cs.toArray] [shA x rs, F] (fun v hs => ∃ a c ks, v = .slice a ks.length c ∧ IsK rs q ks ∧ hs = [shA x rs, F, sl 28 2 keyC a c ks]) := by
 refine Cti Tryz.func74 (by kernel_rfl) 12 Tryz.ntmps74 rfl rfl fun w0 R => ?_
 refine Gs.sh fun ix L W m M hI hM => ?_
 refine Gsr (La rfl (ac_box rfl rfl) ?_)
 rintro _ _ ⟨sb, rfl, rfl⟩
 refine La rfl (ac_box rfl rfl) ?_
 rintro _ _ ⟨ib, rfl, rfl⟩
 refine Las rfl rfl (Lnt (Gsr (Lr rfl (rd_ld na_38 rfl (Rdc.cl1 (by repeat constructor) rfl)) ?_)))
 refine Lq rfl (by first | exact pu_nil rfl | exact pu_nilF rfl) ?_
 refine Lq rfl (pu_fa fa_76_0 rfl) (Lr rfl (rd_ld na_72 rfl (Rdc.cl1 (by repeat constructor) rfl)) ?_)
 refine La rfl (asC (skeys_spec x rs (by omega) hI (m := m))) ?_
 rintro _ _ ⟨_, ⟨ka, kc, ks, rfl, hK, rfl⟩, rfl⟩
 refine Lq rfl (pu_func (by repeat constructor) (by repeat constructor)) ?_
 have hkl := hK.len
 have hK2 := IsK.sub (g := q) hI.keys hK (fun k => !!q ((mget M k).getD Rec.zero)) (fun r hr => by rw [hM.get hI.keys, lookR_at hI.keys hr, Bool.not_not]; rfl)
 refine Gs.takes (As := [cl ib 80 [.func (.func g) #[] cs.toArray], cl sb 38 [ptr x], cl x 76 (shC ix m), mp keyV recV m M, F]) (by repeat constructor) (Gs.bigFold ?_)
 refine La rfl (asC (deleteK_spec (a := ka) (c := kc) (xs := ks) (F := big [cl ib 80 [.func (.func g) #[] cs.toArray], cl sb 38 [ptr x], cl x 76 (shC ix m), mp keyV recV m M, F]) (g := 131) (cs := [ptr ib, ptr sb]) (q := fun k => !q ((mget M k).getD Rec.zero)) (fun k => Ct.bigs0 (which1_spec hg k)) (by omega))) ?_
 rintro _ _ ⟨_, ⟨rfl, rfl⟩, rfl⟩
 refine Las rfl rfl (Lnil (Gs.takes (As := [big [cl ib 80 [.func (.func g) #[] cs.toArray], cl sb 38 [ptr x], cl x 76 (shC ix m), mp keyV recV m M, F]]) (by repeat constructor) (Gs.bigOpen ?_)))
 refine Gs.takes (As := [cl x 76 (shC ix m), ixA ix L W, mp keyV recV m M]) (by repeat constructor) (Gs.shc hI hM ?_)
 refine Gn (Gs.ret ?_)
 exact Gs.fin1 Tryz.results74 rfl _ (⟨ka, kc, _, rfl, hK2.congr fun r _ => Bool.true_and _, rfl⟩) (by repeat constructor)
theorem keys1_spec (y : AskV) (yb : Nat) (r : Rec) : Ct Tryz.prog 75 ([] ++ [recV r] ++ [ptr yb]) [cl yb 26 (askC y)] (fun v hs => v = .bool (decide (r.o = y.n)) ∧ hs = [cl yb 26 (askC y)]) := by
 refine Cti Tryz.func75 (by kernel_rfl) 10 Tryz.ntmps75 rfl rfl fun w0 R => ?_
 refine Gsr (La rfl (ac_box rfl rfl) ?_)
 rintro _ _ ⟨rb, rfl, rfl⟩
 refine Las rfl rfl (Lnt (Gsr (Lq rfl (pu_fa fa_32_0 rfl) (Lq rfl (pu_fa fa_28_0 rfl) (Lr rfl (rd_ld na_3 rfl (Rdc.cl1 (by repeat constructor) rfl)) ?_)))))
 refine Lq rfl (pu_fa fa_26_1 rfl) (Lr rfl (rd_ld na_3 rfl (Rdc.cl1 (by repeat constructor) rfl)) ?_)
 refine Lq rfl (pu_eq rfl rfl) (Las rfl rfl (Lnt (Gs.ret ?_)))
 exact Gs.fin1 Tryz.results75 rfl _ (⟨rfl, rfl⟩) (by repeat constructor)
theorem keys2_spec (y : AskV) (yb : Nat) (r : Rec) : Ct Tryz.prog 76 ([] ++ [recV r] ++ [ptr yb]) [cl yb 26 (askC y)] (fun v hs => v = .bool (decide (y.n ≤ r.w)) ∧ hs = [cl yb 26 (askC y)]) := by
 refine Cti Tryz.func76 (by kernel_rfl) 10 Tryz.ntmps76 rfl rfl fun w0 R => ?_
 refine Gsr (La rfl (ac_box rfl rfl) ?_)
 rintro _ _ ⟨rb, rfl, rfl⟩
 refine Las rfl rfl (Lnt (Gsr (Lq rfl (pu_fa fa_32_1 rfl) (Lq rfl (pu_fa fa_30_0 rfl) (Lr rfl (rd_ld na_3 rfl (Rdc.cl1 (by repeat constructor) rfl)) ?_)))))
 refine Lq rfl (pu_fa fa_26_1 rfl) (Lr rfl (rd_ld na_3 rfl (Rdc.cl1 (by repeat constructor) rfl)) ?_)
 refine Lq rfl (pu_ge rfl rfl) (Las rfl rfl (Lnt (Gs.ret ?_)))
 exact Gs.fin1 Tryz.results76 rfl _ (⟨rfl, rfl⟩) (by repeat constructor)
theorem keys3_spec (y : AskV) (yb : Nat) (r : Rec) : Ct Tryz.prog 77 ([] ++ [recV r] ++ [ptr yb]) [cl yb 26 (askC y)] (fun v hs => v = .bool (decide (r.w ≤ y.n)) ∧ hs = [cl yb 26 (askC y)]) := by
 refine Cti Tryz.func77 (by kernel_rfl) 10 Tryz.ntmps77 rfl rfl fun w0 R => ?_
 refine Gsr (La rfl (ac_box rfl rfl) ?_)
 rintro _ _ ⟨rb, rfl, rfl⟩
 refine Las rfl rfl (Lnt (Gsr (Lq rfl (pu_fa fa_32_1 rfl) (Lq rfl (pu_fa fa_30_0 rfl) (Lr rfl (rd_ld na_3 rfl (Rdc.cl1 (by repeat constructor) rfl)) ?_)))))
 refine Lq rfl (pu_fa fa_26_1 rfl) (Lr rfl (rd_ld na_3 rfl (Rdc.cl1 (by repeat constructor) rfl)) ?_)
 refine Lq rfl (pu_le rfl rfl) (Las rfl rfl (Lnt (Gs.ret ?_)))
 exact Gs.fin1 Tryz.results77 rfl _ (⟨rfl, rfl⟩) (by repeat constructor)
def plS (l : SlV PostV) : HProp := plO l.a l.c l.xs
def lsO (a : Option Addr) (c : Nat) (ls : List (SlV PostV)) : HProp := two (sl 94 1 slC a c ls) (big (ls.map plS))
def FewL (l : SlV PostV) : Prop := l.xs.length ≤ 1000 ∧ ∀ p ∈ l.xs, p.t.xs.length ≤ 1000
theorem lsO_rd {a : Option Addr} {c : Nat} {ls : List (SlV PostV)} (h : ∀ l ∈ ls, FewL l) : LRd (lsO a c ls) a ls :=
 ⟨Srd.two1 Srd.own, fun l hl => ⟨⟨Srd.two2 (Srd.bigs (prd_plO (c := l.c) (h l hl).2).1 (List.mem_map.2 ⟨l, hl, rfl⟩)), fun p hp => ⟨Srd.two2 (Srd.bigs ((prd_plO (c := l.c) (h l hl).2).2 p hp).1 (List.mem_map.2 ⟨l, hl, rfl⟩)), (h l hl).2 p hp⟩⟩, (h l hl).1⟩⟩
theorem LsIs.snoc {P : PL} {ws : List ByteArray} {ls : List (SlV PostV)} {i : Nat} {w : ByteArray} {l : SlV PostV} (h : LsIs P (ws.take i) ls) (hw : ws[i]? = some w) (e : plain1 l.xs = (mget P w).getD []) : LsIs P (ws.take (i + 1)) (ls ++ [l]) := by
 unfold LsIs at h ⊢
 rw [List.map_append, h, List.take_add_one, hw, List.map_append, List.map_singleton, e]; rfl
theorem slists_spec (x : Nat) (rs : List Rec) (hr : rs.length ≤ 800) {S : HProp} {a : Option Addr} {c : Nat} {ws : List ByteArray} (hW : Srd S 1 strC a ws) (hl : ws.length ≤ 800) :
   Ct Tryz.prog 71 [ptr x, .slice a ws.length c] [shA x rs, S] (fun v hs => ∃ a' c' ls s, v = .slice a' ls.length c' ∧ IxIs rs s ∧ LsIs s.1 ws ls ∧ (∀ l ∈ ls, FewL l) ∧ (ls.length = ws.length ∧ ls.length ≤ c') ∧ hs = [shA x rs, S, lsO a' c' ls]) := by
 refine Cti Tryz.func71 (by kernel_rfl) 25 Tryz.ntmps71 rfl rfl fun w0 R => ?_
 refine Gs.slAddr (hW.h (by repeat constructor)) fun ab ao ha => Gs.sh fun ix L W m M hI hM => ?_
 refine Gsr (Las rfl rfl (Lnt (Gsr (Las rfl rfl (Lnil (Gs.slNil 94 1 (slC : SlV PostV → List Value) (Gs.bigNil ?_)))))))
 refine Gn (Gs.seq (Gsr (Lmv rfl rfl (Lq rfl (pu_len Tryz.underlying23 rfl) (Lmv rfl rfl (Lnt (Gs.block (Gs.loop1 (fun s : Nat × (Option Addr × Nat) × List (SlV PostV) => s.1 ≤ ws.length ∧ LsIs (plL L) (ws.take s.1) s.2.2 ∧ s.2.2.length = s.1 ∧ ∀ l ∈ s.2.2, FewL l) (fun s => [(0, ptr x), (5, .slice s.2.1.1 s.2.2.length s.2.1.2), (8, .slice a ws.length c), (9, int ws.length), (10, int s.1)]) (fun s => [cl x 76 (shC ix m), ixA ix L W, mp keyV recV m M, S, sl 94 1 slC s.2.1.1 s.2.1.2 s.2.2, big (s.2.2.map plS)] ++ R) (fun s => ws.length - s.1) (0, (none, 0), []) (⟨Nat.zero_le _, rfl, rfl, fun _ h => by cases h⟩) (by repeat constructor) (by repeat constructor) (fun s hs => ?_)))))))))
 obtain ⟨i, ⟨oa, oc⟩, ls⟩ := s
 obtain ⟨hi, hls, hll, hfw⟩ := hs
 dsimp only at hi hls hll hfw ⊢
 refine Gsr (Lq rfl (pu_lt rfl rfl) (Lnt (Gs.seq (Gs.cond rfl (fun hc0 => ?_) (fun hc0 => ?_)))))
 ·
  have hlt : i < ws.length := by have := of_decide_eq_true hc0; omega
  obtain ⟨w, hw⟩ : ∃ z, ws[i]? = some z := ⟨ws[i], by simp [hlt]⟩
  obtain rfl := ha (by rintro rfl; simp at hlt)
  have hgd := hI.gd w
  refine Gs.skip (Gn (Gs.seq (Gs.block (Gsr (Lq rfl (pu_ia se_23 rfl rfl (by omega) (by omega)) (Lr rfl (rd_ld na_9 rfl (Rdc.el0 (hW.h (by repeat constructor)) hw rfl rfl)) ?_))))))
  refine Las rfl rfl (Lnt (Gs.reg (Lmv rfl rfl (Lmv rfl rfl (Lq rfl (by first | exact pu_nil rfl | exact pu_nilF rfl) ?_)))))
  refine Lq rfl (pu_fa fa_76_0 rfl) (Lr rfl (rd_ld na_72 rfl (Rdc.cl1 (by repeat constructor) rfl)) ?_)
  refine Lmv rfl rfl (La rfl (asC (word_spec ix L W w)) ?_)
  rintro _ _ ⟨_, ⟨qa, qc, qs, rfl, hq, rfl⟩, rfl⟩
  have hqe : plain1 qs = (mget (plL L) w).getD [] := by rw [hq, plL_get]
  have hql : qs.length ≤ rs.length := by
    have h9 := congrArg List.length hqe
    have h8 := hgd.1
    rw [← h9] at h8
    simpa using h8
  have hqb : ∀ p ∈ qs, p.t.xs.length ≤ 1000 := fun p hp => by
    have h9 : p.p ∈ (mget (plL L) w).getD [] := by rw [← hqe]; exact List.mem_map.2 ⟨p, hp, rfl⟩
    have h8 : p.t.xs.length ≤ 121 := hgd.2 p.p h9
    omega
  refine La rfl (ac_lit encC_94 ([(⟨qa, qs, qc⟩ : SlV PostV)]) et_120 ek_94 rfl (by repeat constructor) rfl rfl (by decide)) ?_
  rintro _ _ ⟨a21, rfl, rfl⟩
  refine La rfl (ac_append (xs := ls) (ys := [(⟨qa, qs, qc⟩ : SlV PostV)]) et_120 ek_94 rfl rfl (by repeat constructor) (SrcH.sl Tryz.underlying120 ek_94 (SlH.own (by repeat constructor))) (by first | omega | (simp; omega)) (by first | omega | (simp; omega))) ?_
  rintro _ _ ⟨a22, c22, rfl, rfl⟩
  refine Las rfl rfl (Lnil (Gs.takes (As := [plS ⟨qa, qs, qc⟩, big (ls.map plS)]) (by repeat constructor) (Gs.bigBack take_snoc ?_)))
  rw [show ls.map plS ++ [plS ⟨qa, qs, qc⟩] = (ls ++ [(⟨qa, qs, qc⟩ : SlV PostV)]).map plS by rw [List.map_append]; rfl]
  refine Gs.blk_n (Gn (Gs.reg (Lq rfl (by first | exact pu_addI rfl rfl rfl (by omega) (by omega) | exact pu_add rfl rfl) ?_)))
  refine Lmv rfl rfl (Lnt ?_)
  exact Gs.again1 (i + 1, (a22, c22), ls ++ [(⟨qa, qs, qc⟩ : SlV PostV)]) ⟨hlt, hls.snoc hw hqe, by show (ls ++ _).length = i + 1; rw [List.length_append, hll]; rfl, fun l hm => by
  rcases List.mem_append.1 hm with h | h
  · exact hfw l h
  · rw [List.mem_singleton.1 h]; exact ⟨by show qs.length ≤ 1000; omega, hqb⟩⟩ (by show ws.length - (i + 1) < ws.length - i; omega) (by repeat constructor) (by repeat constructor)
 have hge : i = ws.length := by have := of_decide_eq_false hc0; omega
 rw [hge, List.take_length] at hls
 refine Gs.slLen (E := 94) (sz := 1) (enc := slC) (a := oa) (c := oc) (xs := ls) (by repeat constructor) fun hlc => ?_
 refine Gs.takes (As := [cl x 76 (shC ix m), ixA ix L W, mp keyV recV m M]) (by repeat constructor) (Gs.shc hI hM ?_)
 refine Gs.takes (As := [sl 94 1 slC oa oc ls, big (ls.map plS)]) (by repeat constructor) (Gs.toTwo ?_)
 refine Gs.exit (Gx (Gx (Gs.blk_hit (Gn (Gsr (Lmv rfl rfl (Las rfl rfl (Lnt (Gs.ret ?_)))))))))
 exact Gs.fin1 Tryz.results71 rfl _ (⟨oa, oc, ls, _, rfl, hI, hls, hfw, ⟨by omega, hlc⟩, rfl⟩) (by repeat constructor)
def EiIs (rs : List Rec) (f : AskV → Rec → Bool) (zs : List AskV) (ls : List (SlV PostV)) : Prop := ls.length = zs.length ∧ ∀ (j : Nat) l y, ls[j]? = some l → zs[j]? = some y → IsK rs (f y) (l.xs.map PostV.k) ∧ ∀ p ∈ l.xs, p.t.xs = [0]
theorem EiIs.snoc {rs : List Rec} {f : AskV → Rec → Bool} {zs : List AskV} {ls : List (SlV PostV)} {i : Nat} {y : AskV} {l : SlV PostV} (h : EiIs rs f (zs.take i) ls) (hy : zs[i]? = some y) (hk : IsK rs (f y) (l.xs.map PostV.k)) (h0 : ∀ p ∈ l.xs, p.t.xs = [0]) : EiIs rs f (zs.take (i + 1)) (ls ++ [l]) := by
 have hi := (List.getElem?_eq_some_iff.1 hy).1
 have h1 := h.1
 rw [List.length_take, Nat.min_eq_left (by omega)] at h1
 refine ⟨by rw [List.length_append, h1, List.length_take, Nat.min_eq_left (by omega)]; rfl, fun j l' y' hl' hy' => ?_⟩
 by_cases hj : j < i
 · rw [List.getElem?_append_left (by omega)] at hl'
   rw [List.getElem?_take, if_pos (by omega)] at hy'
   exact h.2 j l' y' hl' (by rw [List.getElem?_take, if_pos hj]; exact hy')
 · have hlt := (List.getElem?_eq_some_iff.1 hl').1
   rw [List.length_append, List.length_singleton] at hlt
   have hj2 : j = i := by omega
   subst hj2
   rw [List.getElem?_append_right (by omega), h1, Nat.sub_self] at hl'
   rw [List.getElem?_take, if_pos (by omega), hy] at hy'
   cases hl'; cases hy'
   exact ⟨hk, h0⟩
theorem EiIs.or {rs : List Rec} {f : AskV → Rec → Bool} {zs : List AskV} {ls : List (SlV PostV)} (h : EiIs rs f zs ls) : MayL ls ∧ IsK rs (fun r => zs.any fun y => f y r) (orV ls) := by
 have hat : ∀ l ∈ ls, ∃ y ∈ zs, IsK rs (f y) (l.xs.map PostV.k) ∧ ∀ p ∈ l.xs, p.t.xs = [0] := fun l hl => by
   obtain ⟨j, hj⟩ := List.mem_iff_getElem?.1 hl
   have hjl := (List.getElem?_eq_some_iff.1 hj).1
   obtain ⟨y, hy⟩ : ∃ y, zs[j]? = some y := ⟨zs[j]'(by rw [← h.1]; exact hjl), by simp [← h.1, hjl]⟩
   exact ⟨y, List.mem_of_getElem? hy, h.2 j l y hj hy⟩
 have hm : MayL ls := List.all_eq_true.2 fun L hL => by
   obtain ⟨l, hl, rfl⟩ := List.mem_map.1 hL
   obtain ⟨y, -, hk, h0⟩ := hat l hl
   refine may_of ?_ fun p hp => ?_
   · exact List.pairwise_map.2 (List.pairwise_map.1 hk.1)
   · obtain ⟨q, hq, rfl⟩ := List.mem_map.1 hp
     show risesB q.t.xs = true
     rw [h0 q hq]; rfl
 refine ⟨hm, orV_asc ls, fun k => ?_⟩
 rw [orV_mem hm]
 constructor
 · rintro ⟨l, hl, p, hp, rfl⟩
   obtain ⟨y, hy, hk, -⟩ := hat l hl
   obtain ⟨r, hr, e, hf⟩ := (hk.2 p.k).1 (List.mem_map.2 ⟨p, hp, rfl⟩)
   exact ⟨r, hr, e, List.any_eq_true.2 ⟨y, hy, hf⟩⟩
 · rintro ⟨r, hr, rfl, ha⟩
   obtain ⟨y, hy, hf⟩ := List.any_eq_true.1 ha
   obtain ⟨j, hj⟩ := List.mem_iff_getElem?.1 hy
   have hjl := (List.getElem?_eq_some_iff.1 hj).1
   obtain ⟨l, hl⟩ : ∃ l, ls[j]? = some l := ⟨ls[j]'(by rw [h.1]; exact hjl), by simp [h.1, hjl]⟩
   obtain ⟨hk, -⟩ := h.2 j l y hl hj
   obtain ⟨p, hp, e⟩ := List.mem_map.1 ((hk.2 r.key).2 ⟨r, hr, rfl, hf⟩)
   exact ⟨l, List.mem_of_getElem? hl, p, hp, e⟩
theorem EiIs.klen {rs : List Rec} {f : AskV → Rec → Bool} {zs : List AskV} {ls : List (SlV PostV)} (h : EiIs rs f zs ls) (hr : rs.length ≤ 800) : (∀ l ∈ ls, FewL l) ∧ (keysL ls).length ≤ 800 * ls.length := by
 have hat : ∀ l ∈ ls, l.xs.length ≤ 800 ∧ ∀ p ∈ l.xs, p.t.xs = [0] := fun l hl => by
   obtain ⟨j, hj⟩ := List.mem_iff_getElem?.1 hl
   have hjl := (List.getElem?_eq_some_iff.1 hj).1
   obtain ⟨y, hy⟩ : ∃ y, zs[j]? = some y := ⟨zs[j]'(by rw [← h.1]; exact hjl), by simp [← h.1, hjl]⟩
   obtain ⟨h1, h2⟩ := h.2 j l y hj hy
   have := h1.len
   rw [List.length_map] at this
   exact ⟨by omega, h2⟩
 refine ⟨fun l hl => ⟨by have := (hat l hl).1; omega, fun p hp => by rw [(hat l hl).2 p hp]; decide⟩, ?_⟩
 have : ∀ m : List (SlV PostV), (∀ l ∈ m, l.xs.length ≤ 800) → (keysL m).length ≤ 800 * m.length := by
   intro m
   induction m with
   | nil => intro _; exact Nat.le_refl _
   | cons l m ih =>
     intro hm
     have h1 := ih fun z hz => hm z (List.mem_cons_of_mem _ hz)
     have h2 := hm l (by simp)
     unfold keysL at h1 ⊢
     rw [List.flatMap_cons, List.length_append, List.length_map, List.length_cons]; omega
 exact this ls fun l hl => (hat l hl).1
theorem seither_spec (x : Nat) (rs : List Rec) (hr : rs.length ≤ 800) {S : HProp} {f : AskV → Rec → Bool} {a : Option Addr} {c : Nat} {zs : List AskV} (hS : Srd S 4 askC a zs) (hl : zs.length ≤ 100)
   (hk : ∀ y ∈ zs, Ct Tryz.prog 43 [ptr x, askV y] [shA x rs, S] (fun v hs => ∃ a c ks, v = .slice a ks.length c ∧ IsK rs (f y) ks ∧ hs = [shA x rs, S, sl 28 2 keyC a c ks])) :
   Ct Tryz.prog 78 [ptr x, .slice a zs.length c] [shA x rs, S] (fun v hs => ∃ a' c' ks, v = .slice a' ks.length c' ∧ IsK rs (fun r => zs.any fun y => f y r) ks ∧ hs = [shA x rs, S, sl 28 2 keyC a' c' ks]) := by
 refine Cti Tryz.func78 (by kernel_rfl) 39 Tryz.ntmps78 rfl rfl fun w0 R => ?_
 refine Gs.slAddr (hS.h (by repeat constructor)) fun ab ao ha => ?_
 refine Gsr (Las rfl rfl (Lnt (Gsr (Las rfl rfl (Lnil (Gs.slNil 94 1 (slC : SlV PostV → List Value) (Gs.bigNil ?_)))))))
 refine Gn (Gs.seq (Gsr (Lmv rfl rfl (Lq rfl (pu_len Tryz.underlying24 rfl) (Lmv rfl rfl (Lnt (Gs.block (Gs.loop1 (fun s : Nat × (Option Addr × Nat) × List (SlV PostV) => s.1 ≤ zs.length ∧ EiIs rs f (zs.take s.1) s.2.2) (fun s => [(0, ptr x), (5, .slice s.2.1.1 s.2.2.length s.2.1.2), (11, .slice a zs.length c), (12, int zs.length), (13, int s.1)]) (fun s => [shA x rs, S, sl 94 1 slC s.2.1.1 s.2.1.2 s.2.2, big (s.2.2.map plS)] ++ R) (fun s => zs.length - s.1) (0, (none, 0), []) (⟨Nat.zero_le _, rfl, fun j l y h => by simp at h⟩) (by repeat constructor) (by repeat constructor) (fun s hs => ?_)))))))))
 obtain ⟨i, ⟨oa, oc⟩, ls⟩ := s
 obtain ⟨hi, hls⟩ := hs
 dsimp only at hi hls ⊢
 have hll : ls.length = i := by rw [hls.1, List.length_take]; omega
 refine Gsr (Lq rfl (pu_lt rfl rfl) (Lnt (Gs.seq (Gs.cond rfl (fun hc0 => ?_) (fun hc0 => ?_)))))
 ·
  have hlt : i < zs.length := by have := of_decide_eq_true hc0; omega
  obtain ⟨y, hy⟩ : ∃ z, zs[i]? = some z := ⟨zs[i], by simp [hlt]⟩
  obtain rfl := ha (by rintro rfl; simp at hlt)
  refine Gs.skip (Gn (Gs.seq (Gs.block (Gsr (Lq rfl (pu_ia se_24 rfl rfl (by omega) (by omega)) (Lr rfl (rd_lda ag_26 rfl (Rdc.el0 (hS.h (by repeat constructor)) hy rfl rfl) rfl) ?_))))))
  refine La rfl (ac_alloc zv_26 rfl) ?_
  rintro _ _ ⟨yb, rfl, rfl⟩
  refine Lac0 rfl trivial (ac_st sz_26 rfl rfl (by repeat constructor) rfl rfl rfl rfl) ?_
  rintro _ _ rfl
  refine Lnt (Gsr (Las rfl rfl (Lnil (Gs.slNil 106 3 postC (Gs.bigNil ?_)))))
  refine Gn (Gs.seq (Gsr (Lmv rfl rfl (Lr rfl (rd_lda ag_26 rfl (Rdc.cl 4 (by repeat constructor) rfl) rfl) ?_))))
  refine La rfl (asC (hk y (List.mem_of_getElem? hy))) ?_
  rintro _ _ ⟨_, ⟨ka, kc, ks, rfl, hK, rfl⟩, rfl⟩
  refine Lq rfl (pu_len Tryz.underlying48 rfl) (Lmv rfl rfl (Lnil ?_))
  have hkn := hK.len
  refine Gs.slAddr (xs := ks) (SlH.own (E := 28) (enc := keyC) (a := ka) (c := kc) (by repeat constructor)) fun kb ko hka => ?_
  refine Gn (Gs.block (Gs.loop1 (fun s : Nat × (Option Addr × Nat) × List PostV => s.1 ≤ ks.length ∧ s.2.2.map PostV.k = ks.take s.1 ∧ ∀ p ∈ s.2.2, p.t.xs = [0]) (fun s => [(0, ptr x), (5, .slice oa ls.length oc), (8, .slice s.2.1.1 s.2.2.length s.2.1.2), (11, .slice (some ⟨ab, ao, none⟩) zs.length c), (12, int zs.length), (13, int i), (19, .slice ka ks.length kc), (20, int ks.length), (21, int s.1)]) (fun s => [shA x rs, S, sl 94 1 slC oa oc ls, big (ls.map plS), sl 28 2 keyC ka kc ks, sl 106 3 postC s.2.1.1 s.2.1.2 s.2.2, big (s.2.2.map atO)] ++ R) (fun s => ks.length - s.1) (0, (none, 0), []) (⟨Nat.zero_le _, rfl, fun _ h => by cases h⟩) (by repeat constructor) (by repeat constructor) (fun s hs1 => ?_)))
  obtain ⟨j, ⟨pa, pc⟩, ps⟩ := s
  obtain ⟨hj, hps, hp0⟩ := hs1
  dsimp only at hj hps hp0 ⊢
  have hpl : ps.length = j := by have := congrArg List.length hps; rw [List.length_map, List.length_take] at this; omega
  refine Gsr (Lq rfl (pu_lt rfl rfl) (Lnt (Gs.seq (Gs.cond rfl (fun hc1 => ?_) (fun hc1 => ?_)))))
  ·
   have hlt1 : j < ks.length := by have := of_decide_eq_true hc1; omega
   obtain ⟨k, hkj⟩ : ∃ z, ks[j]? = some z := ⟨ks[j], by simp [hlt1]⟩
   obtain rfl := hka (by rintro rfl; simp at hlt1)
   refine Gs.skip (Gn (Gs.seq (Gs.block (Gsr (Lq rfl (pu_ia se_48 rfl rfl (by omega) (by omega)) (Lr rfl (rd_lda ag_28 rfl (Rdc.el0 (SlH.own (xs := ks) (E := 28) (enc := keyC) (sz := 2) (by repeat constructor)) hkj rfl rfl) rfl) ?_))))))
   refine La rfl (ac_alloc zv_28 rfl) ?_
   rintro _ _ ⟨kb2, rfl, rfl⟩
   refine Lac0 rfl trivial (ac_st sz_28 rfl rfl (by repeat constructor) rfl rfl rfl rfl) ?_
   rintro _ _ rfl
   refine Lnt (Gs.reg (Lmv rfl rfl (Lr rfl (rd_lda ag_28 rfl (Rdc.cl 2 (by repeat constructor) rfl) rfl) ?_)))
   refine La rfl (ac_lit encC_3 ([(0 : Int)]) et_99 ek_3 rfl (by repeat constructor) rfl rfl (by decide)) ?_
   rintro _ _ ⟨a27, rfl, rfl⟩
   refine Lq rfl (pu_build bd_106 (by repeat constructor) rfl) ?_
   refine La rfl (ac_lit encC_106 ([(⟨k, ⟨some ⟨a27, 0, none⟩, [0], 1⟩⟩ : PostV)]) et_94 ek_106 rfl (by repeat constructor) rfl rfl (by decide)) ?_
   rintro _ _ ⟨a29, rfl, rfl⟩
   refine La rfl (ac_append (xs := ps) (ys := [(⟨k, ⟨some ⟨a27, 0, none⟩, [0], 1⟩⟩ : PostV)]) et_94 ek_106 rfl rfl (by repeat constructor) (SrcH.sl Tryz.underlying94 ek_106 (SlH.own (by repeat constructor))) (by first | omega | (simp; omega)) (by first | omega | (simp; omega))) ?_
   rintro _ _ ⟨a30, c30, rfl, rfl⟩
   refine Las rfl rfl (Lnil (Gs.takes (As := [atO ⟨k, ⟨some ⟨a27, 0, none⟩, [0], 1⟩⟩, big (ps.map atO)]) (by repeat constructor) (Gs.bigBack take_snoc ?_)))
   rw [show ps.map atO ++ [atO ⟨k, ⟨some ⟨a27, 0, none⟩, [0], 1⟩⟩] = (ps ++ [(⟨k, ⟨some ⟨a27, 0, none⟩, [0], 1⟩⟩ : PostV)]).map atO by rw [List.map_append]; rfl]
   refine Gs.blk_n (Gn (Gs.reg (Lq rfl (by first | exact pu_addI rfl rfl rfl (by omega) (by omega) | exact pu_add rfl rfl) ?_)))
   refine Lmv rfl rfl (Lnt ?_)
   exact Gs.again1 (j + 1, (a30, c30), ps ++ [(⟨k, ⟨some ⟨a27, 0, none⟩, [0], 1⟩⟩ : PostV)]) ⟨hlt1, by show (ps ++ _).map PostV.k = _; rw [List.map_append, hps, List.take_add_one, hkj]; rfl, fun p hm => by
   rcases List.mem_append.1 hm with h | h
   · exact hp0 p h
   · rw [List.mem_singleton.1 h]⟩ (by show ks.length - (j + 1) < ks.length - j; omega) (by repeat constructor) (by repeat constructor)
  have hge1 : j = ks.length := by have := of_decide_eq_false hc1; omega
  rw [hge1, List.take_length] at hps
  rw [← hps] at hK
  refine Gs.exit (Gx (Gx (Gs.blk_hit (Gn (Gs.reg (Lmv rfl rfl (Lmv rfl rfl (La rfl (ac_lit encC_94 ([(⟨pa, ps, pc⟩ : SlV PostV)]) et_120 ek_94 rfl (by repeat constructor) rfl rfl (by decide)) ?_))))))))
  rintro _ _ ⟨a34, rfl, rfl⟩
  refine La rfl (ac_append (xs := ls) (ys := [(⟨pa, ps, pc⟩ : SlV PostV)]) et_120 ek_94 rfl rfl (by repeat constructor) (SrcH.sl Tryz.underlying120 ek_94 (SlH.own (by repeat constructor))) (by first | omega | (simp; omega)) (by first | omega | (simp; omega))) ?_
  rintro _ _ ⟨a35, c35, rfl, rfl⟩
  refine Las rfl rfl (Lnil (Gs.takes (As := [sl 106 3 postC pa pc ps, big (ps.map atO)]) (by repeat constructor) (Gs.toTwo ?_)))
  refine Gs.takes (As := [plS ⟨pa, ps, pc⟩, big (ls.map plS)]) (by repeat constructor) (Gs.bigBack take_snoc ?_)
  rw [show ls.map plS ++ [plS ⟨pa, ps, pc⟩] = (ls ++ [(⟨pa, ps, pc⟩ : SlV PostV)]).map plS by rw [List.map_append]; rfl]
  refine Gs.blk_n (Gn (Gs.reg (Lq rfl (by first | exact pu_addI rfl rfl rfl (by omega) (by omega) | exact pu_add rfl rfl) ?_)))
  refine Lmv rfl rfl (Lnt ?_)
  exact Ag (i + 1, (a35, c35), ls ++ [(⟨pa, ps, pc⟩ : SlV PostV)]) ⟨hlt, hls.snoc hy hK hp0⟩ (by show zs.length - (i + 1) < zs.length - i; omega)
 have hge : i = zs.length := by have := of_decide_eq_false hc0; omega
 rw [hge, List.take_length] at hls
 obtain ⟨hfl, hkl⟩ := hls.klen hr
 obtain ⟨hml, hor⟩ := hls.or
 refine Gs.takes (As := [sl 94 1 slC oa oc ls, big (ls.map plS)]) (by repeat constructor) (Gs.toTwo ?_)
 refine Gs.exit (Gx (Gx (Gs.blk_hit (Gn (Gsr (Lmv rfl rfl (La rfl (asC (por_spec (S := lsO oa oc ls) (lsO_rd hfl) (by omega) (by rw [hll] at hkl; omega))) ?_)))))))
 rintro _ _ ⟨_, ⟨za, zc, rfl, rfl⟩, rfl⟩
 refine Las rfl rfl (Lnt (Gs.ret ?_))
 exact Gs.fin1 Tryz.results78 rfl _ (⟨za, zc, porV ls, rfl, by rw [porV_eq]; exact hor, rfl⟩) (by repeat constructor)
end Go.Proofs.YtklgiidfompdpaaGreatDoor
namespace Go.Proofs.YtklgiidfompdpaaGreatDoor
open Go Go.Sl Go.Gv Go.Kv Go.Po Go.Ix Go.Qu Go.Shelf
set_option maxRecDepth 100000
theorem lrd_one {a b : Option Addr} {c e : Nat} {qs : List PostV} (h1 : qs.length ≤ 1000) (h2 : ∀ p ∈ qs, p.t.xs.length ≤ 1000) : LRd (two (sl 94 1 slC a c [(⟨b, qs, e⟩ : SlV PostV)]) (plO b e qs)) a [(⟨b, qs, e⟩ : SlV PostV)] :=
 ⟨Srd.two1 Srd.own, fun l hl => by
   rw [List.mem_singleton.1 hl]
   exact ⟨⟨Srd.two2 (prd_plO h2).1, fun p hp => ⟨Srd.two2 ((prd_plO h2).2 p hp).1, h2 p hp⟩⟩, h1⟩⟩
set_option maxHeartbeats 1000000 in
theorem skeysA_spec (x : Nat) (rs : List Rec) (hr : rs.length ≤ 800) {S : HProp} : ∀ (d : Nat) {y : AskV} (hA : ARd S y) (hF : FewA d y) (hG : goodA oddB d y = true),
   Ct Tryz.prog 43 [ptr x, askV y] [shA x rs, S] (fun v hs => ∃ a c ks, v = .slice a ks.length c ∧ IsK rs (holdsQ d y) ks ∧ hs = [shA x rs, S, sl 28 2 keyC a c ks])
 | 0, y, hA, hF, hG => hF.elim
 | d + 1, y, hA, hF, hG => by
   have ih := @skeysA_spec x rs hr S d
   have hkd := good_kind hG
   have hgs := good_subs hG
   obtain ⟨hf1, hf2, hf3, hf4⟩ := hF
   have hmx : maxLen = 9223372036854775807 := by decide
   have hxl := hA.l
   refine Cti Tryz.func43 (by kernel_rfl) 85 Tryz.ntmps43 rfl rfl fun w0 R => ?_
   refine Gs.slAddr (hA.s.h (by repeat constructor)) fun ab ao ha => ?_
   refine Gs.slAddr (hA.w.h (by repeat constructor)) fun ub uo hu => ?_
   refine Gsr (La rfl (ac_box rfl rfl) ?_)
   rintro _ _ ⟨yb, rfl, rfl⟩
   refine Las rfl rfl (Lnt (Gs.seq (Gsr (Lq rfl (pu_fa fa_26_0 rfl) (Lr rfl (rd_ld na_3 rfl (Rdc.cl1 (by repeat constructor) rfl)) ?_)))))
   refine Lnt (Gs.block (Gsr (Lq rfl (pu_eq rfl rfl) (Las rfl rfl (Lnt (Gs.cond rfl (fun hk1 => ?_) (fun hk1 => ?_)))))))
   ·
    have hwl : y.ws.length = 1 := by
      have h2 := of_decide_eq_true hk1
      rcases hkd with h | h | h | h | h
      · exact h.2.2
      · omega
      · omega
      · omega
      · omega
    obtain ⟨w, hw⟩ := List.length_eq_one_iff.1 hwl
    refine Gsr (Lmv rfl rfl (Lq rfl (pu_fa fa_26_2 rfl) (Lr rfl (rd_ld na_23 rfl (Rdc.cl1 (by repeat constructor) rfl)) ?_)))
    refine La rfl (asC (slists_spec x rs hr hA.w (by show y.ws.length ≤ 800; omega))) ?_
    rintro _ _ ⟨_, ⟨la, lc, ls, s, rfl, hI, hls, hfl, hlc, rfl⟩, rfl⟩
    refine La rfl (asC (pand_spec (S := lsO la lc ls) (lsO_rd hfl) (by have h : ls.length = y.ws.length := hlc.1; omega) hlc.2)) ?_
    rintro _ _ ⟨_, ⟨za, zc, rfl, rfl⟩, rfl⟩
    refine Las rfl rfl (Lnt (Gs.ret (Gs.blk_r (Gr ?_))))
    exact Gs.fin1 Tryz.results43 rfl _ (⟨za, zc, _, rfl, by
      rw [eachV_and]
      have hls2 : LsIs s.1 [w] ls := hw ▸ hls
      exact (IsK.word hI hls2).congr fun r _ => by
        show _ = holdsA preB r (wordsB r.t) (d + 1) y
        rw [holds_1 (.inl (of_decide_eq_true hk1)), hw], rfl⟩) (by repeat constructor)
   refine Gsr (Lq rfl (pu_eq rfl rfl) (Las rfl rfl (Lnt (Gs.cond rfl (fun hk2 => ?_) (fun hk2 => ?_)))))
   ·
    have hwl : y.ws.length = 1 := by
      have h2 := of_decide_eq_true hk2
      rcases hkd with h | h | h | h | h
      · exact h.2.2
      · omega
      · omega
      · omega
      · omega
    obtain ⟨w, hw⟩ := List.length_eq_one_iff.1 hwl
    have hw0 : y.w.xs[0]? = some w := by show y.ws[0]? = _; rw [hw]; rfl
    have h1l : y.w.xs.length = 1 := hwl
    have hua := hu (fun e => by rw [e] at h1l; cases h1l)
    have hus := hA.w
    rw [hua] at hus
    refine Gs.takes (As := [shA x rs]) (by repeat constructor) (Gs.sh fun ix L W m M hI hM => ?_)
    refine Gs.seq (Gs.regD mixed (by kernel_rfl) (Rmv 0 rfl (by kernel_rfl) rfl (Rq 1 rfl (by kernel_rfl) (by first | exact pu_nil rfl | exact pu_nilF rfl) ?_)))
    refine Rq 2 rfl (by kernel_rfl) (pu_fa fa_76_0 rfl) (Rr 3 rfl (by kernel_rfl) (rd_ld na_72 rfl (Rdc.cl1 (by repeat constructor) rfl)) ?_)
    refine Rq 4 rfl (by kernel_rfl) (pu_fa fa_26_2 rfl) (Rr 5 rfl (by kernel_rfl) (rd_ld na_23 rfl (Rdc.cl1 (by repeat constructor) rfl)) ?_)
    rw [hua]
    refine Rq 6 rfl (by kernel_rfl) (pu_ia se_23 rfl rfl (by omega) (by omega)) (Rr 7 rfl (by kernel_rfl) (rd_ld na_9 rfl (Rdc.el0 (hus.h (by repeat constructor)) hw0 rfl rfl)) ?_)
    refine Rg.one (by kernel_rfl) (Stp.ac 8 rfl rfl (by kernel_rfl) trivial (asC (prefix_spec ix L W w (by have := hI.llen; omega)))  ?_)
    rintro _ _ ⟨_, ⟨qa, qc, qs, rfl, hqp, hqo, rfl⟩, rfl⟩
    have hpre := IsK.prefix hI w (l := (⟨qa, qs, qc⟩ : SlV PostV)) hqp (List.pairwise_map.2 hqo)
    have hq1 : qs.length ≤ 1000 := by have h9 : qs.length ≤ rs.length := hpre.1.2.1; omega
    have hq2 : ∀ p ∈ qs, p.t.xs.length ≤ 1000 := hpre.1.2.2
    refine Rg.one (by kernel_rfl) (Stp.ac 9 rfl rfl (by kernel_rfl) trivial (ac_lit encC_94 ([(⟨qa, qs, qc⟩ : SlV PostV)]) et_120 ek_94 rfl (by repeat constructor) rfl rfl (by decide))  ?_)
    rintro _ _ ⟨a29, rfl, rfl⟩
    refine Rg.one (by kernel_rfl) (Stp.ac 10 rfl rfl (by kernel_rfl) trivial (asC (Ct.two (pand_spec (a := some ⟨a29, 0, none⟩) (c := 1) (ls := [(⟨qa, qs, qc⟩ : SlV PostV)]) (lrd_one hq1 hq2) (by show 1 ≤ 900; omega) (Nat.le_refl _)) (by rintro _ _ ⟨_, _, _, rfl⟩; exact ⟨_, rfl⟩)))  ?_)
    rintro _ _ ⟨_, ⟨_, ⟨za, zc, rfl, ⟨⟩⟩, rfl⟩, rfl⟩
    refine Rq 11 rfl (by kernel_rfl) (pu_assign rfl) (Rg.end (by kernel_rfl) (Gn (Gs.ret (Gs.blk_r (Gr (Gs.takes (As := [cl x 76 (shC ix m), ixA ix L W, mp keyV recV m M]) (by repeat constructor) (Gs.shc hI hM ?_)))))))
    exact Gs.fin1 Tryz.results43 rfl _ (⟨za, zc, _, rfl, by
      rw [eachV_and]
      exact hpre.2.congr fun r _ => by
        show _ = holdsA preB r (wordsB r.t) (d + 1) y
        rw [holds_2 (of_decide_eq_true hk2), hw]; rfl, rfl⟩) (by repeat constructor)
   refine Gsr (Lq rfl (pu_eq rfl rfl) (Las rfl rfl (Lnt (Gs.cond rfl (fun hk3 => ?_) (fun hk3 => ?_)))))
   ·
    have hwl : 1 ≤ y.ws.length ∧ y.ws.length ≤ 16 := by
      have h2 := of_decide_eq_true hk3
      rcases hkd with h | h | h | h | h
      · omega
      · exact h.2.2
      · omega
      · omega
      · omega
    have hwne : y.ws ≠ [] := fun e => by rw [e] at hwl; simp at hwl
    refine Gsr (Lmv rfl rfl (Lq rfl (pu_fa fa_26_2 rfl) (Lr rfl (rd_ld na_23 rfl (Rdc.cl1 (by repeat constructor) rfl)) ?_)))
    refine La rfl (asC (slists_spec x rs hr hA.w (by show y.ws.length ≤ 800; omega))) ?_
    rintro _ _ ⟨_, ⟨la, lc, ls, s, rfl, hI, hls, hfl, hlc, rfl⟩, rfl⟩
    refine La rfl (asC (pphrase_spec (S := lsO la lc ls) (lsO_rd hfl) (by have h : ls.length = y.ws.length := hlc.1; omega) hlc.2)) ?_
    rintro _ _ ⟨_, ⟨za, zc, rfl, rfl⟩, rfl⟩
    refine Las rfl rfl (Lnt (Gs.ret (Gs.blk_r (Gr ?_))))
    exact Gs.fin1 Tryz.results43 rfl _ (⟨za, zc, _, rfl, by
      rw [phrase_eq']
      exact (IsK.phrase hI hls hwne (by show y.ws.length ≤ 900; omega)).congr fun r _ => by
        show _ = holdsA preB r (wordsB r.t) (d + 1) y
        rw [holds_1 (.inr (of_decide_eq_true hk3))], rfl⟩) (by repeat constructor)
   refine Gsr (Lq rfl (pu_eq rfl rfl) (Las rfl rfl (Lnt (Gs.cond rfl (fun hk4 => ?_) (fun hk4 => ?_)))))
   ·
    refine Gsr (Lmv rfl rfl (Lq rfl (pu_func (by repeat constructor) (by repeat constructor)) ?_))
    refine La rfl (asC (swhich_spec x rs hr (g := 75) (cs := [ptr yb]) (keys1_spec y yb))) ?_
    rintro _ _ ⟨_, ⟨za, zc, ks, rfl, hK, rfl⟩, rfl⟩
    refine Las rfl rfl (Lnt (Gs.ret (Gs.blk_r (Gr ?_))))
    exact Gs.fin1 Tryz.results43 rfl _ (⟨za, zc, ks, rfl, hK.congr fun r _ => by
        show _ = holdsA preB r (wordsB r.t) (d + 1) y
        rw [holds_4 (of_decide_eq_true hk4)], rfl⟩) (by repeat constructor)
   refine Gsr (Lq rfl (pu_eq rfl rfl) (Las rfl rfl (Lnt (Gs.cond rfl (fun hk5 => ?_) (fun hk5 => ?_)))))
   ·
    refine Gsr (Lmv rfl rfl (Lq rfl (pu_func (by repeat constructor) (by repeat constructor)) ?_))
    refine La rfl (asC (swhich_spec x rs hr (g := 76) (cs := [ptr yb]) (keys2_spec y yb))) ?_
    rintro _ _ ⟨_, ⟨za, zc, ks, rfl, hK, rfl⟩, rfl⟩
    refine Las rfl rfl (Lnt (Gs.ret (Gs.blk_r (Gr ?_))))
    exact Gs.fin1 Tryz.results43 rfl _ (⟨za, zc, ks, rfl, hK.congr fun r _ => by
        show _ = holdsA preB r (wordsB r.t) (d + 1) y
        rw [holds_5 (of_decide_eq_true hk5)], rfl⟩) (by repeat constructor)
   refine Gsr (Lq rfl (pu_eq rfl rfl) (Las rfl rfl (Lnt (Gs.cond rfl (fun hk6 => ?_) (fun hk6 => ?_)))))
   ·
    refine Gsr (Lmv rfl rfl (Lq rfl (pu_func (by repeat constructor) (by repeat constructor)) ?_))
    refine La rfl (asC (swhich_spec x rs hr (g := 77) (cs := [ptr yb]) (keys3_spec y yb))) ?_
    rintro _ _ ⟨_, ⟨za, zc, ks, rfl, hK, rfl⟩, rfl⟩
    refine Las rfl rfl (Lnt (Gs.ret (Gs.blk_r (Gr ?_))))
    exact Gs.fin1 Tryz.results43 rfl _ (⟨za, zc, ks, rfl, hK.congr fun r _ => by
        show _ = holdsA preB r (wordsB r.t) (d + 1) y
        rw [holds_6 (of_decide_eq_true hk6)], rfl⟩) (by repeat constructor)
   refine Gsr (Lq rfl (pu_eq rfl rfl) (Las rfl rfl (Lnt (Gs.cond rfl (fun hk8 => ?_) (fun hk8 => ?_)))))
   ·
    refine Gsr (Lmv rfl rfl (Lq rfl (pu_fa fa_26_3 rfl) (Lr rfl (rd_ld na_24 rfl (Rdc.cl1 (by repeat constructor) rfl)) ?_)))
    refine La rfl (asC (seither_spec x rs hr (f := holdsQ d) hA.s (by omega) (fun z hz => ih (hA.sub z hz) (hf4 z hz) (hgs z hz)))) ?_
    rintro _ _ ⟨_, ⟨za, zc, ks, rfl, hK, rfl⟩, rfl⟩
    refine Las rfl rfl (Lnt (Gs.ret (Gs.blk_r (Gr ?_))))
    exact Gs.fin1 Tryz.results43 rfl _ (⟨za, zc, ks, rfl, hK.congr fun r _ => by
        show _ = holdsA preB r (wordsB r.t) (d + 1) y
        rw [holds_8 (of_decide_eq_true hk8)]; rfl, rfl⟩) (by repeat constructor)
   have hk79 : y.kind = 7 ∨ y.kind = 9 := by
     have e1 := of_decide_eq_false hk1
     have e2 := of_decide_eq_false hk2
     have e3 := of_decide_eq_false hk3
     have e4 := of_decide_eq_false hk4
     have e5 := of_decide_eq_false hk5
     have e6 := of_decide_eq_false hk6
     have e8 := of_decide_eq_false hk8
     omega
   refine Gs.takes (As := [shA x rs]) (by repeat constructor) (Gs.sh fun ix L W m M hI hM => ?_)
   refine Gs.skip (Gs.blk_n (Gn (Gsr (Lmv rfl rfl (Lq rfl (by first | exact pu_nil rfl | exact pu_nilF rfl) ?_)))))
   refine Lq rfl (pu_fa fa_76_0 rfl) (Lr rfl (rd_ld na_72 rfl (Rdc.cl1 (by repeat constructor) rfl)) ?_)
   refine La rfl (asC (skeys_spec x rs (by omega) hI (m := m))) ?_
   rintro _ _ ⟨_, ⟨ka, kc, ks, rfl, hK, rfl⟩, rfl⟩
   refine Las rfl rfl (Lnil ?_)
   have hn := hI.keys
   refine Gs.takes (As := [cl x 76 (shC ix m), ixA ix L W, mp keyV recV m M]) (by repeat constructor) (Gs.shc hI hM ?_)
   refine Gn (Gs.seq (Gsr (Lq rfl (pu_fa fa_26_3 rfl) (Lr rfl (rd_ld na_24 rfl (Rdc.cl1 (by repeat constructor) rfl)) ?_))))
   refine Lq rfl (pu_len Tryz.underlying24 rfl) (Lmv rfl rfl (Lnt (Gs.block (Gs.loop1 (fun s : Nat × (Option Addr × Nat) × List Key => s.1 ≤ y.ss.length ∧ (y.kind = 9 → s.1 = 0) ∧ IsK rs (fun r => (y.ss.take s.1).all fun z => holdsQ d z r) s.2.2) (fun s => [(0, ptr x), (3, ptr yb), (5, .slice s.2.1.1 s.2.2.length s.2.1.2), (65, .slice y.sa y.ss.length y.sc), (66, int y.ss.length), (67, int s.1)]) (fun s => [shA x rs, S, cl yb 26 (askC y), sl 28 2 keyC s.2.1.1 s.2.1.2 s.2.2] ++ R) (fun s => y.ss.length - s.1) (0, (ka, kc), ks) (⟨Nat.zero_le _, fun _ => rfl, hK⟩) (by repeat constructor) (by repeat constructor) (fun s hs => ?_)))))
   obtain ⟨i, ⟨la, lc⟩, left⟩ := s
   obtain ⟨hi, h9, hL⟩ := hs
   dsimp only at hi h9 hL ⊢
   have hLl := hL.len
   refine Gsr (Lq rfl (pu_lt rfl rfl) (Lnt (Gs.seq (Gs.cond rfl (fun hc7 => ?_) (fun hc7 => ?_)))))
   ·
    have hlt : i < y.ss.length := by have := of_decide_eq_true hc7; omega
    obtain ⟨z, hz⟩ : ∃ z, y.ss[i]? = some z := ⟨y.ss[i], by simp [hlt]⟩
    have hzm := List.mem_of_getElem? hz
    have hsa := ha (fun e => by rw [e] at hlt; exact Nat.not_lt_zero _ hlt)
    have hs := hA.s
    rw [hsa] at hs ⊢
    refine Gs.skip (Gn (Gs.seq (Gs.block (Gsr (Lq rfl (pu_ia se_24 rfl rfl (by omega) (by omega)) (Lr rfl (rd_lda ag_26 rfl (Rdc.el0 (hs.h (by repeat constructor)) hz rfl rfl) rfl) ?_))))))
    refine La rfl (ac_alloc zv_26 rfl) ?_
    rintro _ _ ⟨zb, rfl, rfl⟩
    refine Lac0 rfl trivial (ac_st sz_26 rfl rfl (by repeat constructor) rfl rfl rfl rfl) ?_
    rintro _ _ rfl
    refine Lnt (Gsr (Lmv rfl rfl (Lmv rfl rfl (Lr rfl (rd_lda ag_26 rfl (Rdc.cl 4 (by repeat constructor) rfl) rfl) ?_))))
    refine La rfl (asC (ih (hA.sub z hzm) (hf4 z hzm) (hgs z hzm))) ?_
    rintro _ _ ⟨_, ⟨za, zc, zs, rfl, hZ, rfl⟩, rfl⟩
    have hZl := hZ.len
    have hW := IsK.less hn hL hZ
    have hWl := hW.len
    refine La rfl (asC (Ct.two (pless_spec (S := two (sl 28 2 keyC la lc left) (sl 28 2 keyC za zc zs)) (a := la) (b := za) (c := lc) (d := zc) (Srd.two1 Srd.own) (Srd.two2 Srd.own) (by omega) (by omega)) (by rintro _ _ ⟨_, _, _, rfl⟩; exact ⟨_, rfl⟩))) ?_
    rintro _ _ ⟨_, ⟨_, ⟨wa, wc, rfl, ⟨⟩⟩, rfl⟩, rfl⟩
    refine Las rfl rfl (Lnt (Gs.seq (Gsr (Lq rfl (pu_fa fa_26_0 rfl) (Lr rfl (rd_ld na_3 rfl (Rdc.cl1 (by repeat constructor) rfl)) ?_)))))
    refine Lq rfl (pu_eq rfl rfl) (Lnt (Gs.cond rfl (fun hk9 => ?_) (fun hk9 => ?_)))
    ·
     have hi0 : i = 0 := h9 (of_decide_eq_true hk9)
     subst hi0
     have hsl : y.ss = [z] := by
       have h1 : y.ss.length = 1 := by
         have h2 := of_decide_eq_true hk9
         rcases hkd with h | h | h | h | h
         · omega
         · omega
         · omega
         · exact h.2
         · omega
       obtain ⟨z', hz'⟩ := List.length_eq_one_iff.1 h1
       rw [hz'] at hz ⊢
       simp at hz; rw [hz]
     refine Gsr (Lmv rfl rfl (Las rfl rfl (Lnt (Gs.ret (Gr (Gs.blk_r (Gr (Gr (Gs.blk_r (Gr ?_))))))))))
     exact Gs.fin1 Tryz.results43 rfl _ (⟨wa, wc, _, rfl, hW.congr fun r _ => by
         show _ = holdsA preB r (wordsB r.t) (d + 1) y
         rw [holdsNot (of_decide_eq_true hk9) hsl]; rfl, rfl⟩) (by repeat constructor)
    have hnx := IsK.less hn hL hW
    have hnx2 : IsK rs (fun r => (y.ss.take (i + 1)).all fun z => holdsQ d z r) (lessK left (lessK left zs)) := hnx.congr fun r _ => by
      rw [List.take_add_one, hz, List.all_append]
      show _ = ((y.ss.take i).all (fun z => holdsQ d z r) && ([z].all fun z => holdsQ d z r))
      rw [List.all_cons, List.all_nil, Bool.and_true]
      cases (y.ss.take i).all (fun z => holdsQ d z r) <;> cases holdsQ d z r <;> rfl
    refine Gs.skip (Gn (Gs.reg (Lmv rfl rfl (Lmv rfl rfl (La rfl (asC (Ct.two (pless_spec (S := two (sl 28 2 keyC la lc left) (sl 28 2 keyC wa wc (lessK left zs))) (a := la) (b := wa) (c := lc) (d := wc) (Srd.two1 Srd.own) (Srd.two2 Srd.own) (by omega) (by omega)) (by rintro _ _ ⟨_, _, _, rfl⟩; exact ⟨_, rfl⟩))) ?_)))))
    rintro _ _ ⟨_, ⟨_, ⟨va, vc, rfl, ⟨⟩⟩, rfl⟩, rfl⟩
    refine Las rfl rfl (Lnil (Gs.blk_n (Gn (Gs.reg (Lq rfl (by first | exact pu_addI rfl rfl rfl (by omega) (by omega) | exact pu_add rfl rfl) ?_)))))
    refine Lmv rfl rfl (Lnt ?_)
    exact Ag (i + 1, (va, vc), lessK left (lessK left zs)) ⟨hlt, fun h => ((of_decide_eq_false hk9) h).elim, hnx2⟩ (by show y.ss.length - (i + 1) < y.ss.length - i; omega)
   have hge : i = y.ss.length := by have := of_decide_eq_false hc7; omega
   rw [hge, List.take_length] at hL
   have hk7 : y.kind = 7 := by
     rcases hk79 with h | h
     · exact h
     · exfalso
       have hz := h9 h
       rcases hkd with h2 | h2 | h2 | h2 | h2
       · omega
       · omega
       · omega
       · omega
       · omega
   refine Gs.exit (Gx (Gx (Gs.blk_hit (Gn (Gsr (Lmv rfl rfl (Las rfl rfl (Lnt (Gs.ret ?_)))))))))
   exact Gs.fin1 Tryz.results43 rfl _ (⟨la, lc, left, rfl, hL.congr fun r _ => by
       show _ = holdsA preB r (wordsB r.t) (d + 1) y
       rw [holds_7 hk7]; rfl, rfl⟩) (by repeat constructor)
def KsQ (rs : List Rec) (d : Nat) (y : AskV) (ks : List Key) : Prop := (mayA d y = true → IsK rs (holdsQ d y) ks) ∧ (mayA d y = false → ks = [])
theorem sKeys_spec (x : Nat) (rs : List Rec) (hr : rs.length ≤ 800) {S : HProp} (hT : TabU S) {d : Nat} {y : AskV} (hA : ARd S y) (hF : FewA d y) (hz : sizeA d y ≤ 1000) (hd : d ≤ 1000) :
   Ct Tryz.prog 19 [ptr x, askV y] [shA x rs, S] (fun v hs => ∃ a c ks, v = .slice a ks.length c ∧ KsQ rs d y ks ∧ hs = [shA x rs, S, sl 28 2 keyC a c ks]) := by
 refine Cti Tryz.func19 (by kernel_rfl) 15 Tryz.ntmps19 rfl rfl fun w0 R => ?_
 refine Gsr (La rfl (ac_box rfl rfl) ?_)
 rintro _ _ ⟨yb, rfl, rfl⟩
 refine Las rfl rfl (Lnt (Gs.seq (Gsr (Lmv rfl rfl (Lq rfl (pu_eqN Tryz.underlying38 rfl rfl) (LpuBf rfl rfl trivial (pu_move rfl) rfl (Lrd rfl rfl ⟨_, rfl, rfl⟩ (rd_lda ag_26 rfl (Rdc.cl 4 (by repeat constructor) rfl) rfl) ?_)))))))
 refine Lac rfl rfl ⟨_, rfl, rfl⟩ (asC (mayA_spec hT hA hF hz hd)) ?_
 rintro _ _ ⟨_, ⟨rfl, rfl⟩, rfl⟩
 refine Lpu rfl rfl ⟨_, rfl, rfl⟩ (pu_not rfl) (Lpk rfl rfl rfl (Lnt (Gs.cond rfl (fun hc0 => ?_) (fun hc0 => ?_))))
 ·
  have hno : mayA d y = false := by simpa using hc0
  refine Gs.slNil 28 2 keyC (Gsr (Las rfl rfl (Lnt (Gs.ret (Gr ?_)))))
  exact Gs.fin1 Tryz.results19 rfl _ (⟨none, 0, [], rfl, ⟨fun h => absurd h (by rw [hno]; decide), fun _ => rfl⟩, rfl⟩) (by repeat constructor)
 have hyes : mayA d y = true := by simpa using hc0
 refine Gs.skip (Gn (Gsr (Lmv rfl rfl (Lr rfl (rd_lda ag_26 rfl (Rdc.cl 4 (by repeat constructor) rfl) rfl) ?_))))
 refine La rfl (asC (skeysA_spec x rs hr d hA hF (may_good hyes))) ?_
 rintro _ _ ⟨_, ⟨ka, kc, ks, rfl, hK, rfl⟩, rfl⟩
 refine Las rfl rfl (Lnt (Gs.ret ?_))
 exact Gs.fin1 Tryz.results19 rfl _ (⟨ka, kc, ks, rfl, ⟨fun _ => hK, fun h => absurd h (by rw [hyes]; decide)⟩, rfl⟩) (by repeat constructor)
end Go.Proofs.YtklgiidfompdpaaGreatDoor
namespace Go.Proofs.YtklgiidfompdpaaGreatDoor
open Go Go.Sl Go.Gv Go.Kv Go.Po Go.Ix
set_option maxRecDepth 100000
abbrev overR : Rec := ⟨0, 0, 0, 0, ⟨#[111, 118, 101, 114]⟩⟩
theorem sameRecs_spec {S : HProp} {a b : Option Addr} {c d : Nat} {xs ys : List Rec} (hS : Srd S 5 recC a xs) (hU : Srd S 5 recC b ys) (hl : xs.length ≤ 1000000) :
   Ct Tryz.prog 21 [.slice a xs.length c, .slice b ys.length d] [S] (fun v hs => v = .bool (decide (xs = ys)) ∧ hs = [S]) := by
 refine Cti Tryz.func21 (by kernel_rfl) 26 Tryz.ntmps21 rfl rfl fun w0 R => ?_
 refine Gs.slAddr (hS.h (by repeat constructor)) fun ab ao ha => ?_
 refine Gs.slAddr (hU.h (by repeat constructor)) fun ub uo hu => ?_
 refine Gsr (Las rfl rfl (Lnt (Gs.seq (Gsr (Lmv rfl rfl (Lq rfl (pu_len Tryz.underlying41 rfl) (Lmv rfl rfl (Lq rfl (pu_len Tryz.underlying41 rfl) (Lq rfl (pu_ne rfl rfl) (Lnt (Gs.cond rfl (fun hc0 => ?_) (fun hc0 => ?_))))))))))))
 ·
  have hne : ¬ xs = ys := fun e => by have := of_decide_eq_true hc0; rw [e] at this; exact this rfl
  refine Gsr (Las rfl rfl (Lnt (Gs.ret (Gr ?_))))
  exact Gs.fin1 Tryz.results21 rfl _ (⟨by rw [decide_eq_false hne], rfl⟩) (by repeat constructor)
 have hle : xs.length = ys.length := by have := of_decide_eq_false hc0; omega
 refine Gs.skip (Gn (Gs.seq (Gsr (Las rfl rfl (Lnt (Gs.block (Gs.loop1 (fun i : Nat => i ≤ xs.length ∧ xs.take i = ys.take i) (fun i => [(0, .slice a xs.length c), (1, .slice b ys.length d), (5, int i)]) (fun i => [S] ++ R) (fun i => xs.length - i) 0 (⟨Nat.zero_le _, rfl⟩) (by repeat constructor) (by repeat constructor) (fun i ⟨hi, ht⟩ => ?_))))))))
 refine Gs.seq (Gsr (Lmv rfl rfl (Lmv rfl rfl (Lq rfl (pu_len Tryz.underlying41 rfl) (Lq rfl (pu_lt rfl rfl) (Lnt (Gs.cond rfl (fun hc1 => ?_) (fun hc1 => ?_))))))))
 ·
  have hlt : i < xs.length := by have := of_decide_eq_true hc1; omega
  obtain ⟨x, hx⟩ : ∃ x, xs[i]? = some x := ⟨xs[i], by simp [hlt]⟩
  obtain ⟨y, hy⟩ : ∃ x, ys[i]? = some x := ⟨ys[i]'(by omega), by simp [← hle, hlt]⟩
  obtain rfl := ha (by rintro rfl; simp at hlt)
  obtain rfl := hu (by rintro rfl; simp at hy)
  refine Gs.skip (Gn (Gs.seq (Gs.block (Gs.seq (Gs.regD mixed (by kernel_rfl) (Rmv 0 rfl (by kernel_rfl) rfl (Rmv 1 rfl (by kernel_rfl) rfl (Rq 2 rfl (by kernel_rfl) (pu_ia se_41 rfl rfl (by omega) (by omega)) (Rr 3 rfl (by kernel_rfl) (rd_lda ag_32 rfl (Rdc.el0 (hS.h (by repeat constructor)) hx rfl rfl) rfl) ?_)))))))))
  refine Rmv 4 rfl (by kernel_rfl) rfl (Rmv 5 rfl (by kernel_rfl) rfl (Rq 6 rfl (by kernel_rfl) (pu_ia se_41 rfl rfl (by omega) (by omega)) (Rr 7 rfl (by kernel_rfl) (rd_lda ag_32 rfl (Rdc.el0 (hU.h (by repeat constructor)) hy rfl rfl) rfl) ?_)))
  refine Rq 8 rfl (by kernel_rfl) (pu_neT (a := x) (b := y) cmp_32 (by decide) Tryz.eqGuardType32 rfl rfl) ?_
  refine Rg.end (by kernel_rfl) (Gn (Gs.cond rfl (fun hc2 => ?_) (fun hc2 => ?_)))
  ·
   have hne : ¬ xs = ys := fun e => by have := of_decide_eq_true hc2; rw [e, hy] at hx; exact this (Option.some.inj hx).symm
   refine Gsr (Las rfl rfl (Lnt (Gs.ret (Gs.blk_r (Gr (Gr (Gs.blk_r (Gr ?_))))))))
   exact Gs.fin1 Tryz.results21 rfl _ (⟨by rw [decide_eq_false hne], rfl⟩) (by repeat constructor)
  have hxy : x = y := by have := of_decide_eq_false hc2; exact Decidable.not_not.1 this
  refine Gs.skip (Gs.blk_n (Gn (Gs.reg (Lmv rfl rfl (Lq rfl (by first | exact pu_addI rfl rfl rfl (by omega) (by omega) | exact pu_add rfl rfl) ?_)))))
  refine Las rfl rfl (Lnt ?_)
  exact Ag (i + 1) ⟨by omega, by rw [List.take_add_one, List.take_add_one, ht, hx, hy, hxy]⟩ (by omega)
 have hge : i = xs.length := by have := of_decide_eq_false hc1; omega
 have heq : xs = ys := by rw [hge, List.take_length, hle, List.take_length] at ht; exact ht
 refine Gs.exit (Gx (Gx (Gs.blk_hit (Gn (Gsr (Las rfl rfl (Lnt (Gs.ret ?_))))))))
 exact Gs.fin1 Tryz.results21 rfl _ (⟨by rw [decide_eq_true heq], rfl⟩) (by repeat constructor)
theorem overRecs_spec {a : Option Addr} {c : Nat} {xs : List Rec} (hl : xs.length ≤ 100000) :
   Ct Tryz.prog 24 [.slice a xs.length c] [sl 32 5 recC a c xs] (fun v hs => v = .tuple #[] ∧ hs = []) := by
 refine Cti Tryz.func24 (by kernel_rfl) 17 Tryz.ntmps24 rfl rfl fun w0 R => ?_
 refine Gs.slAddr (xs := xs) (SlH.own (E := 32) (enc := recC) (by repeat constructor)) fun ab ao ha => ?_
 refine Gs.seq (Gsr (Las rfl rfl (Lnt (Gs.block (Gs.loop1 (fun s : Nat × List Rec => s.1 ≤ xs.length ∧ s.2.length = xs.length) (fun s => [(0, .slice a xs.length c), (2, int s.1)]) (fun s => [sl 32 5 recC a c s.2] ++ R) (fun s => xs.length - s.1) (0, xs) (⟨Nat.zero_le _, rfl⟩) (by repeat constructor) (by repeat constructor) (fun s hs => ?_))))))
 obtain ⟨i, ys⟩ := s
 obtain ⟨hi, hy⟩ := hs
 dsimp only at hi hy ⊢
 refine Gs.seq (Gsr (Lmv rfl rfl (Lmv rfl rfl (Lq rfl (pu_len Tryz.underlying41 rfl) (Lq rfl (pu_lt rfl rfl) (Lnt (Gs.cond rfl (fun hc0 => ?_) (fun hc0 => ?_))))))))
 ·
  have hlt : i < xs.length := by have := of_decide_eq_true hc0; omega
  obtain rfl := ha (by rintro rfl; simp at hlt)
  have hset : (ys.set i overR).length = xs.length := by rw [List.length_set]; exact hy
  refine Gs.skip (Gn (Gs.seq (Gs.block (Gs.reg (Lmv rfl rfl (Lmv rfl rfl (Lq rfl (pu_build bd_32 (by repeat constructor) rfl) ?_)))))))
  refine Lq rfl (pu_ia se_41 rfl rfl (by omega) (by omega)) (Lac0 rfl trivial (ac_stE (enc := recC) (xs := ys) (i := i) (x0 := ys[i]'(by omega)) (y0 := overR) (vs := recC overR) (fo := 0) sz_32 ek_32 rfl rfl (by repeat constructor) rfl rfl rfl (by simp) rfl rfl) ?_)
  rintro _ _ rfl
  refine Lnil (Gs.blk_n (Gn (Gs.reg (Lmv rfl rfl (Lq rfl (by first | exact pu_addI rfl rfl rfl (by omega) (by omega) | exact pu_add rfl rfl) ?_)))))
  refine Las rfl rfl (Lnt ?_)
  exact Ag (i + 1, ys.set i overR) ⟨hlt, hset⟩ (by show xs.length - (i + 1) < xs.length - i; omega)
 refine Gs.exit (Gx (Gx (Gs.blk_hit (Gn ?_))))
 rw [← hy]
 refine Gs.reg (Lmv rfl rfl (Lq rfl (pu_build bd_32 (by repeat constructor) rfl) ?_))
 refine La rfl (ac_lit encC_32 ([overR]) et_41 ek_32 rfl (by repeat constructor) rfl rfl (by decide)) ?_
 rintro _ _ ⟨a15, rfl, rfl⟩
 refine La rfl (ac_append (xs := ys) (ys := [overR]) et_41 ek_32 rfl rfl (by repeat constructor) (SrcH.sl Tryz.underlying41 ek_32 (SlH.own (by repeat constructor))) (by first | omega | (simp; omega)) (by first | omega | (simp; omega))) ?_
 rintro _ _ ⟨a16, c16, rfl, rfl⟩
 refine Lnil (Gs.fin_n ?_)
 exact Gs.fin0 Tryz.results24 _ (⟨rfl, rfl⟩) (by repeat constructor)
end Go.Proofs.YtklgiidfompdpaaGreatDoor
