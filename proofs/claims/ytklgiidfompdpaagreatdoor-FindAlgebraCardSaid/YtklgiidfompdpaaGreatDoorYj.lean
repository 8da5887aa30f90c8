/- What the closing leans on: part 10. -/
import Derived.Test.YtklgiidfompdpaaGreatDoorYi
import Derived.Test.YtklgiidfompdpaaGreatDoorYe
import Derived.Test.YtklgiidfompdpaaGreatDoorYh
import Derived.Lib.ItoaLen
import Derived.Test.YtklgiidfompdpaaGreatDoorYa
namespace Go.Sl
open Go
theorem Ct.bigs0 {P : Program} {f : FuncId} {args : List Value} {L : List HProp} {x : Value} (c : Ct P f args L (fun v hs => v = x ∧ hs = L)) : Ct P f args [Sl.big L] (fun v hs => v = x ∧ hs = [Sl.big L]) :=
 ⟨c.enters, fun w0 w R s => (c.calls w0 w R (Sat.big.1 s)).mono fun _ _ ⟨v, hs, he, ⟨h1, h2⟩, t⟩ => ⟨v, _, he, ⟨h1, rfl⟩, by subst h2; exact Sat.big.2 t⟩⟩
theorem Gs.bigFold {w0 : World} {n : Nat} {env : Env} {L M : List HProp} {X : Act → World → Prop} (g : Gs w0 n env (Sl.big L :: M) X) : Gs w0 n env (L ++ M) X := fun a w e s => g a w e (Sat.big.2 s)
theorem Gs.bigOpen {w0 : World} {n : Nat} {env : Env} {L M : List HProp} {X : Act → World → Prop} (g : Gs w0 n env (L ++ M) X) : Gs w0 n env (Sl.big L :: M) X := fun a w e s => g a w e (Sat.big.1 s)
end Go.Sl
namespace Go.Proofs.YtklgiidfompdpaaGreatDoor
open Go Go.Sl Go.Gv Go.Kv Go.Po Go.Ix Go.Qu Go.Shelf
set_option maxRecDepth 100000
theorem which1_spec {F : HProp} {g : FuncId} {cs : List Value} {q : Rec → Bool} {ib sb x ix m : Nat} {M : List (Key × Rec)} (hg : ∀ r, Ct Tryz.prog g ([] ++ [recV r] ++ cs) [F] (fun v hs => v = .bool (q r) ∧ hs = [F])) (k : Key) :
   Ct Tryz.prog 131 ([] ++ [keyV k] ++ [ptr ib, ptr sb]) [cl ib 80 [.func (.func g) #[] cs.toArray], cl sb 38 [ptr x], cl x 76 (shC ix m), mp keyV recV m M, F]
     (fun v hs => v = .bool (!q ((mget M k).getD Rec.zero)) ∧ hs = [cl ib 80 [.func (.func g) #[] cs.toArray], cl sb 38 [ptr x], cl x 76 (shC ix m), mp keyV recV m M, F]) := by
 refine Cti Tryz.func131 (by kernel_rfl) 14 Tryz.ntmps131 rfl rfl fun w0 R => ?_
 refine Gsr (La rfl (ac_box rfl rfl) ?_)
 rintro _ _ ⟨kb, rfl, rfl⟩
 refine Las rfl rfl (Lnt (Gs.seq (Gs.regD mixed (by kernel_rfl) (Rr 0 rfl (by kernel_rfl) (rd_ld na_80 rfl (Rdc.cl1 (by repeat constructor) rfl)) ?_))))
 refine Rr 1 rfl (by kernel_rfl) (rd_ld na_38 rfl (Rdc.cl1 (by repeat constructor) rfl)) ?_
 refine Rq 2 rfl (by kernel_rfl) (by first | exact pu_nil rfl | exact pu_nilF rfl) ?_
 refine Rq 3 rfl (by kernel_rfl) (pu_fa fa_76_1 rfl) (Rr 4 rfl (by kernel_rfl) (rd_ld na_74 rfl (Rdc.cl1 (by repeat constructor) rfl)) ?_)
 refine Rr 5 rfl (by kernel_rfl) (rd_lda ag_28 rfl (Rdc.cl 2 (by repeat constructor) rfl) rfl) ?_
 refine Rr 6 rfl (by kernel_rfl) (rd_look1 (k := k) (encv := recV) Tryz.underlying74 kt_28 zvk_32 rfl rfl (by repeat constructor)) ?_
 refine Rg.one (by kernel_rfl) (Stp.ac 7 rfl rfl (by kernel_rfl) trivial (as_callV rfl (hg ((mget M k).getD Rec.zero)) (by repeat constructor) (by repeat constructor))  ?_)
 rintro _ _ ⟨_, ⟨rfl, rfl⟩, rfl⟩
 refine Rq 8 rfl (by kernel_rfl) (pu_not rfl) (Rq 9 rfl (by kernel_rfl) (pu_assign rfl) (Rg.end (by kernel_rfl) (Gn (Gs.ret ?_))))
 exact Gs.fin1 Tryz.results131 rfl _ (⟨rfl, rfl⟩) (by repeat constructor)
theorem swhich_spec (x : Nat) (rs : List Rec) (hr : rs.length ≤ 800) {F : HProp} {g : FuncId} {cs : List Value} {q : Rec → Bool} (hg : ∀ r, Ct Tryz.prog g ([] ++ [recV r] ++ cs) [F] (fun v hs => v = .bool (q r) ∧ hs = [F])) :
   Ct Tryz.prog 74 [ptr x, .func (.func g) #[] cs.toArray] [shA x rs, F] (fun v hs => ∃ a c ks, v = .slice a ks.length c ∧ IsK rs q ks ∧ hs = [shA x rs, F, sl 28 2 keyC a c ks]) := by
 refine Cti Tryz.func74 (by kernel_rfl) 12 Tryz.ntmps74 rfl rfl fun w0 R => ?_
 refine Gs.sh fun ix L W m M hI hM => ?_
 refine Gsr (La rfl (ac_box rfl rfl) ?_)
 rintro _ _ ⟨sb, rfl, rfl⟩
 refine La rfl (ac_box rfl rfl) ?_
 rintro _ _ ⟨ib, rfl, rfl⟩
 refine Las rfl rfl (Lnt (Gsr (Lr rfl (rd_ld na_38 rfl (Rdc.cl1 (by repeat constructor) rfl)) ?_)))
 refine Lq rfl (by first | exact pu_nil rfl | exact pu_nilF rfl) ?_
 refine Lq rfl (pu_fa fa_76_0 rfl) (Lr rfl (rd_ld na_72 rfl (Rdc.cl1 (by repeat constructor) rfl)) ?_)
 refine La rfl (asC (skeys_spec x rs (by omega) hI (m := m))) ?_
 rintro _ _ ⟨_, ⟨ka, kc, ks, rfl, hK, rfl⟩, rfl⟩
 refine Lq rfl (pu_func (by repeat constructor) (by repeat constructor)) ?_
 have hkl := hK.len
 have hK2 := IsK.sub (g := q) hI.keys hK (fun k => !!q ((mget M k).getD Rec.zero)) (fun r hr => by rw [hM.get hI.keys, lookR_at hI.keys hr, Bool.not_not]; rfl)
 refine Gs.takes (As := [cl ib 80 [.func (.func g) #[] cs.toArray], cl sb 38 [ptr x], cl x 76 (shC ix m), mp keyV recV m M, F]) (by repeat constructor) (Gs.bigFold ?_)
 refine La rfl (asC (deleteK_spec (a := ka) (c := kc) (xs := ks) (F := big [cl ib 80 [.func (.func g) #[] cs.toArray], cl sb 38 [ptr x], cl x 76 (shC ix m), mp keyV recV m M, F]) (g := 131) (cs := [ptr ib, ptr sb]) (q := fun k => !q ((mget M k).getD Rec.zero)) (fun k => Ct.bigs0 (which1_spec hg k)) (by omega))) ?_
 rintro _ _ ⟨_, ⟨rfl, rfl⟩, rfl⟩
 refine Las rfl rfl (Lnil (Gs.takes (As := [big [cl ib 80 [.func (.func g) #[] cs.toArray], cl sb 38 [ptr x], cl x 76 (shC ix m), mp keyV recV m M, F]]) (by repeat constructor) (Gs.bigOpen ?_)))
 refine Gs.takes (As := [cl x 76 (shC ix m), ixA ix L W, mp keyV recV m M]) (by repeat constructor) (Gs.shc hI hM ?_)
 refine Gn (Gs.ret ?_)
 exact Gs.fin1 Tryz.results74 rfl _ (⟨ka, kc, _, rfl, hK2.congr fun r _ => Bool.true_and _, rfl⟩) (by repeat constructor)
theorem keys1_spec (y : AskV) (yb : Nat) (r : Rec) : Ct Tryz.prog 75 ([] ++ [recV r] ++ [ptr yb]) [cl yb 26 (askC y)] (fun v hs => v = .bool (decide (r.o = y.n)) ∧ hs = [cl yb 26 (askC y)]) := by
 refine Cti Tryz.func75 (by kernel_rfl) 10 Tryz.ntmps75 rfl rfl fun w0 R => ?_
 refine Gsr (La rfl (ac_box rfl rfl) ?_)
 rintro _ _ ⟨rb, rfl, rfl⟩
 refine Las rfl rfl (Lnt (Gsr (Lq rfl (pu_fa fa_32_0 rfl) (Lq rfl (pu_fa fa_28_0 rfl) (Lr rfl (rd_ld na_3 rfl (Rdc.cl1 (by repeat constructor) rfl)) ?_)))))
 refine Lq rfl (pu_fa fa_26_1 rfl) (Lr rfl (rd_ld na_3 rfl (Rdc.cl1 (by repeat constructor) rfl)) ?_)
 refine Lq rfl (pu_eq rfl rfl) (Las rfl rfl (Lnt (Gs.ret ?_)))
 exact Gs.fin1 Tryz.results75 rfl _ (⟨rfl, rfl⟩) (by repeat constructor)
theorem keys2_spec (y : AskV) (yb : Nat) (r : Rec) : Ct Tryz.prog 76 ([] ++ [recV r] ++ [ptr yb]) [cl yb 26 (askC y)] (fun v hs => v = .bool (decide (y.n ≤ r.w)) ∧ hs = [cl yb 26 (askC y)]) := by
 refine Cti Tryz.func76 (by kernel_rfl) 10 Tryz.ntmps76 rfl rfl fun w0 R => ?_
 refine Gsr (La rfl (ac_box rfl rfl) ?_)
 rintro _ _ ⟨rb, rfl, rfl⟩
 refine Las rfl rfl (Lnt (Gsr (Lq rfl (pu_fa fa_32_1 rfl) (Lq rfl (pu_fa fa_30_0 rfl) (Lr rfl (rd_ld na_3 rfl (Rdc.cl1 (by repeat constructor) rfl)) ?_)))))
 refine Lq rfl (pu_fa fa_26_1 rfl) (Lr rfl (rd_ld na_3 rfl (Rdc.cl1 (by repeat constructor) rfl)) ?_)
 refine Lq rfl (pu_ge rfl rfl) (Las rfl rfl (Lnt (Gs.ret ?_)))
 exact Gs.fin1 Tryz.results76 rfl _ (⟨rfl, rfl⟩) (by repeat constructor)
theorem keys3_spec (y : AskV) (yb : Nat) (r : Rec) : Ct Tryz.prog 77 ([] ++ [recV r] ++ [ptr yb]) [cl yb 26 (askC y)] (fun v hs => v = .bool (decide (r.w ≤ y.n)) ∧ hs = [cl yb 26 (askC y)]) := by
 refine Cti Tryz.func77 (by kernel_rfl) 10 Tryz.ntmps77 rfl rfl fun w0 R => ?_
 refine Gsr (La rfl (ac_box rfl rfl) ?_)
 rintro _ _ ⟨rb, rfl, rfl⟩
 refine Las rfl rfl (Lnt (Gsr (Lq rfl (pu_fa fa_32_1 rfl) (Lq rfl (pu_fa fa_30_0 rfl) (Lr rfl (rd_ld na_3 rfl (Rdc.cl1 (by repeat constructor) rfl)) ?_)))))
 refine Lq rfl (pu_fa fa_26_1 rfl) (Lr rfl (rd_ld na_3 rfl (Rdc.cl1 (by repeat constructor) rfl)) ?_)
 refine Lq rfl (pu_le rfl rfl) (Las rfl rfl (Lnt (Gs.ret ?_)))
 exact Gs.fin1 Tryz.results77 rfl _ (⟨rfl, rfl⟩) (by repeat constructor)
def plS (l : SlV PostV) : HProp := plO l.a l.c l.xs
def lsO (a : Option Addr) (c : Nat) (ls : List (SlV PostV)) : HProp := two (sl 94 1 slC a c ls) (big (ls.map plS))
def FewL (l : SlV PostV) : Prop := l.xs.length ≤ 1000 ∧ ∀ p ∈ l.xs, p.t.xs.length ≤ 1000
theorem lsO_rd {a : Option Addr} {c : Nat} {ls : List (SlV PostV)} (h : ∀ l ∈ ls, FewL l) : LRd (lsO a c ls) a ls :=
 ⟨Srd.two1 Srd.own, fun l hl => ⟨⟨Srd.two2 (Srd.bigs (prd_plO (c := l.c) (h l hl).2).1 (List.mem_map.2 ⟨l, hl, rfl⟩)), fun p hp => ⟨Srd.two2 (Srd.bigs ((prd_plO (c := l.c) (h l hl).2).2 p hp).1 (List.mem_map.2 ⟨l, hl, rfl⟩)), (h l hl).2 p hp⟩⟩, (h l hl).1⟩⟩
theorem LsIs.snoc {P : PL} {ws : List ByteArray} {ls : List (SlV PostV)} {i : Nat} {w : ByteArray} {l : SlV PostV} (h : LsIs P (ws.take i) ls) (hw : ws[i]? = some w) (e : plain1 l.xs = (mget P w).getD []) : LsIs P (ws.take (i + 1)) (ls ++ [l]) := by
 unfold LsIs at h ⊢
 rw [List.map_append, h, List.take_add_one, hw, List.map_append, List.map_singleton, e]; rfl
theorem slists_spec (x : Nat) (rs : List Rec) (hr : rs.length ≤ 800) {S : HProp} {a : Option Addr} {c : Nat} {ws : List ByteArray} (hW : Srd S 1 strC a ws) (hl : ws.length ≤ 800) :
   Ct Tryz.prog 71 [ptr x, .slice a ws.length c] [shA x rs, S] (fun v hs => ∃ a' c' ls s, v = .slice a' ls.length c' ∧ IxIs rs s ∧ LsIs s.1 ws ls ∧ (∀ l ∈ ls, FewL l) ∧ (ls.length = ws.length ∧ ls.length ≤ c') ∧ hs = [shA x rs, S, lsO a' c' ls]) := by
 refine Cti Tryz.func71 (by kernel_rfl) 25 Tryz.ntmps71 rfl rfl fun w0 R => ?_
 refine Gs.slAddr (hW.h (by repeat constructor)) fun ab ao ha => Gs.sh fun ix L W m M hI hM => ?_
 refine Gsr (Las rfl rfl (Lnt (Gsr (Las rfl rfl (Lnil (Gs.slNil 94 1 (slC : SlV PostV → List Value) (Gs.bigNil ?_)))))))
 refine Gn (Gs.seq (Gsr (Lmv rfl rfl (Lq rfl (pu_len Tryz.underlying23 rfl) (Lmv rfl rfl (Lnt (Gs.block (Gs.loop1 (fun s : Nat × (Option Addr × Nat) × List (SlV PostV) => s.1 ≤ ws.length ∧ LsIs (plL L) (ws.take s.1) s.2.2 ∧ s.2.2.length = s.1 ∧ ∀ l ∈ s.2.2, FewL l) (fun s => [(0, ptr x), (5, .slice s.2.1.1 s.2.2.length s.2.1.2), (8, .slice a ws.length c), (9, int ws.length), (10, int s.1)]) (fun s => [cl x 76 (shC ix m), ixA ix L W, mp keyV recV m M, S, sl 94 1 slC s.2.1.1 s.2.1.2 s.2.2, big (s.2.2.map plS)] ++ R) (fun s => ws.length - s.1) (0, (none, 0), []) (⟨Nat.zero_le _, rfl, rfl, fun _ h => by cases h⟩) (by repeat constructor) (by repeat constructor) (fun s hs => ?_)))))))))
 obtain ⟨i, ⟨oa, oc⟩, ls⟩ := s
 obtain ⟨hi, hls, hll, hfw⟩ := hs
 dsimp only at hi hls hll hfw ⊢
 refine Gsr (Lq rfl (pu_lt rfl rfl) (Lnt (Gs.seq (Gs.cond rfl (fun hc0 => ?_) (fun hc0 => ?_)))))
 ·
  have hlt : i < ws.length := by have := of_decide_eq_true hc0; omega
  obtain ⟨w, hw⟩ : ∃ z, ws[i]? = some z := ⟨ws[i], by simp [hlt]⟩
  obtain rfl := ha (by rintro rfl; simp at hlt)
  have hgd := hI.gd w
  refine Gs.skip (Gn (Gs.seq (Gs.block (Gsr (Lq rfl (pu_ia se_23 rfl rfl (by omega) (by omega)) (Lr rfl (rd_ld na_9 rfl (Rdc.el0 (hW.h (by repeat constructor)) hw rfl rfl)) ?_))))))
  refine Las rfl rfl (Lnt (Gs.reg (Lmv rfl rfl (Lmv rfl rfl (Lq rfl (by first | exact pu_nil rfl | exact pu_nilF rfl) ?_)))))
  refine Lq rfl (pu_fa fa_76_0 rfl) (Lr rfl (rd_ld na_72 rfl (Rdc.cl1 (by repeat constructor) rfl)) ?_)
  refine Lmv rfl rfl (La rfl (asC (word_spec ix L W w)) ?_)
  rintro _ _ ⟨_, ⟨qa, qc, qs, rfl, hq, rfl⟩, rfl⟩
  have hqe : plain1 qs = (mget (plL L) w).getD [] := by rw [hq, plL_get]
  have hql : qs.length ≤ rs.length := by
    have h9 := congrArg List.length hqe
    have h8 := hgd.1
    rw [← h9] at h8
    simpa using h8
  have hqb : ∀ p ∈ qs, p.t.xs.length ≤ 1000 := fun p hp => by
    have h9 : p.p ∈ (mget (plL L) w).getD [] := by rw [← hqe]; exact List.mem_map.2 ⟨p, hp, rfl⟩
    have h8 : p.t.xs.length ≤ 121 := hgd.2 p.p h9
    omega
  refine La rfl (ac_lit encC_94 ([(⟨qa, qs, qc⟩ : SlV PostV)]) et_120 ek_94 rfl (by repeat constructor) rfl rfl (by decide)) ?_
  rintro _ _ ⟨a21, rfl, rfl⟩
  refine La rfl (ac_append (xs := ls) (ys := [(⟨qa, qs, qc⟩ : SlV PostV)]) et_120 ek_94 rfl rfl (by repeat constructor) (SrcH.sl Tryz.underlying120 ek_94 (SlH.own (by repeat constructor))) (by first | omega | (simp; omega)) (by first | omega | (simp; omega))) ?_
  rintro _ _ ⟨a22, c22, rfl, rfl⟩
  refine Las rfl rfl (Lnil (Gs.takes (As := [plS ⟨qa, qs, qc⟩, big (ls.map plS)]) (by repeat constructor) (Gs.bigBack take_snoc ?_)))
  rw [show ls.map plS ++ [plS ⟨qa, qs, qc⟩] = (ls ++ [(⟨qa, qs, qc⟩ : SlV PostV)]).map plS by rw [List.map_append]; rfl]
  refine Gs.blk_n (Gn (Gs.reg (Lq rfl (by first | exact pu_addI rfl rfl rfl (by omega) (by omega) | exact pu_add rfl rfl) ?_)))
  refine Lmv rfl rfl (Lnt ?_)
  exact Gs.again1 (i + 1, (a22, c22), ls ++ [(⟨qa, qs, qc⟩ : SlV PostV)]) ⟨hlt, hls.snoc hw hqe, by show (ls ++ _).length = i + 1; rw [List.length_append, hll]; rfl, fun l hm => by
  rcases List.mem_append.1 hm with h | h
  · exact hfw l h
  · rw [List.mem_singleton.1 h]; exact ⟨by show qs.length ≤ 1000; omega, hqb⟩⟩ (by show ws.length - (i + 1) < ws.length - i; omega) (by repeat constructor) (by repeat constructor)
 have hge : i = ws.length := by have := of_decide_eq_false hc0; omega
 rw [hge, List.take_length] at hls
 refine Gs.slLen (E := 94) (sz := 1) (enc := slC) (a := oa) (c := oc) (xs := ls) (by repeat constructor) fun hlc => ?_
 refine Gs.takes (As := [cl x 76 (shC ix m), ixA ix L W, mp keyV recV m M]) (by repeat constructor) (Gs.shc hI hM ?_)
 refine Gs.takes (As := [sl 94 1 slC oa oc ls, big (ls.map plS)]) (by repeat constructor) (Gs.toTwo ?_)
 refine Gs.exit (Gx (Gx (Gs.blk_hit (Gn (Gsr (Lmv rfl rfl (Las rfl rfl (Lnt (Gs.ret ?_)))))))))
 exact Gs.fin1 Tryz.results71 rfl _ (⟨oa, oc, ls, _, rfl, hI, hls, hfw, ⟨by omega, hlc⟩, rfl⟩) (by repeat constructor)
def EiIs (rs : List Rec) (f : AskV → Rec → Bool) (zs : List AskV) (ls : List (SlV PostV)) : Prop := ls.length = zs.length ∧ ∀ (j : Nat) l y, ls[j]? = some l → zs[j]? = some y → IsK rs (f y) (l.xs.map PostV.k) ∧ ∀ p ∈ l.xs, p.t.xs = [0]
theorem EiIs.snoc {rs : List Rec} {f : AskV → Rec → Bool} {zs : List AskV} {ls : List (SlV PostV)} {i : Nat} {y : AskV} {l : SlV PostV} (h : EiIs rs f (zs.take i) ls) (hy : zs[i]? = some y) (hk : IsK rs (f y) (l.xs.map PostV.k)) (h0 : ∀ p ∈ l.xs, p.t.xs = [0]) : EiIs rs f (zs.take (i + 1)) (ls ++ [l]) := by
 have hi := (List.getElem?_eq_some_iff.1 hy).1
 have h1 := h.1
 rw [List.length_take, Nat.min_eq_left (by omega)] at h1
 refine ⟨by rw [List.length_append, h1, List.length_take, Nat.min_eq_left (by omega)]; rfl, fun j l' y' hl' hy' => ?_⟩
 by_cases hj : j < i
 · rw [List.getElem?_append_left (by omega)] at hl'
   rw [List.getElem?_take, if_pos (by omega)] at hy'
   exact h.2 j l' y' hl' (by rw [List.getElem?_take, if_pos hj]; exact hy')
 · have hlt := (List.getElem?_eq_some_iff.1 hl').1
   rw [List.length_append, List.length_singleton] at hlt
   have hj2 : j = i := by omega
   subst hj2
   rw [List.getElem?_append_right (by omega), h1, Nat.sub_self] at hl'
   rw [List.getElem?_take, if_pos (by omega), hy] at hy'
   cases hl'; cases hy'
   exact ⟨hk, h0⟩
theorem EiIs.or {rs : List Rec} {f : AskV → Rec → Bool} {zs : List AskV} {ls : List (SlV PostV)} (h : EiIs rs f zs ls) : MayL ls ∧ IsK rs (fun r => zs.any fun y => f y r) (orV ls) := by
 have hat : ∀ l ∈ ls, ∃ y ∈ zs, IsK rs (f y) (l.xs.map PostV.k) ∧ ∀ p ∈ l.xs, p.t.xs = [0] := fun l hl => by
   obtain ⟨j, hj⟩ := List.mem_iff_getElem?.1 hl
   have hjl := (List.getElem?_eq_some_iff.1 hj).1
   obtain ⟨y, hy⟩ : ∃ y, zs[j]? = some y := ⟨zs[j]'(by rw [← h.1]; exact hjl), by simp [← h.1, hjl]⟩
   exact ⟨y, List.mem_of_getElem? hy, h.2 j l y hj hy⟩
 have hm : MayL ls := List.all_eq_true.2 fun L hL => by
   obtain ⟨l, hl, rfl⟩ := List.mem_map.1 hL
   obtain ⟨y, -, hk, h0⟩ := hat l hl
   refine may_of ?_ fun p hp => ?_
   · exact List.pairwise_map.2 (List.pairwise_map.1 hk.1)
   · obtain ⟨q, hq, rfl⟩ := List.mem_map.1 hp
     show risesB q.t.xs = true
     rw [h0 q hq]; rfl
 refine ⟨hm, orV_asc ls, fun k => ?_⟩
 rw [orV_mem hm]
 constructor
 · rintro ⟨l, hl, p, hp, rfl⟩
   obtain ⟨y, hy, hk, -⟩ := hat l hl
   obtain ⟨r, hr, e, hf⟩ := (hk.2 p.k).1 (List.mem_map.2 ⟨p, hp, rfl⟩)
   exact ⟨r, hr, e, List.any_eq_true.2 ⟨y, hy, hf⟩⟩
 · rintro ⟨r, hr, rfl, ha⟩
   obtain ⟨y, hy, hf⟩ := List.any_eq_true.1 ha
   obtain ⟨j, hj⟩ := List.mem_iff_getElem?.1 hy
   have hjl := (List.getElem?_eq_some_iff.1 hj).1
   obtain ⟨l, hl⟩ : ∃ l, ls[j]? = some l := ⟨ls[j]'(by rw [h.1]; exact hjl), by simp [h.1, hjl]⟩
   obtain ⟨hk, -⟩ := h.2 j l y hl hj
   obtain ⟨p, hp, e⟩ := List.mem_map.1 ((hk.2 r.key).2 ⟨r, hr, rfl, hf⟩)
   exact ⟨l, List.mem_of_getElem? hl, p, hp, e⟩
theorem EiIs.klen {rs : List Rec} {f : AskV → Rec → Bool} {zs : List AskV} {ls : List (SlV PostV)} (h : EiIs rs f zs ls) (hr : rs.length ≤ 800) : (∀ l ∈ ls, FewL l) ∧ (keysL ls).length ≤ 800 * ls.length := by
 have hat : ∀ l ∈ ls, l.xs.length ≤ 800 ∧ ∀ p ∈ l.xs, p.t.xs = [0] := fun l hl => by
   obtain ⟨j, hj⟩ := List.mem_iff_getElem?.1 hl
   have hjl := (List.getElem?_eq_some_iff.1 hj).1
   obtain ⟨y, hy⟩ : ∃ y, zs[j]? = some y := ⟨zs[j]'(by rw [← h.1]; exact hjl), by simp [← h.1, hjl]⟩
   obtain ⟨h1, h2⟩ := h.2 j l y hj hy
   have := h1.len
   rw [List.length_map] at this
   exact ⟨by omega, h2⟩
 refine ⟨fun l hl => ⟨by have := (hat l hl).1; omega, fun p hp => by rw [(hat l hl).2 p hp]; decide⟩, ?_⟩
 have : ∀ m : List (SlV PostV), (∀ l ∈ m, l.xs.length ≤ 800) → (keysL m).length ≤ 800 * m.length := by
   intro m
   induction m with
   | nil => intro _; exact Nat.le_refl _
   | cons l m ih =>
     intro hm
     have h1 := ih fun z hz => hm z (List.mem_cons_of_mem _ hz)
     have h2 := hm l (by simp)
     unfold keysL at h1 ⊢
     rw [List.flatMap_cons, List.length_append, List.length_map, List.length_cons]; omega
 exact this ls fun l hl => (hat l hl).1
theorem seither_spec (x : Nat) (rs : List Rec) (hr : rs.length ≤ 800) {S : HProp} {f : AskV → Rec → Bool} {a : Option Addr} {c : Nat} {zs : List AskV} (hS : Srd S 4 askC a zs) (hl : zs.length ≤ 100)
   (hk : ∀ y ∈ zs, Ct Tryz.prog 43 [ptr x, askV y] [shA x rs, S] (fun v hs => ∃ a c ks, v = .slice a ks.length c ∧ IsK rs (f y) ks ∧ hs = [shA x rs, S, sl 28 2 keyC a c ks])) :
   Ct Tryz.prog 78 [ptr x, .slice a zs.length c] [shA x rs, S] (fun v hs => ∃ a' c' ks, v = .slice a' ks.length c' ∧ IsK rs (fun r => zs.any fun y => f y r) ks ∧ hs = [shA x rs, S, sl 28 2 keyC a' c' ks]) := by
 refine Cti Tryz.func78 (by kernel_rfl) 39 Tryz.ntmps78 rfl rfl fun w0 R => ?_
 refine Gs.slAddr (hS.h (by repeat constructor)) fun ab ao ha => ?_
 refine Gsr (Las rfl rfl (Lnt (Gsr (Las rfl rfl (Lnil (Gs.slNil 94 1 (slC : SlV PostV → List Value) (Gs.bigNil ?_)))))))
 refine Gn (Gs.seq (Gsr (Lmv rfl rfl (Lq rfl (pu_len Tryz.underlying24 rfl) (Lmv rfl rfl (Lnt (Gs.block (Gs.loop1 (fun s : Nat × (Option Addr × Nat) × List (SlV PostV) => s.1 ≤ zs.length ∧ EiIs rs f (zs.take s.1) s.2.2) (fun s => [(0, ptr x), (5, .slice s.2.1.1 s.2.2.length s.2.1.2), (11, .slice a zs.length c), (12, int zs.length), (13, int s.1)]) (fun s => [shA x rs, S, sl 94 1 slC s.2.1.1 s.2.1.2 s.2.2, big (s.2.2.map plS)] ++ R) (fun s => zs.length - s.1) (0, (none, 0), []) (⟨Nat.zero_le _, rfl, fun j l y h => by simp at h⟩) (by repeat constructor) (by repeat constructor) (fun s hs => ?_)))))))))
 obtain ⟨i, ⟨oa, oc⟩, ls⟩ := s
 obtain ⟨hi, hls⟩ := hs
 dsimp only at hi hls ⊢
 have hll : ls.length = i := by rw [hls.1, List.length_take]; omega
 refine Gsr (Lq rfl (pu_lt rfl rfl) (Lnt (Gs.seq (Gs.cond rfl (fun hc0 => ?_) (fun hc0 => ?_)))))
 ·
  have hlt : i < zs.length := by have := of_decide_eq_true hc0; omega
  obtain ⟨y, hy⟩ : ∃ z, zs[i]? = some z := ⟨zs[i], by simp [hlt]⟩
  obtain rfl := ha (by rintro rfl; simp at hlt)
  refine Gs.skip (Gn (Gs.seq (Gs.block (Gsr (Lq rfl (pu_ia se_24 rfl rfl (by omega) (by omega)) (Lr rfl (rd_lda ag_26 rfl (Rdc.el0 (hS.h (by repeat constructor)) hy rfl rfl) rfl) ?_))))))
  refine La rfl (ac_alloc zv_26 rfl) ?_
  rintro _ _ ⟨yb, rfl, rfl⟩
  refine Lac0 rfl trivial (ac_st sz_26 rfl rfl (by repeat constructor) rfl rfl rfl rfl) ?_
  rintro _ _ rfl
  refine Lnt (Gsr (Las rfl rfl (Lnil (Gs.slNil 106 3 postC (Gs.bigNil ?_)))))
  refine Gn (Gs.seq (Gsr (Lmv rfl rfl (Lr rfl (rd_lda ag_26 rfl (Rdc.cl 4 (by repeat constructor) rfl) rfl) ?_))))
  refine La rfl (asC (hk y (List.mem_of_getElem? hy))) ?_
  rintro _ _ ⟨_, ⟨ka, kc, ks, rfl, hK, rfl⟩, rfl⟩
  refine Lq rfl (pu_len Tryz.underlying48 rfl) (Lmv rfl rfl (Lnil ?_))
  have hkn := hK.len
  refine Gs.slAddr (xs := ks) (SlH.own (E := 28) (enc := keyC) (a := ka) (c := kc) (by repeat constructor)) fun kb ko hka => ?_
  refine Gn (Gs.block (Gs.loop1 (fun s : Nat × (Option Addr × Nat) × List PostV => s.1 ≤ ks.length ∧ s.2.2.map PostV.k = ks.take s.1 ∧ ∀ p ∈ s.2.2, p.t.xs = [0]) (fun s => [(0, ptr x), (5, .slice oa ls.length oc), (8, .slice s.2.1.1 s.2.2.length s.2.1.2), (11, .slice (some ⟨ab, ao, none⟩) zs.length c), (12, int zs.length), (13, int i), (19, .slice ka ks.length kc), (20, int ks.length), (21, int s.1)]) (fun s => [shA x rs, S, sl 94 1 slC oa oc ls, big (ls.map plS), sl 28 2 keyC ka kc ks, sl 106 3 postC s.2.1.1 s.2.1.2 s.2.2, big (s.2.2.map atO)] ++ R) (fun s => ks.length - s.1) (0, (none, 0), []) (⟨Nat.zero_le _, rfl, fun _ h => by cases h⟩) (by repeat constructor) (by repeat constructor) (fun s hs1 => ?_)))
  obtain ⟨j, ⟨pa, pc⟩, ps⟩ := s
  obtain ⟨hj, hps, hp0⟩ := hs1
  dsimp only at hj hps hp0 ⊢
  have hpl : ps.length = j := by have := congrArg List.length hps; rw [List.length_map, List.length_take] at this; omega
  refine Gsr (Lq rfl (pu_lt rfl rfl) (Lnt (Gs.seq (Gs.cond rfl (fun hc1 => ?_) (fun hc1 => ?_)))))
  ·
   have hlt1 : j < ks.length := by have := of_decide_eq_true hc1; omega
   obtain ⟨k, hkj⟩ : ∃ z, ks[j]? = some z := ⟨ks[j], by simp [hlt1]⟩
   obtain rfl := hka (by rintro rfl; simp at hlt1)
   refine Gs.skip (Gn (Gs.seq (Gs.block (Gsr (Lq rfl (pu_ia se_48 rfl rfl (by omega) (by omega)) (Lr rfl (rd_lda ag_28 rfl (Rdc.el0 (SlH.own (xs := ks) (E := 28) (enc := keyC) (sz := 2) (by repeat constructor)) hkj rfl rfl) rfl) ?_))))))
   refine La rfl (ac_alloc zv_28 rfl) ?_
   rintro _ _ ⟨kb2, rfl, rfl⟩
   refine Lac0 rfl trivial (ac_st sz_28 rfl rfl (by repeat constructor) rfl rfl rfl rfl) ?_
   rintro _ _ rfl
   refine Lnt (Gs.reg (Lmv rfl rfl (Lr rfl (rd_lda ag_28 rfl (Rdc.cl 2 (by repeat constructor) rfl) rfl) ?_)))
   refine La rfl (ac_lit encC_3 ([(0 : Int)]) et_99 ek_3 rfl (by repeat constructor) rfl rfl (by decide)) ?_
   rintro _ _ ⟨a27, rfl, rfl⟩
   refine Lq rfl (pu_build bd_106 (by repeat constructor) rfl) ?_
   refine La rfl (ac_lit encC_106 ([(⟨k, ⟨some ⟨a27, 0, none⟩, [0], 1⟩⟩ : PostV)]) et_94 ek_106 rfl (by repeat constructor) rfl rfl (by decide)) ?_
   rintro _ _ ⟨a29, rfl, rfl⟩
   refine La rfl (ac_append (xs := ps) (ys := [(⟨k, ⟨some ⟨a27, 0, none⟩, [0], 1⟩⟩ : PostV)]) et_94 ek_106 rfl rfl (by repeat constructor) (SrcH.sl Tryz.underlying94 ek_106 (SlH.own (by repeat constructor))) (by first | omega | (simp; omega)) (by first | omega | (simp; omega))) ?_
   rintro _ _ ⟨a30, c30, rfl, rfl⟩
   refine Las rfl rfl (Lnil (Gs.takes (As := [atO ⟨k, ⟨some ⟨a27, 0, none⟩, [0], 1⟩⟩, big (ps.map atO)]) (by repeat constructor) (Gs.bigBack take_snoc ?_)))
   rw [show ps.map atO ++ [atO ⟨k, ⟨some ⟨a27, 0, none⟩, [0], 1⟩⟩] = (ps ++ [(⟨k, ⟨some ⟨a27, 0, none⟩, [0], 1⟩⟩ : PostV)]).map atO by rw [List.map_append]; rfl]
   refine Gs.blk_n (Gn (Gs.reg (Lq rfl (by first | exact pu_addI rfl rfl rfl (by omega) (by omega) | exact pu_add rfl rfl) ?_)))
   refine Lmv rfl rfl (Lnt ?_)
   exact Gs.again1 (j + 1, (a30, c30), ps ++ [(⟨k, ⟨some ⟨a27, 0, none⟩, [0], 1⟩⟩ : PostV)]) ⟨hlt1, by show (ps ++ _).map PostV.k = _; rw [List.map_append, hps, List.take_add_one, hkj]; rfl, fun p hm => by
   rcases List.mem_append.1 hm with h | h
   · exact hp0 p h
   · rw [List.mem_singleton.1 h]⟩ (by show ks.length - (j + 1) < ks.length - j; omega) (by repeat constructor) (by repeat constructor)
  have hge1 : j = ks.length := by have := of_decide_eq_false hc1; omega
  rw [hge1, List.take_length] at hps
  rw [← hps] at hK
  refine Gs.exit (Gx (Gx (Gs.blk_hit (Gn (Gs.reg (Lmv rfl rfl (Lmv rfl rfl (La rfl (ac_lit encC_94 ([(⟨pa, ps, pc⟩ : SlV PostV)]) et_120 ek_94 rfl (by repeat constructor) rfl rfl (by decide)) ?_))))))))
  rintro _ _ ⟨a34, rfl, rfl⟩
  refine La rfl (ac_append (xs := ls) (ys := [(⟨pa, ps, pc⟩ : SlV PostV)]) et_120 ek_94 rfl rfl (by repeat constructor) (SrcH.sl Tryz.underlying120 ek_94 (SlH.own (by repeat constructor))) (by first | omega | (simp; omega)) (by first | omega | (simp; omega))) ?_
  rintro _ _ ⟨a35, c35, rfl, rfl⟩
  refine Las rfl rfl (Lnil (Gs.takes (As := [sl 106 3 postC pa pc ps, big (ps.map atO)]) (by repeat constructor) (Gs.toTwo ?_)))
  refine Gs.takes (As := [plS ⟨pa, ps, pc⟩, big (ls.map plS)]) (by repeat constructor) (Gs.bigBack take_snoc ?_)
  rw [show ls.map plS ++ [plS ⟨pa, ps, pc⟩] = (ls ++ [(⟨pa, ps, pc⟩ : SlV PostV)]).map plS by rw [List.map_append]; rfl]
  refine Gs.blk_n (Gn (Gs.reg (Lq rfl (by first | exact pu_addI rfl rfl rfl (by omega) (by omega) | exact pu_add rfl rfl) ?_)))
  refine Lmv rfl rfl (Lnt ?_)
  exact Ag (i + 1, (a35, c35), ls ++ [(⟨pa, ps, pc⟩ : SlV PostV)]) ⟨hlt, hls.snoc hy hK hp0⟩ (by show zs.length - (i + 1) < zs.length - i; omega)
 have hge : i = zs.length := by have := of_decide_eq_false hc0; omega
 rw [hge, List.take_length] at hls
 obtain ⟨hfl, hkl⟩ := hls.klen hr
 obtain ⟨hml, hor⟩ := hls.or
 refine Gs.takes (As := [sl 94 1 slC oa oc ls, big (ls.map plS)]) (by repeat constructor) (Gs.toTwo ?_)
 refine Gs.exit (Gx (Gx (Gs.blk_hit (Gn (Gsr (Lmv rfl rfl (La rfl (asC (por_spec (S := lsO oa oc ls) (lsO_rd hfl) (by omega) (by rw [hll] at hkl; omega))) ?_)))))))
 rintro _ _ ⟨_, ⟨za, zc, rfl, rfl⟩, rfl⟩
 refine Las rfl rfl (Lnt (Gs.ret ?_))
 exact Gs.fin1 Tryz.results78 rfl _ (⟨za, zc, porV ls, rfl, by rw [porV_eq]; exact hor, rfl⟩) (by repeat constructor)
end Go.Proofs.YtklgiidfompdpaaGreatDoor
namespace Go.Proofs.YtklgiidfompdpaaGreatDoor
open Go Go.Sl Go.Gv Go.Kv Go.Po Go.Ix Go.Qu Go.Shelf
set_option maxRecDepth 100000
theorem lrd_one {a b : Option Addr} {c e : Nat} {qs : List PostV} (h1 : qs.length ≤ 1000) (h2 : ∀ p ∈ qs, p.t.xs.length ≤ 1000) : LRd (two (sl 94 1 slC a c [(⟨b, qs, e⟩ : SlV PostV)]) (plO b e qs)) a [(⟨b, qs, e⟩ : SlV PostV)] :=
 ⟨Srd.two1 Srd.own, fun l hl => by
   rw [List.mem_singleton.1 hl]
   exact ⟨⟨Srd.two2 (prd_plO h2).1, fun p hp => ⟨Srd.two2 ((prd_plO h2).2 p hp).1, h2 p hp⟩⟩, h1⟩⟩
set_option maxHeartbeats 1000000 in
theorem skeysA_spec (x : Nat) (rs : List Rec) (hr : rs.length ≤ 800) {S : HProp} : ∀ (d : Nat) {y : AskV} (hA : ARd S y) (hF : FewA d y) (hG : goodA oddB d y = true),
   Ct Tryz.prog 43 [ptr x, askV y] [shA x rs, S] (fun v hs => ∃ a c ks, v = .slice a ks.length c ∧ IsK rs (holdsQ d y) ks ∧ hs = [shA x rs, S, sl 28 2 keyC a c ks])
 | 0, y, hA, hF, hG => hF.elim
 | d + 1, y, hA, hF, hG => by
   have ih := @skeysA_spec x rs hr S d
   have hkd := good_kind hG
   have hgs := good_subs hG
   obtain ⟨hf1, hf2, hf3, hf4⟩ := hF
   have hmx : maxLen = 9223372036854775807 := by decide
   have hxl := hA.l
   refine Cti Tryz.func43 (by kernel_rfl) 85 Tryz.ntmps43 rfl rfl fun w0 R => ?_
   refine Gs.slAddr (hA.s.h (by repeat constructor)) fun ab ao ha => ?_
   refine Gs.slAddr (hA.w.h (by repeat constructor)) fun ub uo hu => ?_
   refine Gsr (La rfl (ac_box rfl rfl) ?_)
   rintro _ _ ⟨yb, rfl, rfl⟩
   refine Las rfl rfl (Lnt (Gs.seq (Gsr (Lq rfl (pu_fa fa_26_0 rfl) (Lr rfl (rd_ld na_3 rfl (Rdc.cl1 (by repeat constructor) rfl)) ?_)))))
   refine Lnt (Gs.block (Gsr (Lq rfl (pu_eq rfl rfl) (Las rfl rfl (Lnt (Gs.cond rfl (fun hk1 => ?_) (fun hk1 => ?_)))))))
   ·
    have hwl : y.ws.length = 1 := by
      have h2 := of_decide_eq_true hk1
      rcases hkd with h | h | h | h | h
      · exact h.2.2
      · omega
      · omega
      · omega
      · omega
    obtain ⟨w, hw⟩ := List.length_eq_one_iff.1 hwl
    refine Gsr (Lmv rfl rfl (Lq rfl (pu_fa fa_26_2 rfl) (Lr rfl (rd_ld na_23 rfl (Rdc.cl1 (by repeat constructor) rfl)) ?_)))
    refine La rfl (asC (slists_spec x rs hr hA.w (by show y.ws.length ≤ 800; omega))) ?_
    rintro _ _ ⟨_, ⟨la, lc, ls, s, rfl, hI, hls, hfl, hlc, rfl⟩, rfl⟩
    refine La rfl (asC (pand_spec (S := lsO la lc ls) (lsO_rd hfl) (by have h : ls.length = y.ws.length := hlc.1; omega) hlc.2)) ?_
    rintro _ _ ⟨_, ⟨za, zc, rfl, rfl⟩, rfl⟩
    refine Las rfl rfl (Lnt (Gs.ret (Gs.blk_r (Gr ?_))))
    exact Gs.fin1 Tryz.results43 rfl _ (⟨za, zc, _, rfl, by
      rw [eachV_and]
      have hls2 : LsIs s.1 [w] ls := hw ▸ hls
      exact (IsK.word hI hls2).congr fun r _ => by
        show _ = holdsA preB r (wordsB r.t) (d + 1) y
        rw [holds_1 (.inl (of_decide_eq_true hk1)), hw], rfl⟩) (by repeat constructor)
   refine Gsr (Lq rfl (pu_eq rfl rfl) (Las rfl rfl (Lnt (Gs.cond rfl (fun hk2 => ?_) (fun hk2 => ?_)))))
   ·
    have hwl : y.ws.length = 1 := by
      have h2 := of_decide_eq_true hk2
      rcases hkd with h | h | h | h | h
      · exact h.2.2
      · omega
      · omega
      · omega
      · omega
    obtain ⟨w, hw⟩ := List.length_eq_one_iff.1 hwl
    have hw0 : y.w.xs[0]? = some w := by show y.ws[0]? = _; rw [hw]; rfl
    have h1l : y.w.xs.length = 1 := hwl
    have hua := hu (fun e => by rw [e] at h1l; cases h1l)
    have hus := hA.w
    rw [hua] at hus
    refine Gs.takes (As := [shA x rs]) (by repeat constructor) (Gs.sh fun ix L W m M hI hM => ?_)
    refine Gs.seq (Gs.regD mixed (by kernel_rfl) (Rmv 0 rfl (by kernel_rfl) rfl (Rq 1 rfl (by kernel_rfl) (by first | exact pu_nil rfl | exact pu_nilF rfl) ?_)))
    refine Rq 2 rfl (by kernel_rfl) (pu_fa fa_76_0 rfl) (Rr 3 rfl (by kernel_rfl) (rd_ld na_72 rfl (Rdc.cl1 (by repeat constructor) rfl)) ?_)
    refine Rq 4 rfl (by kernel_rfl) (pu_fa fa_26_2 rfl) (Rr 5 rfl (by kernel_rfl) (rd_ld na_23 rfl (Rdc.cl1 (by repeat constructor) rfl)) ?_)
    rw [hua]
    refine Rq 6 rfl (by kernel_rfl) (pu_ia se_23 rfl rfl (by omega) (by omega)) (Rr 7 rfl (by kernel_rfl) (rd_ld na_9 rfl (Rdc.el0 (hus.h (by repeat constructor)) hw0 rfl rfl)) ?_)
    refine Rg.one (by kernel_rfl) (Stp.ac 8 rfl rfl (by kernel_rfl) trivial (asC (prefix_spec ix L W w (by have := hI.llen; omega)))  ?_)
    rintro _ _ ⟨_, ⟨qa, qc, qs, rfl, hqp, hqo, rfl⟩, rfl⟩
    have hpre := IsK.prefix hI w (l := (⟨qa, qs, qc⟩ : SlV PostV)) hqp (List.pairwise_map.2 hqo)
    have hq1 : qs.length ≤ 1000 := by have h9 : qs.length ≤ rs.length := hpre.1.2.1; omega
    have hq2 : ∀ p ∈ qs, p.t.xs.length ≤ 1000 := hpre.1.2.2
    refine Rg.one (by kernel_rfl) (Stp.ac 9 rfl rfl (by kernel_rfl) trivial (ac_lit encC_94 ([(⟨qa, qs, qc⟩ : SlV PostV)]) et_120 ek_94 rfl (by repeat constructor) rfl rfl (by decide))  ?_)
    rintro _ _ ⟨a29, rfl, rfl⟩
    refine Rg.one (by kernel_rfl) (Stp.ac 10 rfl rfl (by kernel_rfl) trivial (asC (Ct.two (pand_spec (a := some ⟨a29, 0, none⟩) (c := 1) (ls := [(⟨qa, qs, qc⟩ : SlV PostV)]) (lrd_one hq1 hq2) (by show 1 ≤ 900; omega) (Nat.le_refl _)) (by rintro _ _ ⟨_, _, _, rfl⟩; exact ⟨_, rfl⟩)))  ?_)
    rintro _ _ ⟨_, ⟨_, ⟨za, zc, rfl, ⟨⟩⟩, rfl⟩, rfl⟩
    refine Rq 11 rfl (by kernel_rfl) (pu_assign rfl) (Rg.end (by kernel_rfl) (Gn (Gs.ret (Gs.blk_r (Gr (Gs.takes (As := [cl x 76 (shC ix m), ixA ix L W, mp keyV recV m M]) (by repeat constructor) (Gs.shc hI hM ?_)))))))
    exact Gs.fin1 Tryz.results43 rfl _ (⟨za, zc, _, rfl, by
      rw [eachV_and]
      exact hpre.2.congr fun r _ => by
        show _ = holdsA preB r (wordsB r.t) (d + 1) y
        rw [holds_2 (of_decide_eq_true hk2), hw]; rfl, rfl⟩) (by repeat constructor)
   refine Gsr (Lq rfl (pu_eq rfl rfl) (Las rfl rfl (Lnt (Gs.cond rfl (fun hk3 => ?_) (fun hk3 => ?_)))))
   ·
    have hwl : 1 ≤ y.ws.length ∧ y.ws.length ≤ 16 := by
      have h2 := of_decide_eq_true hk3
      rcases hkd with h | h | h | h | h
      · omega
      · exact h.2.2
      · omega
      · omega
      · omega
    have hwne : y.ws ≠ [] := fun e => by rw [e] at hwl; simp at hwl
    refine Gsr (Lmv rfl rfl (Lq rfl (pu_fa fa_26_2 rfl) (Lr rfl (rd_ld na_23 rfl (Rdc.cl1 (by repeat constructor) rfl)) ?_)))
    refine La rfl (asC (slists_spec x rs hr hA.w (by show y.ws.length ≤ 800; omega))) ?_
    rintro _ _ ⟨_, ⟨la, lc, ls, s, rfl, hI, hls, hfl, hlc, rfl⟩, rfl⟩
    refine La rfl (asC (pphrase_spec (S := lsO la lc ls) (lsO_rd hfl) (by have h : ls.length = y.ws.length := hlc.1; omega) hlc.2)) ?_
    rintro _ _ ⟨_, ⟨za, zc, rfl, rfl⟩, rfl⟩
    refine Las rfl rfl (Lnt (Gs.ret (Gs.blk_r (Gr ?_))))
    exact Gs.fin1 Tryz.results43 rfl _ (⟨za, zc, _, rfl, by
      rw [phrase_eq']
      exact (IsK.phrase hI hls hwne (by show y.ws.length ≤ 900; omega)).congr fun r _ => by
        show _ = holdsA preB r (wordsB r.t) (d + 1) y
        rw [holds_1 (.inr (of_decide_eq_true hk3))], rfl⟩) (by repeat constructor)
   refine Gsr (Lq rfl (pu_eq rfl rfl) (Las rfl rfl (Lnt (Gs.cond rfl (fun hk4 => ?_) (fun hk4 => ?_)))))
   ·
    refine Gsr (Lmv rfl rfl (Lq rfl (pu_func (by repeat constructor) (by repeat constructor)) ?_))
    refine La rfl (asC (swhich_spec x rs hr (g := 75) (cs := [ptr yb]) (keys1_spec y yb))) ?_
    rintro _ _ ⟨_, ⟨za, zc, ks, rfl, hK, rfl⟩, rfl⟩
    refine Las rfl rfl (Lnt (Gs.ret (Gs.blk_r (Gr ?_))))
    exact Gs.fin1 Tryz.results43 rfl _ (⟨za, zc, ks, rfl, hK.congr fun r _ => by
        show _ = holdsA preB r (wordsB r.t) (d + 1) y
        rw [holds_4 (of_decide_eq_true hk4)], rfl⟩) (by repeat constructor)
   refine Gsr (Lq rfl (pu_eq rfl rfl) (Las rfl rfl (Lnt (Gs.cond rfl (fun hk5 => ?_) (fun hk5 => ?_)))))
   ·
    refine Gsr (Lmv rfl rfl (Lq rfl (pu_func (by repeat constructor) (by repeat constructor)) ?_))
    refine La rfl (asC (swhich_spec x rs hr (g := 76) (cs := [ptr yb]) (keys2_spec y yb))) ?_
    rintro _ _ ⟨_, ⟨za, zc, ks, rfl, hK, rfl⟩, rfl⟩
    refine Las rfl rfl (Lnt (Gs.ret (Gs.blk_r (Gr ?_))))
    exact Gs.fin1 Tryz.results43 rfl _ (⟨za, zc, ks, rfl, hK.congr fun r _ => by
        show _ = holdsA preB r (wordsB r.t) (d + 1) y
        rw [holds_5 (of_decide_eq_true hk5)], rfl⟩) (by repeat constructor)
   refine Gsr (Lq rfl (pu_eq rfl rfl) (Las rfl rfl (Lnt (Gs.cond rfl (fun hk6 => ?_) (fun hk6 => ?_)))))
   ·
    refine Gsr (Lmv rfl rfl (Lq rfl (pu_func (by repeat constructor) (by repeat constructor)) ?_))
    refine La rfl (asC (swhich_spec x rs hr (g := 77) (cs := [ptr yb]) (keys3_spec y yb))) ?_
    rintro _ _ ⟨_, ⟨za, zc, ks, rfl, hK, rfl⟩, rfl⟩
    refine Las rfl rfl (Lnt (Gs.ret (Gs.blk_r (Gr ?_))))
    exact Gs.fin1 Tryz.results43 rfl _ (⟨za, zc, ks, rfl, hK.congr fun r _ => by
        show _ = holdsA preB r (wordsB r.t) (d + 1) y
        rw [holds_6 (of_decide_eq_true hk6)], rfl⟩) (by repeat constructor)
   refine Gsr (Lq rfl (pu_eq rfl rfl) (Las rfl rfl (Lnt (Gs.cond rfl (fun hk8 => ?_) (fun hk8 => ?_)))))
   ·
    refine Gsr (Lmv rfl rfl (Lq rfl (pu_fa fa_26_3 rfl) (Lr rfl (rd_ld na_24 rfl (Rdc.cl1 (by repeat constructor) rfl)) ?_)))
    refine La rfl (asC (seither_spec x rs hr (f := holdsQ d) hA.s (by omega) (fun z hz => ih (hA.sub z hz) (hf4 z hz) (hgs z hz)))) ?_
    rintro _ _ ⟨_, ⟨za, zc, ks, rfl, hK, rfl⟩, rfl⟩
    refine Las rfl rfl (Lnt (Gs.ret (Gs.blk_r (Gr ?_))))
    exact Gs.fin1 Tryz.results43 rfl _ (⟨za, zc, ks, rfl, hK.congr fun r _ => by
        show _ = holdsA preB r (wordsB r.t) (d + 1) y
        rw [holds_8 (of_decide_eq_true hk8)]; rfl, rfl⟩) (by repeat constructor)
   have hk79 : y.kind = 7 ∨ y.kind = 9 := by
     have e1 := of_decide_eq_false hk1
     have e2 := of_decide_eq_false hk2
     have e3 := of_decide_eq_false hk3
     have e4 := of_decide_eq_false hk4
     have e5 := of_decide_eq_false hk5
     have e6 := of_decide_eq_false hk6
     have e8 := of_decide_eq_false hk8
     omega
   refine Gs.takes (As := [shA x rs]) (by repeat constructor) (Gs.sh fun ix L W m M hI hM => ?_)
   refine Gs.skip (Gs.blk_n (Gn (Gsr (Lmv rfl rfl (Lq rfl (by first | exact pu_nil rfl | exact pu_nilF rfl) ?_)))))
   refine Lq rfl (pu_fa fa_76_0 rfl) (Lr rfl (rd_ld na_72 rfl (Rdc.cl1 (by repeat constructor) rfl)) ?_)
   refine La rfl (asC (skeys_spec x rs (by omega) hI (m := m))) ?_
   rintro _ _ ⟨_, ⟨ka, kc, ks, rfl, hK, rfl⟩, rfl⟩
   refine Las rfl rfl (Lnil ?_)
   have hn := hI.keys
   refine Gs.takes (As := [cl x 76 (shC ix m), ixA ix L W, mp keyV recV m M]) (by repeat constructor) (Gs.shc hI hM ?_)
   refine Gn (Gs.seq (Gsr (Lq rfl (pu_fa fa_26_3 rfl) (Lr rfl (rd_ld na_24 rfl (Rdc.cl1 (by repeat constructor) rfl)) ?_))))
   refine Lq rfl (pu_len Tryz.underlying24 rfl) (Lmv rfl rfl (Lnt (Gs.block (Gs.loop1 (fun s : Nat × (Option Addr × Nat) × List Key => s.1 ≤ y.ss.length ∧ (y.kind = 9 → s.1 = 0) ∧ IsK rs (fun r => (y.ss.take s.1).all fun z => holdsQ d z r) s.2.2) (fun s => [(0, ptr x), (3, ptr yb), (5, .slice s.2.1.1 s.2.2.length s.2.1.2), (65, .slice y.sa y.ss.length y.sc), (66, int y.ss.length), (67, int s.1)]) (fun s => [shA x rs, S, cl yb 26 (askC y), sl 28 2 keyC s.2.1.1 s.2.1.2 s.2.2] ++ R) (fun s => y.ss.length - s.1) (0, (ka, kc), ks) (⟨Nat.zero_le _, fun _ => rfl, hK⟩) (by repeat constructor) (by repeat constructor) (fun s hs => ?_)))))
   obtain ⟨i, ⟨la, lc⟩, left⟩ := s
   obtain ⟨hi, h9, hL⟩ := hs
   dsimp only at hi h9 hL ⊢
   have hLl := hL.len
   refine Gsr (Lq rfl (pu_lt rfl rfl) (Lnt (Gs.seq (Gs.cond rfl (fun hc7 => ?_) (fun hc7 => ?_)))))
   ·
    have hlt : i < y.ss.length := by have := of_decide_eq_true hc7; omega
    obtain ⟨z, hz⟩ : ∃ z, y.ss[i]? = some z := ⟨y.ss[i], by simp [hlt]⟩
    have hzm := List.mem_of_getElem? hz
    have hsa := ha (fun e => by rw [e] at hlt; exact Nat.not_lt_zero _ hlt)
    have hs := hA.s
    rw [hsa] at hs ⊢
    refine Gs.skip (Gn (Gs.seq (Gs.block (Gsr (Lq rfl (pu_ia se_24 rfl rfl (by omega) (by omega)) (Lr rfl (rd_lda ag_26 rfl (Rdc.el0 (hs.h (by repeat constructor)) hz rfl rfl) rfl) ?_))))))
    refine La rfl (ac_alloc zv_26 rfl) ?_
    rintro _ _ ⟨zb, rfl, rfl⟩
    refine Lac0 rfl trivial (ac_st sz_26 rfl rfl (by repeat constructor) rfl rfl rfl rfl) ?_
    rintro _ _ rfl
    refine Lnt (Gsr (Lmv rfl rfl (Lmv rfl rfl (Lr rfl (rd_lda ag_26 rfl (Rdc.cl 4 (by repeat constructor) rfl) rfl) ?_))))
    refine La rfl (asC (ih (hA.sub z hzm) (hf4 z hzm) (hgs z hzm))) ?_
    rintro _ _ ⟨_, ⟨za, zc, zs, rfl, hZ, rfl⟩, rfl⟩
    have hZl := hZ.len
    have hW := IsK.less hn hL hZ
    have hWl := hW.len
    refine La rfl (asC (Ct.two (pless_spec (S := two (sl 28 2 keyC la lc left) (sl 28 2 keyC za zc zs)) (a := la) (b := za) (c := lc) (d := zc) (Srd.two1 Srd.own) (Srd.two2 Srd.own) (by omega) (by omega)) (by rintro _ _ ⟨_, _, _, rfl⟩; exact ⟨_, rfl⟩))) ?_
    rintro _ _ ⟨_, ⟨_, ⟨wa, wc, rfl, ⟨⟩⟩, rfl⟩, rfl⟩
    refine Las rfl rfl (Lnt (Gs.seq (Gsr (Lq rfl (pu_fa fa_26_0 rfl) (Lr rfl (rd_ld na_3 rfl (Rdc.cl1 (by repeat constructor) rfl)) ?_)))))
    refine Lq rfl (pu_eq rfl rfl) (Lnt (Gs.cond rfl (fun hk9 => ?_) (fun hk9 => ?_)))
    ·
     have hi0 : i = 0 := h9 (of_decide_eq_true hk9)
     subst hi0
     have hsl : y.ss = [z] := by
       have h1 : y.ss.length = 1 := by
         have h2 := of_decide_eq_true hk9
         rcases hkd with h | h | h | h | h
         · omega
         · omega
         · omega
         · exact h.2
         · omega
       obtain ⟨z', hz'⟩ := List.length_eq_one_iff.1 h1
       rw [hz'] at hz ⊢
       simp at hz; rw [hz]
     refine Gsr (Lmv rfl rfl (Las rfl rfl (Lnt (Gs.ret (Gr (Gs.blk_r (Gr (Gr (Gs.blk_r (Gr ?_))))))))))
     exact Gs.fin1 Tryz.results43 rfl _ (⟨wa, wc, _, rfl, hW.congr fun r _ => by
         show _ = holdsA preB r (wordsB r.t) (d + 1) y
         rw [holdsNot (of_decide_eq_true hk9) hsl]; rfl, rfl⟩) (by repeat constructor)
    have hnx := IsK.less hn hL hW
    have hnx2 : IsK rs (fun r => (y.ss.take (i + 1)).all fun z => holdsQ d z r) (lessK left (lessK left zs)) := hnx.congr fun r _ => by
      rw [List.take_add_one, hz, List.all_append]
      show _ = ((y.ss.take i).all (fun z => holdsQ d z r) && ([z].all fun z => holdsQ d z r))
      rw [List.all_cons, List.all_nil, Bool.and_true]
      cases (y.ss.take i).all (fun z => holdsQ d z r) <;> cases holdsQ d z r <;> rfl
    refine Gs.skip (Gn (Gs.reg (Lmv rfl rfl (Lmv rfl rfl (La rfl (asC (Ct.two (pless_spec (S := two (sl 28 2 keyC la lc left) (sl 28 2 keyC wa wc (lessK left zs))) (a := la) (b := wa) (c := lc) (d := wc) (Srd.two1 Srd.own) (Srd.two2 Srd.own) (by omega) (by omega)) (by rintro _ _ ⟨_, _, _, rfl⟩; exact ⟨_, rfl⟩))) ?_)))))
    rintro _ _ ⟨_, ⟨_, ⟨va, vc, rfl, ⟨⟩⟩, rfl⟩, rfl⟩
    refine Las rfl rfl (Lnil (Gs.blk_n (Gn (Gs.reg (Lq rfl (by first | exact pu_addI rfl rfl rfl (by omega) (by omega) | exact pu_add rfl rfl) ?_)))))
    refine Lmv rfl rfl (Lnt ?_)
    exact Ag (i + 1, (va, vc), lessK left (lessK left zs)) ⟨hlt, fun h => ((of_decide_eq_false hk9) h).elim, hnx2⟩ (by show y.ss.length - (i + 1) < y.ss.length - i; omega)
   have hge : i = y.ss.length := by have := of_decide_eq_false hc7; omega
   rw [hge, List.take_length] at hL
   have hk7 : y.kind = 7 := by
     rcases hk79 with h | h
     · exact h
     · exfalso
       have hz := h9 h
       rcases hkd with h2 | h2 | h2 | h2 | h2
       · omega
       · omega
       · omega
       · omega
       · omega
   refine Gs.exit (Gx (Gx (Gs.blk_hit (Gn (Gsr (Lmv rfl rfl (Las rfl rfl (Lnt (Gs.ret ?_)))))))))
   exact Gs.fin1 Tryz.results43 rfl _ (⟨la, lc, left, rfl, hL.congr fun r _ => by
       show _ = holdsA preB r (wordsB r.t) (d + 1) y
       rw [holds_7 hk7]; rfl, rfl⟩) (by repeat constructor)
def KsQ (rs : List Rec) (d : Nat) (y : AskV) (ks : List Key) : Prop := (mayA d y = true → IsK rs (holdsQ d y) ks) ∧ (mayA d y = false → ks = [])
theorem sKeys_spec (x : Nat) (rs : List Rec) (hr : rs.length ≤ 800) {S : HProp} (hT : TabU S) {d : Nat} {y : AskV} (hA : ARd S y) (hF : FewA d y) (hz : sizeA d y ≤ 1000) (hd : d ≤ 1000) :
   Ct Tryz.prog 19 [ptr x, askV y] [shA x rs, S] (fun v hs => ∃ a c ks, v = .slice a ks.length c ∧ KsQ rs d y ks ∧ hs = [shA x rs, S, sl 28 2 keyC a c ks]) := by
 refine Cti Tryz.func19 (by kernel_rfl) 15 Tryz.ntmps19 rfl rfl fun w0 R => ?_
 refine Gsr (La rfl (ac_box rfl rfl) ?_)
 rintro _ _ ⟨yb, rfl, rfl⟩
 refine Las rfl rfl (Lnt (Gs.seq (Gsr (Lmv rfl rfl (Lq rfl (pu_eqN Tryz.underlying38 rfl rfl) (LpuBf rfl rfl trivial (pu_move rfl) rfl (Lrd rfl rfl ⟨_, rfl, rfl⟩ (rd_lda ag_26 rfl (Rdc.cl 4 (by repeat constructor) rfl) rfl) ?_)))))))
 refine Lac rfl rfl ⟨_, rfl, rfl⟩ (asC (mayA_spec hT hA hF hz hd)) ?_
 rintro _ _ ⟨_, ⟨rfl, rfl⟩, rfl⟩
 refine Lpu rfl rfl ⟨_, rfl, rfl⟩ (pu_not rfl) (Lpk rfl rfl rfl (Lnt (Gs.cond rfl (fun hc0 => ?_) (fun hc0 => ?_))))
 ·
  have hno : mayA d y = false := by simpa using hc0
  refine Gs.slNil 28 2 keyC (Gsr (Las rfl rfl (Lnt (Gs.ret (Gr ?_)))))
  exact Gs.fin1 Tryz.results19 rfl _ (⟨none, 0, [], rfl, ⟨fun h => absurd h (by rw [hno]; decide), fun _ => rfl⟩, rfl⟩) (by repeat constructor)
 have hyes : mayA d y = true := by simpa using hc0
 refine Gs.skip (Gn (Gsr (Lmv rfl rfl (Lr rfl (rd_lda ag_26 rfl (Rdc.cl 4 (by repeat constructor) rfl) rfl) ?_))))
 refine La rfl (asC (skeysA_spec x rs hr d hA hF (may_good hyes))) ?_
 rintro _ _ ⟨_, ⟨ka, kc, ks, rfl, hK, rfl⟩, rfl⟩
 refine Las rfl rfl (Lnt (Gs.ret ?_))
 exact Gs.fin1 Tryz.results19 rfl _ (⟨ka, kc, ks, rfl, ⟨fun _ => hK, fun h => absurd h (by rw [hyes]; decide)⟩, rfl⟩) (by repeat constructor)
end Go.Proofs.YtklgiidfompdpaaGreatDoor
namespace Go.Proofs.YtklgiidfompdpaaGreatDoor
open Go Go.Sl Go.Gv Go.Kv Go.Po Go.Ix
set_option maxRecDepth 100000
end Go.Proofs.YtklgiidfompdpaaGreatDoor
namespace Go.Proofs.YtklgiidfompdpaaGreatDoor
open Go Go.Sl Go.Gv Go.Kv Go.Po Go.Ix
set_option maxRecDepth 100000
def slB (p q : Int × Int) : Bool := decide (p.1 < q.1) || (decide (p.1 = q.1) && decide (p.2 < q.2))
def lessR (a b : Rec) : Bool := slB (a.w, a.c) (b.w, b.c) || (decide ((a.w, a.c) = (b.w, b.c)) && before a.key b.key)
abbrev stV (p : Int × Int) : Value := .agg #[int p.1, int p.2]
theorem sl_ne {p q : Int × Int} (h : p.1 ≠ q.1) : slB p q = decide (p.1 < q.1) := by unfold slB; rw [decide_eq_false h, Bool.false_and, Bool.or_false]
theorem sl_eq {p q : Int × Int} (h : p.1 = q.1) : slB p q = decide (p.2 < q.2) := by unfold slB; rw [decide_eq_true h, h, decide_eq_false (Int.lt_irrefl _), Bool.false_or, Bool.true_and]
theorem sl_self {p q : Int × Int} (h : p = q) : slB p q = false := by rw [sl_eq (by rw [h]), h]; exact decide_eq_false (Int.lt_irrefl _)
theorem stampLess_spec (p q : Int × Int) : Ct Tryz.prog 157 [stV p, stV q] [] (fun v hs => v = .bool (slB p q) ∧ hs = []) := by
 refine Cti Tryz.func157 (by kernel_rfl) 20 Tryz.ntmps157 rfl rfl fun w0 R => ?_
 refine Gsr (La rfl (ac_box rfl rfl) ?_)
 rintro _ _ ⟨pb, rfl, rfl⟩
 refine La rfl (ac_box rfl rfl) ?_
 rintro _ _ ⟨qb, rfl, rfl⟩
 refine Las rfl rfl (Lnt (Gs.seq (Gsr (Lq rfl (pu_fa fa_30_0 rfl) (Lr rfl (rd_ld na_3 rfl (Rdc.cl1 (by repeat constructor) rfl)) ?_)))))
 refine Lq rfl (pu_fa fa_30_0 rfl) (Lr rfl (rd_ld na_3 rfl (Rdc.cl1 (by repeat constructor) rfl)) ?_)
 refine Lq rfl (pu_ne rfl rfl) (Lnt (Gs.cond rfl (fun hc0 => ?_) (fun hc0 => ?_)))
 ·
  refine Gsr (Lq rfl (pu_fa fa_30_0 rfl) (Lr rfl (rd_ld na_3 rfl (Rdc.cl1 (by repeat constructor) rfl)) ?_))
  refine Lq rfl (pu_fa fa_30_0 rfl) (Lr rfl (rd_ld na_3 rfl (Rdc.cl1 (by repeat constructor) rfl)) ?_)
  refine Lq rfl (pu_lt rfl rfl) (Las rfl rfl (Lnt (Gs.ret (Gr ?_))))
  exact Gs.fin1 Tryz.results157 rfl _ (⟨by rw [sl_ne (of_decide_eq_true hc0)], rfl⟩) (by repeat constructor)
 refine Gs.skip (Gn (Gsr (Lq rfl (pu_fa fa_30_1 rfl) (Lr rfl (rd_ld na_3 rfl (Rdc.cl1 (by repeat constructor) rfl)) ?_))))
 refine Lq rfl (pu_fa fa_30_1 rfl) (Lr rfl (rd_ld na_3 rfl (Rdc.cl1 (by repeat constructor) rfl)) ?_)
 refine Lq rfl (pu_lt rfl rfl) (Las rfl rfl (Lnt (Gs.ret ?_)))
 exact Gs.fin1 Tryz.results157 rfl _ (⟨by rw [sl_eq (Decidable.not_not.1 (of_decide_eq_false hc0))], rfl⟩) (by repeat constructor)
theorem less_cases (a b : Rec) : (¬ (a.w, a.c) = (b.w, b.c) → lessR a b = slB (a.w, a.c) (b.w, b.c)) ∧ ((a.w, a.c) = (b.w, b.c) → lessR a b = before a.key b.key) := by
 refine ⟨fun h => ?_, fun h => ?_⟩
 · unfold lessR; rw [decide_eq_false h, Bool.false_and, Bool.or_false]
 · unfold lessR; rw [sl_self h, decide_eq_true h, Bool.false_or, Bool.true_and]
theorem recLess_spec (a b : Rec) : Ct Tryz.prog 111 [recV a, recV b] [] (fun v hs => v = .bool (lessR a b) ∧ hs = []) := by
 refine Cti Tryz.func111 (by kernel_rfl) 20 Tryz.ntmps111 rfl rfl fun w0 R => ?_
 refine Gsr (La rfl (ac_box rfl rfl) ?_)
 rintro _ _ ⟨pb, rfl, rfl⟩
 refine La rfl (ac_box rfl rfl) ?_
 rintro _ _ ⟨qb, rfl, rfl⟩
 refine Las rfl rfl (Lnt (Gs.seq (Gsr (Lq rfl (pu_fa fa_32_1 rfl) (Lr rfl (rd_lda ag_30 rfl (Rdc.cl 2 (by repeat constructor) rfl) rfl) ?_)))))
 refine Lq rfl (pu_fa fa_32_1 rfl) (Lr rfl (rd_lda ag_30 rfl (Rdc.cl 2 (by repeat constructor) rfl) rfl) ?_)
 refine Lq rfl (pu_neT (a := (a.w, a.c)) (b := (b.w, b.c)) cmp_30 (by decide) Tryz.eqGuardType30 rfl rfl) ?_
 refine Lnt (Gs.cond rfl (fun hc0 => ?_) (fun hc0 => ?_))
 ·
  refine Gsr (Lq rfl (pu_fa fa_32_1 rfl) (Lr rfl (rd_lda ag_30 rfl (Rdc.cl 2 (by repeat constructor) rfl) rfl) ?_))
  refine Lq rfl (pu_fa fa_32_1 rfl) (Lr rfl (rd_lda ag_30 rfl (Rdc.cl 2 (by repeat constructor) rfl) rfl) ?_)
  refine La rfl (asC (stampLess_spec (a.w, a.c) (b.w, b.c))) ?_
  rintro _ _ ⟨_, ⟨rfl, rfl⟩, rfl⟩
  refine Las rfl rfl (Lnt (Gs.ret (Gr ?_)))
  exact Gs.fin1 Tryz.results111 rfl _ (⟨by rw [(less_cases a b).1 (of_decide_eq_true hc0)], rfl⟩) (by repeat constructor)
 refine Gs.skip (Gn (Gsr (Lq rfl (pu_fa fa_32_0 rfl) (Lr rfl (rd_lda ag_28 rfl (Rdc.cl 2 (by repeat constructor) rfl) rfl) ?_))))
 refine Lq rfl (pu_fa fa_32_0 rfl) (Lr rfl (rd_lda ag_28 rfl (Rdc.cl 2 (by repeat constructor) rfl) rfl) ?_)
 refine La rfl (asC (beforeR_spec a.key b.key)) ?_
 rintro _ _ ⟨_, ⟨rfl, rfl⟩, rfl⟩
 refine Las rfl rfl (Lnt (Gs.ret ?_))
 exact Gs.fin1 Tryz.results111 rfl _ (⟨by rw [(less_cases a b).2 (Decidable.not_not.1 (of_decide_eq_false hc0))], rfl⟩) (by repeat constructor)
def ordR (a b : Rec) : Int := if lessR a b then -1 else if lessR b a then 1 else 0
theorem orderR_spec (a b : Rec) : Ct Tryz.prog 115 [recV a, recV b] [] (fun v hs => v = int (ordR a b) ∧ hs = []) := by
 refine Cti Tryz.func115 (by kernel_rfl) 13 Tryz.ntmps115 rfl rfl fun w0 R => ?_
 refine Gsr (La rfl (ac_box rfl rfl) ?_)
 rintro _ _ ⟨pb, rfl, rfl⟩
 refine La rfl (ac_box rfl rfl) ?_
 rintro _ _ ⟨qb, rfl, rfl⟩
 refine Las rfl rfl (Lnt (Gs.seq (Gs.block (Gsr (Lr rfl (rd_lda ag_32 rfl (Rdc.cl 5 (by repeat constructor) rfl) rfl) ?_)))))
 refine Lr rfl (rd_lda ag_32 rfl (Rdc.cl 5 (by repeat constructor) rfl) rfl) ?_
 refine La rfl (asC (recLess_spec a b)) ?_
 rintro _ _ ⟨_, ⟨rfl, rfl⟩, rfl⟩
 refine Las rfl rfl (Lnt (Gs.cond rfl (fun hc0 => ?_) (fun hc0 => ?_)))
 ·
  refine Gsr (Las rfl rfl (Lnt (Gs.ret (Gs.blk_r (Gr ?_)))))
  exact Gs.fin1 Tryz.results115 rfl _ (⟨by unfold ordR; rw [if_pos hc0], rfl⟩) (by repeat constructor)
 refine Gsr (Lr rfl (rd_lda ag_32 rfl (Rdc.cl 5 (by repeat constructor) rfl) rfl) ?_)
 refine Lr rfl (rd_lda ag_32 rfl (Rdc.cl 5 (by repeat constructor) rfl) rfl) ?_
 refine La rfl (asC (recLess_spec b a)) ?_
 rintro _ _ ⟨_, ⟨rfl, rfl⟩, rfl⟩
 refine Las rfl rfl (Lnt (Gs.cond rfl (fun hc1 => ?_) (fun hc1 => ?_)))
 ·
  refine Gsr (Las rfl rfl (Lnt (Gs.ret (Gs.blk_r (Gr ?_)))))
  exact Gs.fin1 Tryz.results115 rfl _ (⟨by unfold ordR; rw [if_neg (by rw [hc0]; decide), if_pos hc1], rfl⟩) (by repeat constructor)
 refine Gs.skip (Gs.blk_n (Gn (Gsr (Las rfl rfl (Lnt (Gs.ret ?_))))))
 exact Gs.fin1 Tryz.results115 rfl _ (⟨by unfold ordR; rw [if_neg (by rw [hc0]; decide), if_neg (by rw [hc1]; decide)], rfl⟩) (by repeat constructor)
def earlyB (r z : Rec) : Bool := decide (0 < z.q) && (lessR r z || (decide (r.key = z.key) && decide ((r.w, r.c) = (z.w, z.c))))
theorem early_spec (r z : Rec) : Ct Tryz.prog 64 [recV r, recV z] [] (fun v hs => v = .bool (earlyB r z) ∧ hs = []) := by
 refine Cti Tryz.func64 (by kernel_rfl) 28 Tryz.ntmps64 rfl rfl fun w0 R => ?_
 refine Gsr (La rfl (ac_box rfl rfl) ?_)
 rintro _ _ ⟨pb, rfl, rfl⟩
 refine La rfl (ac_box rfl rfl) ?_
 rintro _ _ ⟨qb, rfl, rfl⟩
 refine Las rfl rfl (Lnt (Gsr (Lq rfl (pu_fa fa_32_0 rfl) (Lq rfl (pu_fa fa_28_1 rfl) (Lr rfl (rd_ld na_3 rfl (Rdc.cl1 (by repeat constructor) rfl)) ?_)))))
 refine Lq rfl (pu_gt rfl rfl) (LpuB rfl rfl trivial (pu_move rfl) (fun hg4 => ?_) (fun hg4 => ?_))
 ·
  refine Lrd rfl rfl ⟨_, rfl, rfl⟩ (rd_lda ag_32 rfl (Rdc.cl 5 (by repeat constructor) rfl) rfl) ?_
  refine Lrd rfl rfl ⟨_, rfl, rfl⟩ (rd_lda ag_32 rfl (Rdc.cl 5 (by repeat constructor) rfl) rfl) ?_
  refine Lac rfl rfl ⟨_, rfl, rfl⟩ (asC (recLess_spec r z)) ?_
  rintro _ _ ⟨_, ⟨rfl, rfl⟩, rfl⟩
  refine LpuB rfl rfl ⟨_, rfl, rfl⟩ (pu_move rfl) (fun hg8 => ?_) (fun hg8 => ?_)
  ·
   refine Lof rfl (Lof rfl (Lof rfl (Lof rfl (Lof rfl (Lof rfl (LoffU rfl rfl rfl rfl rfl (LoffU rfl rfl rfl rfl rfl (LoffU rfl rfl rfl rfl rfl (LoffU rfl rfl rfl rfl rfl (LoffU rfl rfl rfl rfl rfl (Lof rfl ?_)))))))))))
   refine Lpu rfl rfl ⟨_, rfl, rfl⟩ (by first | exact pu_pick_t rfl rfl | exact pu_pick_f rfl rfl) ?_
   refine Lpk rfl rfl rfl (Las rfl rfl (Lnt (Gs.ret ?_)))
   exact Gs.fin1 Tryz.results64 rfl _ (⟨by
     unfold earlyB
     first
       | rw [hg4, hg8, hg14, Bool.true_and, Bool.false_or, Bool.true_and]
       | rw [hg4, hg8, hg14, Bool.true_and, Bool.false_or, Bool.false_and]
       | rw [hg4, hg8, Bool.true_and, Bool.true_or]
       | rw [hg4, Bool.false_and], rfl⟩) (by repeat constructor)
  refine Lpu rfl rfl ⟨_, rfl, rfl⟩ (pu_fa fa_32_0 rfl) (Lrd rfl rfl ⟨_, rfl, rfl⟩ (rd_lda ag_28 rfl (Rdc.cl 2 (by repeat constructor) rfl) rfl) ?_)
  refine Lpu rfl rfl ⟨_, rfl, rfl⟩ (pu_fa fa_32_0 rfl) (Lrd rfl rfl ⟨_, rfl, rfl⟩ (rd_lda ag_28 rfl (Rdc.cl 2 (by repeat constructor) rfl) rfl) ?_)
  refine Lpu rfl rfl ⟨_, rfl, rfl⟩ (pu_eqT (a := r.key) (b := z.key) cmp_28 (by decide) Tryz.eqGuardType28 rfl rfl) ?_
  refine LpuB rfl rfl ⟨_, rfl, rfl⟩ (pu_move rfl) (fun hg14 => ?_) (fun hg14 => ?_)
  ·
   refine Lpu rfl rfl ⟨_, rfl, rfl⟩ (pu_fa fa_32_1 rfl) (Lrd rfl rfl ⟨_, rfl, rfl⟩ (rd_lda ag_30 rfl (Rdc.cl 2 (by repeat constructor) rfl) rfl) ?_)
   refine Lpu rfl rfl ⟨_, rfl, rfl⟩ (pu_fa fa_32_1 rfl) (Lrd rfl rfl ⟨_, rfl, rfl⟩ (rd_lda ag_30 rfl (Rdc.cl 2 (by repeat constructor) rfl) rfl) ?_)
   refine Lpu rfl rfl ⟨_, rfl, rfl⟩ (pu_eqT (a := (r.w, r.c)) (b := (z.w, z.c)) cmp_30 (by decide) Tryz.eqGuardType30 rfl rfl) ?_
   refine Lpu rfl rfl ⟨_, rfl, rfl⟩ (by first | exact pu_pick_t rfl rfl | exact pu_pick_f rfl rfl) ?_
   refine Lpu rfl rfl ⟨_, rfl, rfl⟩ (by first | exact pu_pick_t rfl rfl | exact pu_pick_f rfl rfl) ?_
   refine Lpk rfl rfl rfl (Las rfl rfl (Lnt (Gs.ret ?_)))
   exact Gs.fin1 Tryz.results64 rfl _ (⟨by
     unfold earlyB
     first
       | rw [hg4, hg8, hg14, Bool.true_and, Bool.false_or, Bool.true_and]
       | rw [hg4, hg8, hg14, Bool.true_and, Bool.false_or, Bool.false_and]
       | rw [hg4, hg8, Bool.true_and, Bool.true_or]
       | rw [hg4, Bool.false_and], rfl⟩) (by repeat constructor)
  refine Lof rfl (Lof rfl (Lof rfl (Lof rfl (Lof rfl (Lpu rfl rfl ⟨_, rfl, rfl⟩ (by first | exact pu_pick_t rfl rfl | exact pu_pick_f rfl rfl) ?_)))))
  refine Lpu rfl rfl ⟨_, rfl, rfl⟩ (by first | exact pu_pick_t rfl rfl | exact pu_pick_f rfl rfl) ?_
  refine Lpk rfl rfl rfl (Las rfl rfl (Lnt (Gs.ret ?_)))
  exact Gs.fin1 Tryz.results64 rfl _ (⟨by
    unfold earlyB
    first
      | rw [hg4, hg8, hg14, Bool.true_and, Bool.false_or, Bool.true_and]
      | rw [hg4, hg8, hg14, Bool.true_and, Bool.false_or, Bool.false_and]
      | rw [hg4, hg8, Bool.true_and, Bool.true_or]
      | rw [hg4, Bool.false_and], rfl⟩) (by repeat constructor)
 refine Lof rfl (Lof rfl (Lof rfl (Lof rfl (LoffU rfl rfl rfl rfl rfl (LoffU rfl rfl rfl rfl rfl (LoffU rfl rfl rfl rfl rfl (LoffU rfl rfl rfl rfl rfl (LoffU rfl rfl rfl rfl rfl (LoffU rfl rfl rfl rfl rfl (LoffU rfl rfl rfl rfl rfl (LoffU rfl rfl rfl rfl rfl ?_)))))))))))
 refine LoffU rfl rfl rfl rfl rfl (LoffU rfl rfl rfl rfl rfl (LoffU rfl rfl rfl rfl rfl (LoffU rfl rfl rfl rfl rfl (Lof rfl (Lpk rfl rfl rfl (Las rfl rfl (Lnt (Gs.ret ?_))))))))
 exact Gs.fin1 Tryz.results64 rfl _ (⟨by
   unfold earlyB
   first
     | rw [hg4, hg8, hg14, Bool.true_and, Bool.false_or, Bool.true_and]
     | rw [hg4, hg8, hg14, Bool.true_and, Bool.false_or, Bool.false_and]
     | rw [hg4, hg8, Bool.true_and, Bool.true_or]
     | rw [hg4, Bool.false_and], rfl⟩) (by repeat constructor)
end Go.Proofs.YtklgiidfompdpaaGreatDoor
namespace Go.Proofs
open Go.Shelf
namespace YtklgiidfompdpaaGreatDoor
open Go Go.Sl Go.Gv Go.Kv Go.Po Go.Ix Go.Qu Go.RowKit
set_option maxRecDepth 100000
def TabY (h0 : Hp) : Prop := TabX h0 ∧ ∀ w, Hp.le h0 w → Lib.TabIs Tryz.prog w "internal/strconv.uint64pow10" .u64 Lib.pow10Tab
def TabW (U : HProp) : Prop := ∃ h0, TabY h0 ∧ Inn (Sl.ro h0) U
theorem TabW.u {U : HProp} (h : TabW U) : TabU U := let ⟨h0, T, i⟩ := h; ⟨h0, T.1, i⟩
theorem TabW.ct {U : HProp} (h : TabW U) {f : FuncId} {args : List Value} {x : Value} (c : ∀ h0, TabY h0 → Ct Tryz.prog f args [Sl.ro h0] (fun v hs => v = x ∧ hs = [Sl.ro h0])) : Ct Tryz.prog f args [U] (fun v hs => v = x ∧ hs = [U]) := by
 obtain ⟨h0, T, i⟩ := h
 exact (c h0 T).inn0 i
theorem TabW.inn {U V : HProp} (h : TabW U) (i : Inn U V) : TabW V := let ⟨h0, T, j⟩ := h; ⟨h0, T, j.trans i⟩
abbrev itS (n : Int) : ByteArray := ⟨(Lib.itoa n).toArray⟩
abbrev i64in (n : Int) : Prop := -9223372036854775808 ≤ n ∧ n ≤ 9223372036854775807
theorem itS_size {n : Int} (h : i64in n) : (itS n).size ≤ 21 := by
 have := Lib.itoa_length_le n h.1 h.2
 show (Lib.itoa n).toArray.size ≤ 21
 rw [List.size_toArray]; exact this
theorem itoaY_spec {h0 : Hp} (T : TabY h0) (n : Int) (h : i64in n) : Ct Tryz.prog 155 [int n] [ro h0] (fun v hs => v = .string (itS n) ∧ hs = [ro h0]) :=
 Ct.ofBelow Tryz.func155 rfl (by kernel_rfl) (V := fun _ => .string (itS n)) (fun w0 w R st => (Any.strconv_Itoa Tryz.laysItoa n h.1 h.2 w (T.2 w (Sat.ro st))).mono fun e w' ⟨h1, k, os, h2⟩ => ⟨h1, by
   rw [h2]
   refine ⟨rfl, rfl, rfl, ?_, fun j hj => ?_⟩
   · show w.heap.size ≤ (w.heap ++ os).size
     rw [Array.size_append]; omega
   · show (w.heap ++ os)[j]? = w.heap[j]?
     rw [Array.getElem?_append_left hj]⟩) (fun _ => ⟨rfl, rfl⟩)
theorem jextra : Builder.Extra Tryz.prog Tryz.laysJoin_ren where
 sizeBuilder := by kernel_rfl
 liesBuilder := by kernel_rfl
 t5 := Tryz.underlying5
 a5 := Tryz.isAgg5
 z5 := Tryz.sizeOf5
 v5 := Tryz.zeroValue5
 infoByte := by kernel_rfl
 cellsByte := by kernel_rfl
 sizeByte := by kernel_rfl
 neB5 := by decide
abbrev jnS (xs : List ByteArray) (sep : ByteArray) : ByteArray := ⟨(Lib.join (xs.map (·.data.toList)) sep.data.toList).toArray⟩
theorem join_spec {S : HProp} {a : Option Addr} {c : Nat} {xs : List ByteArray} (hS : Srd S 1 strC a xs) (hne : xs ≠ []) (hc : xs.length ≤ c) (hN : xs.length ≤ 1000) (sep : ByteArray) (hlen : (Lib.join (xs.map (·.data.toList)) sep.data.toList).length ≤ 140737488355328) :
   Ct Tryz.prog 156 [.slice a xs.length c, .string sep] [S] (fun v hs => v = .string (jnS xs sep) ∧ hs = [S]) :=
 Ct.ofBelow Tryz.func156 rfl (by kernel_rfl) (V := fun _ => .string (jnS xs sep)) (fun w0 w R st => by
   obtain ⟨b, off, rfl, hx⟩ := (hS.h .hd : SlH w0 ([S] ++ R) 1 strC a xs) w st hne
   have hcells : ∀ (j : Nat) x, xs[j]? = some x → w.cell? ⟨b, off + j, none⟩ = some (.string x) := fun j x hj => by
     have := hx j x hj 0 (.string x) rfl
     simpa using this
   obtain ⟨x0, hx0⟩ : ∃ x, xs[0]? = some x := ⟨xs[0]'(List.length_pos_iff.2 hne), by simp [List.length_pos_iff.2 hne]⟩
   exact Any.strings_Join Tryz.laysJoin jextra b off c xs sep w hcells (World.block_lt_of_cell? w _ (hcells 0 x0 hx0)) (by omega) hc hlen) (fun _ => ⟨rfl, rfl⟩)
abbrev quC (x : AskV) (lim : Int) (z : Rec) : List Value := [int x.kind, int x.n, .slice x.w.a x.w.xs.length x.w.c, .slice x.sa x.ss.length x.sc, int lim, int z.o, int z.q, int z.w, int z.c, .string z.t]
abbrev quV (x : AskV) (lim : Int) (z : Rec) : Value := .agg (quC x lim z).toArray
def aftB (z : Rec) : Bool := decide (z = Rec.zero) || (decide (z.t = ⟨#[]⟩) && recB z)
def okQ (lim : Int) (z : Rec) : Bool := (decide (1 ≤ lim) && decide (lim ≤ 50)) && aftB z
theorem mayQuery_spec {S : HProp} (hT : TabU S) {d : Nat} {x : AskV} (hA : ARd S x) (hF : FewA d x) (hz : sizeA d x ≤ 1000) (hd : d ≤ 1000) (lim : Int) (z : Rec) :
   Ct Tryz.prog 153 [quV x lim z] [S] (fun v hs => v = .bool (mayA d x && okQ lim z) ∧ hs = [S]) := by
 obtain ⟨v0, hv0⟩ : ∃ v0, v0 = (mayA d x && okQ lim z) := ⟨_, rfl⟩
 have hv := hv0
 unfold okQ at hv
 obtain ⟨av, hav⟩ : ∃ av, av = aftB z := ⟨_, rfl⟩
 rw [← hav] at hv
 unfold aftB at hav
 rw [← hv0]
 refine Cti Tryz.func153 (by kernel_rfl) 35 Tryz.ntmps153 rfl rfl fun w0 R => ?_
 refine Gsr (La rfl (ac_box rfl rfl) ?_)
 rintro _ _ ⟨qb, rfl, rfl⟩
 refine Las rfl rfl (Lnt (Gs.seq (Gs.cut (E := [(1, ptr qb), (3, .bool av)]) (I := [cl qb 34 (quC x lim z), S] ++ R) ?_ ?_)))
 ·
  refine Gs.reg (Lq rfl (pu_fa fa_34_2 rfl) (Lr rfl (rd_lda ag_32 rfl (Rdc.cl 5 (by repeat constructor) rfl) rfl) ?_))
  refine Lq rfl (pu_build bd_32 (by repeat constructor) rfl) ?_
  refine Lq rfl (pu_eqT (a := z) (b := Rec.zero) cmp_32 (by decide) Tryz.eqGuardType32 rfl rfl) ?_
  refine LpuB rfl rfl trivial (pu_move rfl) (fun hg4 => ?_) (fun hg4 => ?_)
  ·
   have e4 : decide (z = Rec.zero) = true := hg4
   rw [e4, Bool.true_or] at hav
   refine Lof rfl (Lof rfl (Lof rfl (Lof rfl (Lof rfl (LoffU rfl rfl rfl rfl rfl (LoffU rfl rfl rfl rfl rfl (LoffU rfl rfl rfl rfl rfl (Lof rfl (Lpk rfl rfl rfl (Las rfl rfl (Lnt ?_)))))))))))
   subst hav
   exact Gs.cutEnd (by repeat constructor) (by repeat constructor)
  have e4 : decide (z = Rec.zero) = false := hg4
  rw [e4, Bool.false_or] at hav
  refine Lpu rfl rfl ⟨_, rfl, rfl⟩ (pu_fa fa_34_2 rfl) (Lpu rfl rfl ⟨_, rfl, rfl⟩ (pu_fa fa_32_2 rfl) (Lrd rfl rfl ⟨_, rfl, rfl⟩ (rd_ld na_9 rfl (Rdc.cl1 (by repeat constructor) rfl)) ?_))
  refine Lpu rfl rfl ⟨_, rfl, rfl⟩ (pu_eqS rfl rfl) (LpuB rfl rfl ⟨_, rfl, rfl⟩ (pu_move rfl) (fun hg9 => ?_) (fun hg9 => ?_))
  ·
   have e9 : decide (z.t = ⟨#[]⟩) = true := hg9
   rw [e9, Bool.true_and] at hav
   refine Lpu rfl rfl ⟨_, rfl, rfl⟩ (pu_fa fa_34_2 rfl) (Lrd rfl rfl ⟨_, rfl, rfl⟩ (rd_lda ag_32 rfl (Rdc.cl 5 (by repeat constructor) rfl) rfl) ?_)
   refine Lac rfl rfl ⟨_, rfl, rfl⟩ (asC (hT.ct (fun h0 T => recMay_spec T.1 z))) ?_
   rintro _ _ ⟨_, ⟨rfl, rfl⟩, rfl⟩
   refine Lpu rfl rfl ⟨_, rfl, rfl⟩ (by first | exact pu_pick_t rfl rfl | exact pu_pick_f rfl rfl) ?_
   refine Lpk rfl rfl rfl (Las rfl rfl (Lnt ?_))
   subst hav
   exact Gs.cutEnd (by repeat constructor) (by repeat constructor)
  have e9 : decide (z.t = ⟨#[]⟩) = false := hg9
  rw [e9, Bool.false_and] at hav
  refine Lof rfl (Lof rfl (Lof rfl (Lpu rfl rfl ⟨_, rfl, rfl⟩ (by first | exact pu_pick_t rfl rfl | exact pu_pick_f rfl rfl) ?_)))
  refine Lpk rfl rfl rfl (Las rfl rfl (Lnt ?_))
  subst hav
  exact Gs.cutEnd (by repeat constructor) (by repeat constructor)
 refine Gsr (Lq rfl (pu_fa fa_34_0 rfl) (Lr rfl (rd_lda ag_26 rfl (Rdc.cl 4 (by repeat constructor) rfl) rfl) ?_))
 refine La rfl (asC (mayA_spec hT hA hF hz hd)) ?_
 rintro _ _ ⟨_, ⟨rfl, rfl⟩, rfl⟩
 refine LpuB rfl rfl trivial (pu_move rfl) (fun hg3 => ?_) (fun hg3 => ?_)
 ·
  have e3 : mayA d x = true := hg3
  refine Lpu rfl rfl ⟨_, rfl, rfl⟩ (pu_fa fa_34_1 rfl) (Lrd rfl rfl ⟨_, rfl, rfl⟩ (rd_ld na_3 rfl (Rdc.cl1 (by repeat constructor) rfl)) ?_)
  refine Lpu rfl rfl ⟨_, rfl, rfl⟩ (pu_ge rfl rfl) (Lpk rfl rfl rfl (LpuB rfl rfl trivial (pu_move rfl) (fun hg8 => ?_) (fun hg8 => ?_)))
  ·
   have e8 : decide (1 ≤ lim) = true := hg8
   refine Lpu rfl rfl ⟨_, rfl, rfl⟩ (pu_fa fa_34_1 rfl) (Lrd rfl rfl ⟨_, rfl, rfl⟩ (rd_ld na_3 rfl (Rdc.cl1 (by repeat constructor) rfl)) ?_)
   refine Lpu rfl rfl ⟨_, rfl, rfl⟩ (pu_le rfl rfl) (Lpk rfl rfl rfl (LpuB rfl rfl trivial (pu_move rfl) (fun hg13 => ?_) (fun hg13 => ?_)))
   ·
    have e13 : decide (lim ≤ 50) = true := hg13
    refine Lpu rfl rfl ⟨_, rfl, rfl⟩ (pu_move rfl) (Lpk rfl rfl rfl (Las rfl rfl (Lnt (Gs.ret ?_))))
    exact Gs.fin1 Tryz.results153 rfl _ (⟨by
      rw [hv]
      first
        | rw [e3, e8, e13, hav]; rfl
        | rw [e3, e8, e13]; rfl
        | rw [e3, e8]; rfl
        | rw [e3]; rfl, rfl⟩) (by repeat constructor)
   have e13 : decide (lim ≤ 50) = false := hg13
   refine Lof rfl (Lpk rfl rfl rfl (Las rfl rfl (Lnt (Gs.ret ?_))))
   exact Gs.fin1 Tryz.results153 rfl _ (⟨by
     rw [hv]
     first
       | rw [e3, e8, e13, hav]; rfl
       | rw [e3, e8, e13]; rfl
       | rw [e3, e8]; rfl
       | rw [e3]; rfl, rfl⟩) (by repeat constructor)
  have e8 : decide (1 ≤ lim) = false := hg8
  refine Lof rfl (Lof rfl (Lof rfl (Lpk rfl rfl rfl (Lmv rfl rfl (Lof rfl (Lpk rfl rfl rfl (Las rfl rfl (Lnt (Gs.ret ?_)))))))))
  exact Gs.fin1 Tryz.results153 rfl _ (⟨by
    rw [hv]
    first
      | rw [e3, e8, e13, hav]; rfl
      | rw [e3, e8, e13]; rfl
      | rw [e3, e8]; rfl
      | rw [e3]; rfl, rfl⟩) (by repeat constructor)
 have e3 : mayA d x = false := hg3
 refine Lof rfl (Lof rfl (Lof rfl (Lpk rfl rfl rfl (Lmv rfl rfl (Lof rfl (Lof rfl (Lof rfl (Lpk rfl rfl rfl (Lmv rfl rfl (Lof rfl (Lpk rfl rfl rfl ?_)))))))))))
 refine Las rfl rfl (Lnt (Gs.ret ?_))
 exact Gs.fin1 Tryz.results153 rfl _ (⟨by
   rw [hv]
   first
     | rw [e3, e8, e13, hav]; rfl
     | rw [e3, e8, e13]; rfl
     | rw [e3, e8]; rfl
     | rw [e3]; rfl, rfl⟩) (by repeat constructor)
abbrev ask4 : AskV := .mk 4 0 ⟨none, [], 0⟩ none 0 []
theorem ask4_rd (S : HProp) : ARd S ask4 := .mk (fun _ _ _ _ _ _ h => (h rfl).elim) (fun _ _ _ _ _ _ h => (h rfl).elim) ⟨Nat.zero_le _, Nat.zero_le _⟩ fun x h => by cases h
theorem ask4_few : FewA 1 ask4 := ⟨Nat.zero_le _, fun w h => (by cases h), Nat.zero_le _, fun x h => by cases h⟩
theorem ask4_may : mayA 1 ask4 = true := by
 unfold mayA goodA
 rfl
theorem write4_spec {S : HProp} (hT : TabW S) : Ct Tryz.prog 154 [askV ask4] [S] (fun v hs => (∃ s, v = .string s ∧ s.size ≤ 30) ∧ hs = [S]) := by
 refine Cti Tryz.func154 (by kernel_rfl) 73 Tryz.ntmps154 rfl rfl fun w0 R => ?_
 refine Gsr (La rfl (ac_box rfl rfl) ?_)
 rintro _ _ ⟨xb, rfl, rfl⟩
 refine Las rfl rfl (Lnt (Gsr (Las rfl rfl (Lnt (Gs.seq (Gsr (Lq rfl (pu_fa fa_26_3 rfl) (Lr rfl (rd_ld na_24 rfl (Rdc.cl1 (by repeat constructor) rfl)) ?_))))))))
 refine Lq rfl (pu_len Tryz.underlying24 rfl) (Lmv rfl rfl (Lnt (Gs.block (Gs.loop1 (fun _ : Nat => True) (fun _ => [(1, ptr xb), (3, .slice none 0 0), (8, int 0), (9, int 0)]) (fun _ => [cl xb 26 (askC ask4), S] ++ R) (fun i => i) 0 (trivial) (by repeat constructor) (by repeat constructor) (fun i _ => ?_)))))
 refine Gsr (Lq rfl (pu_lt rfl rfl) (Lnt (Gs.seq (Gs.cond_ff rfl (by decide) ?_))))
 refine Gs.exit (Gx (Gx (Gs.blk_hit (Gn (Gs.seq (Gsr (Lq rfl (pu_fa fa_26_0 rfl) (Lr rfl (rd_ld na_3 rfl (Rdc.cl1 (by repeat constructor) rfl)) ?_))))))))
 refine Lnt (Gs.block (Gsr (Lq rfl (pu_eq rfl rfl) (Las rfl rfl (Lnt (Gs.cond_ff rfl (by decide) ?_))))))
 refine Gsr (Lq rfl (pu_eq rfl rfl) (Las rfl rfl (Lnt (Gs.cond_ff rfl (by decide) ?_))))
 refine Gsr (Lq rfl (pu_eq rfl rfl) (Las rfl rfl (Lnt (Gs.cond_ff rfl (by decide) ?_))))
 refine Gsr (Lq rfl (pu_eq rfl rfl) (Las rfl rfl (Lnt (Gs.cond_tt rfl (by decide) ?_))))
 refine Gsr (Lq rfl (pu_fa fa_26_1 rfl) (Lr rfl (rd_ld na_3 rfl (Rdc.cl1 (by repeat constructor) rfl)) ?_))
 refine La rfl (asC (hT.ct (fun h0 T => itoaY_spec T 0 ⟨by decide, by decide⟩))) ?_
 rintro _ _ ⟨_, ⟨rfl, rfl⟩, rfl⟩
 refine Lq rfl (pu_addS (by have h9 := itS_size (n := 0) ⟨by decide, by decide⟩; show 5 + (itS 0).size ≤ _; omega) rfl rfl) ?_
 refine Las rfl rfl (Lnt (Gs.ret (Gs.blk_r (Gr ?_))))
 exact Gs.fin1 Tryz.results154 rfl _ (⟨⟨_, rfl, by
   have h9 := itS_size (n := 0) ⟨by decide, by decide⟩
   rw [ByteArray.size_append]
   show 5 + (itS 0).size ≤ 30
   omega⟩, rfl⟩) (by repeat constructor)
theorem aft_in {z : Rec} (h : aftB z = true) : i64in z.w ∧ i64in z.c ∧ i64in z.o ∧ i64in z.q := by
 unfold aftB at h
 rw [Bool.or_eq_true, decide_eq_true_iff] at h
 rcases h with h | h
 · subst h; exact ⟨⟨by decide, by decide⟩, ⟨by decide, by decide⟩, ⟨by decide, by decide⟩, ⟨by decide, by decide⟩⟩
 · have e1 : z.key.o = z.o := rfl
   have e2 : z.key.q = z.q := rfl
   simp only [Bool.and_eq_true, recB, keyB, stampB, inB, decide_eq_true_eq] at h
   rw [e1, e2] at h
   omega
theorem write_spec {S : HProp} (hT : TabW S) (lim : Int) (z : Rec) :
   Ct Tryz.prog 110 [quV ask4 lim z] [S] (fun v hs => (∃ s e, v = .tuple #[.string s, int e] ∧ decide (e = 0) = okQ lim z) ∧ hs = [S]) := by
 refine Cti Tryz.func110 (by kernel_rfl) 59 Tryz.ntmps110 rfl rfl fun w0 R => ?_
 refine Gsr (La rfl (ac_box rfl rfl) ?_)
 rintro _ _ ⟨qb, rfl, rfl⟩
 refine Las rfl rfl (Las rfl rfl (Lnt (Gs.seq (Gsr (Lr rfl (rd_lda ag_34 rfl (Rdc.cl 10 (by repeat constructor) rfl) rfl) ?_)))))
 refine La rfl (asC (mayQuery_spec hT.u (ask4_rd S) ask4_few (by decide) (by decide) lim z)) ?_
 rintro _ _ ⟨_, ⟨rfl, rfl⟩, rfl⟩
 rw [ask4_may, Bool.true_and]
 refine Lq rfl (pu_not rfl) (Lnt (Gs.cond rfl (fun hc0 => ?_) (fun hc0 => ?_)))
 ·
  have hno : okQ lim z = false := by simpa using hc0
  refine Gsr (Las rfl rfl (Las rfl rfl (Lnt (Gs.ret (Gr ?_)))))
  exact Gs.fin2 Tryz.results110 rfl rfl _ (⟨⟨_, 2, rfl, by rw [hno]; rfl⟩, rfl⟩) (by repeat constructor)
 have hyes : okQ lim z = true := by simpa using hc0
 have hlm : 1 ≤ lim ∧ lim ≤ 50 := by
   unfold okQ at hyes
   simp only [Bool.and_eq_true, decide_eq_true_eq] at hyes
   exact hyes.1
 have haf : aftB z = true := by
   unfold okQ at hyes
   rw [Bool.and_eq_true] at hyes
   exact hyes.2
 obtain ⟨iw, ic, io, iq⟩ := aft_in haf
 have il : i64in lim := ⟨by omega, by omega⟩
 have zl := itS_size il
 refine Gs.skip (Gn (Gs.seq (Gs.regD mixed (by kernel_rfl) (Rq 0 rfl (by kernel_rfl) (pu_fa fa_34_0 rfl) (Rr 1 rfl (by kernel_rfl) (rd_lda ag_26 rfl (Rdc.cl 4 (by repeat constructor) rfl) rfl) ?_)))))
 refine Rq 4 rfl (by kernel_rfl) (pu_fa fa_34_1 rfl) (Rr 5 rfl (by kernel_rfl) (rd_ld na_3 rfl (Rdc.cl1 (by repeat constructor) rfl)) ?_)
 refine Rg.one (by kernel_rfl) (Stp.acR 2 [5] rfl rfl (by kernel_rfl) trivial (asC (write4_spec hT)) (by rintro _ _ ⟨_, ⟨⟨s0, rfl, hs0⟩, rfl⟩, rfl⟩; exact (Reads.cons rfl rfl rfl trivial rfl (rd_ld na_3 rfl (Rdc.cl1 (by repeat constructor) rfl)) Reads.nil)) ?_)
 rintro _ _ ⟨_, ⟨⟨s0, rfl, hs0⟩, rfl⟩, rfl⟩
 refine Rq 3 rfl (by kernel_rfl) (pu_addS (by show s0.size + 7 ≤ _; omega) rfl rfl) ?_
 refine Rg.one (by kernel_rfl) (Stp.ac 6 rfl rfl (by kernel_rfl) trivial (asC (hT.ct (fun h0 T => itoaY_spec T lim il)))  ?_)
 rintro _ _ ⟨_, ⟨rfl, rfl⟩, rfl⟩
 refine Rq 7 rfl (by kernel_rfl) (pu_addS (by rw [ByteArray.size_append]; show s0.size + 7 + (itS lim).size ≤ _; omega) rfl rfl) ?_
 refine Rq 8 rfl (by kernel_rfl) (pu_assign rfl) (Rg.end (by kernel_rfl) ?_)
 obtain ⟨s1, hs1⟩ : ∃ s1, s1 = s0 ++ ⟨#[32, 108, 105, 109, 105, 116, 58]⟩ ++ itS lim := ⟨_, rfl⟩
 have hs1l : s1.size ≤ 60 := by rw [hs1, ByteArray.size_append, ByteArray.size_append]; show s0.size + 7 + (itS lim).size ≤ 60; omega
 rw [← hs1]
 refine Gn (Gs.seq (Gsr (Lq rfl (pu_fa fa_34_2 rfl) (Lr rfl (rd_lda ag_32 rfl (Rdc.cl 5 (by repeat constructor) rfl) rfl) ?_))))
 refine La rfl (ac_alloc zv_32 rfl) ?_
 rintro _ _ ⟨zb, rfl, rfl⟩
 refine Lac0 rfl trivial (ac_st sz_32 rfl rfl (by repeat constructor) rfl rfl rfl rfl) ?_
 rintro _ _ rfl
 refine Lnt (Gsr (Lq rfl (pu_fa fa_32_0 rfl) (Lq rfl (pu_fa fa_28_1 rfl) (Lr rfl (rd_ld na_3 rfl (Rdc.cl1 (by repeat constructor) rfl)) ?_))))
 refine Lq rfl (pu_gt rfl rfl) (Lnt (Gs.cond rfl (fun hc1 => ?_) (fun hc1 => ?_)))
 ·
  refine Gsr (Las rfl rfl (Lnil (Gs.slNil 9 1 strC (Gn (Gs.seq (Gsr (Lq rfl (pu_fa fa_32_1 rfl) (Lq rfl (pu_fa fa_30_0 rfl) (Lr rfl (rd_ld na_3 rfl (Rdc.cl1 (by repeat constructor) rfl)) ?_)))))))))
  refine Lq rfl (pu_fa fa_32_1 rfl) (Lq rfl (pu_fa fa_30_1 rfl) (Lr rfl (rd_ld na_3 rfl (Rdc.cl1 (by repeat constructor) rfl)) ?_))
  refine Lq rfl (pu_fa fa_32_0 rfl) (Lq rfl (pu_fa fa_28_0 rfl) (Lr rfl (rd_ld na_3 rfl (Rdc.cl1 (by repeat constructor) rfl)) ?_))
  refine Lq rfl (pu_fa fa_32_0 rfl) (Lq rfl (pu_fa fa_28_1 rfl) (Lr rfl (rd_ld na_3 rfl (Rdc.cl1 (by repeat constructor) rfl)) ?_))
  refine La rfl (ac_lit encC_3 ([z.w, z.c, z.o, z.q]) et_99 ek_3 rfl (by repeat constructor) rfl rfl (by decide)) ?_
  rintro _ _ ⟨a38, rfl, rfl⟩
  refine Lq rfl (pu_len Tryz.underlying99 rfl) (Lmv rfl rfl (Lnt (Gs.block (Gs.loop1 (fun s : Nat × (Option Addr × Nat) × List ByteArray => s.1 ≤ 4 ∧ s.2.2 = ([z.w, z.c, z.o, z.q].take s.1).map itS) (fun s => [(4, .string s1), (6, .slice s.2.1.1 s.2.2.length s.2.1.2), (38, .slice (some ⟨a38, 0, none⟩) 4 4), (39, int 4), (40, int s.1)]) (fun s => [S, sl 3 1 intC (some ⟨a38, 0, none⟩) 4 [z.w, z.c, z.o, z.q], sl 9 1 strC s.2.1.1 s.2.1.2 s.2.2] ++ R) (fun s => 4 - s.1) (0, (none, 0), []) (⟨Nat.zero_le _, rfl⟩) (by repeat constructor) (by repeat constructor) (fun s hs => ?_)))))
  obtain ⟨i, ⟨oa, oc⟩, O⟩ := s
  obtain ⟨hi, hO⟩ := hs
  dsimp only at hi hO ⊢
  have hOl : O.length = i := by rw [hO, List.length_map, List.length_take]; show min i 4 = i; omega
  refine Gsr (Lq rfl (pu_lt rfl rfl) (Lnt (Gs.seq (Gs.cond rfl (fun hc2 => ?_) (fun hc2 => ?_)))))
  ·
   have hlt : i < 4 := by have := of_decide_eq_true hc2; omega
   obtain ⟨n, hn⟩ : ∃ n, [z.w, z.c, z.o, z.q][i]? = some n := ⟨[z.w, z.c, z.o, z.q][i]'hlt, List.getElem?_eq_getElem hlt⟩
   have inn : i64in n := by
     have hm := List.mem_of_getElem? hn
     simp only [List.mem_cons, List.not_mem_nil, or_false] at hm
     rcases hm with rfl | rfl | rfl | rfl
     · exact iw
     · exact ic
     · exact io
     · exact iq
   have hsn : O ++ [itS n] = ([z.w, z.c, z.o, z.q].take (i + 1)).map itS := by rw [List.take_add_one, hn, List.map_append, hO]; rfl
   refine Gs.skip (Gn (Gs.seq (Gs.block (Gsr (Lq rfl (pu_ia se_99 rfl rfl (by omega) (by omega)) (Lr rfl (rd_ld na_3 rfl (Rdc.el0 (SlH.own (xs := [z.w, z.c, z.o, z.q]) (E := 3) (enc := intC) (sz := 1) (by repeat constructor)) hn rfl rfl)) ?_))))))
   refine Las rfl rfl (Lnt (Gs.reg (Lmv rfl rfl (Lmv rfl rfl (La rfl (asC (hT.ct (fun h0 T => itoaY_spec T n inn))) ?_)))))
   rintro _ _ ⟨_, ⟨rfl, rfl⟩, rfl⟩
   refine La rfl (ac_lit encC_9 ([itS n]) et_23 ek_9 rfl (by repeat constructor) rfl rfl (by decide)) ?_
   rintro _ _ ⟨a47, rfl, rfl⟩
   refine La rfl (ac_append (xs := O) (ys := [itS n]) et_23 ek_9 rfl rfl (by repeat constructor) (SrcH.sl Tryz.underlying23 ek_9 (SlH.own (by repeat constructor))) (by first | omega | (simp; omega)) (by first | omega | (simp; omega))) ?_
   rintro _ _ ⟨a48, c48, rfl, rfl⟩
   refine Las rfl rfl (Lnil (Gs.blk_n (Gn (Gs.reg (Lq rfl (by first | exact pu_addI rfl rfl rfl (by omega) (by omega) | exact pu_add rfl rfl) ?_)))))
   refine Lmv rfl rfl (Lnt ?_)
   exact Ag (i + 1, (a48, c48), O ++ [itS n]) ⟨hlt, hsn⟩ (by show 4 - (i + 1) < 4 - i; omega)
  have hge : i = 4 := by have := of_decide_eq_false hc2; omega
  subst hge
  have hO4 : O = [itS z.w, itS z.c, itS z.o, itS z.q] := hO
  refine Gs.slLen (E := 9) (sz := 1) (enc := strC) (a := oa) (c := oc) (xs := O) (by repeat constructor) fun hlc => ?_
  have hj : (Lib.join (O.map (·.data.toList)) [46]).length ≤ 87 := by
    rw [hO4, List.map_cons, Lib.join_length]
    have e1 := itS_size iw
    have e2 := itS_size ic
    have e3 := itS_size io
    have e4 := itS_size iq
    have g : ∀ n, (itS n).size = (Lib.itoa n).length := fun n => by show (Lib.itoa n).toArray.size = _; rw [List.size_toArray]
    rw [g] at e1 e2 e3 e4
    have f : ∀ s : ByteArray, s.data.toList.length = s.size := fun s => by simp
    simp only [List.map_cons, List.map_nil, List.length_cons, List.length_nil, Lib.lens, f]
    simp only [List.map_cons, List.map_nil, List.sum_cons, List.sum_nil, f, g]
    omega
  have hjs : (jnS O ⟨#[46]⟩).size ≤ 87 := by show (Lib.join (O.map (·.data.toList)) [46]).toArray.size ≤ 87; rw [List.size_toArray]; exact hj
  refine Gs.exit (Gx (Gx (Gs.blk_hit (Gn (Gs.reg (Lmv rfl rfl (Lmv rfl rfl (La rfl (asC (join_spec (S := sl 9 1 strC oa oc O) (a := oa) (c := oc) Srd.own (by rw [hO4]; exact List.cons_ne_nil _ _) hlc (by omega) ⟨#[46]⟩ (Nat.le_trans hj (by decide)))) ?_))))))))
  rintro _ _ ⟨_, ⟨rfl, rfl⟩, rfl⟩
  refine Lq rfl (pu_addS (by show 7 + (jnS O ⟨#[46]⟩).size ≤ _; omega) rfl rfl) ?_
  refine Lq rfl (pu_addS (by rw [ByteArray.size_append]; show s1.size + (7 + (jnS O ⟨#[46]⟩).size) ≤ _; omega) rfl rfl) ?_
  refine Las rfl rfl (Lnil ?_)
  have hfin : (s1 ++ ((⟨#[32, 97, 102, 116, 101, 114, 58]⟩ : ByteArray) ++ jnS O ⟨#[46]⟩)).size ≤ 200 := by rw [ByteArray.size_append, ByteArray.size_append]; show s1.size + (7 + (jnS O ⟨#[46]⟩).size) ≤ 200; omega
  refine Gn (Gs.seq (Gsr (Lmv rfl rfl (Lq rfl (pu_lenS Tryz.underlying9 rfl) (Lq rfl (pu_gt rfl rfl) (Lnt (Gs.cond_ff rfl (by first | exact decide_eq_false (by omega) | exact decide_eq_false (by have h9 := hfin; omega)) ?_)))))))
  refine Gs.skip (Gn (Gsr (Lmv rfl rfl (Las rfl rfl (Las rfl rfl (Lnt (Gs.ret ?_)))))))
  exact Gs.fin2 Tryz.results110 rfl rfl _ (⟨⟨_, 0, rfl, by rw [hyes]; rfl⟩, rfl⟩) (by repeat constructor)
 refine Gs.skip (Gn (Gs.seq (Gsr (Lmv rfl rfl (Lq rfl (pu_lenS Tryz.underlying9 rfl) (Lq rfl (pu_gt rfl rfl) (Lnt (Gs.cond_ff rfl (by first | exact decide_eq_false (by omega) | exact decide_eq_false (by have h9 := hfin; omega)) ?_))))))))
 refine Gs.skip (Gn (Gsr (Lmv rfl rfl (Las rfl rfl (Las rfl rfl (Lnt (Gs.ret ?_)))))))
 exact Gs.fin2 Tryz.results110 rfl rfl _ (⟨⟨_, 0, rfl, by rw [hyes]; rfl⟩, rfl⟩) (by repeat constructor)
theorem smay_spec {S : HProp} (hT : TabW S) {d : Nat} {x : AskV} (hA : ARd S x) (hF : FewA d x) (hz : sizeA d x ≤ 1000) (hd : d ≤ 1000) (lim : Int) (z : Rec) :
   Ct Tryz.prog 63 [quV x lim z] [S] (fun v hs => v = .bool (mayA d x && okQ lim z) ∧ hs = [S]) := by
 obtain ⟨v0, hv0⟩ : ∃ v0, v0 = (mayA d x && okQ lim z) := ⟨_, rfl⟩
 rw [← hv0]
 refine Cti Tryz.func63 (by kernel_rfl) 22 Tryz.ntmps63 rfl rfl fun w0 R => ?_
 refine Gsr (La rfl (ac_box rfl rfl) ?_)
 rintro _ _ ⟨qb, rfl, rfl⟩
 refine Las rfl rfl (Lnt (Gsr (Lq rfl (pu_build bd_26 (by repeat constructor) rfl) ?_)))
 refine Lq rfl (pu_fa fa_34_1 rfl) (Lr rfl (rd_ld na_3 rfl (Rdc.cl1 (by repeat constructor) rfl)) ?_)
 refine Lq rfl (pu_fa fa_34_2 rfl) (Lr rfl (rd_lda ag_32 rfl (Rdc.cl 5 (by repeat constructor) rfl) rfl) ?_)
 refine Lq rfl (pu_build bd_34 (by repeat constructor) rfl) ?_
 refine La rfl (asC (write_spec hT lim z)) ?_
 rintro _ _ ⟨_, ⟨⟨s, e, rfl, he⟩, rfl⟩, rfl⟩
 refine Lmv rfl rfl (Lq rfl (pu_extract rfl rfl) (Lq rfl (pu_extract rfl rfl) (Las rfl rfl (Las rfl rfl (Lnt (Gsr (Lmv rfl rfl (Lq rfl (pu_eq rfl rfl) (LpuB rfl rfl trivial (pu_move rfl) (fun hg2 => ?_) (fun hg2 => ?_))))))))))
 ·
  have e2 : okQ lim z = true := by rw [← he]; exact hg2
  refine Lpu rfl rfl ⟨_, rfl, rfl⟩ (pu_fa fa_34_0 rfl) (Lrd rfl rfl ⟨_, rfl, rfl⟩ (rd_lda ag_26 rfl (Rdc.cl 4 (by repeat constructor) rfl) rfl) ?_)
  refine Lac rfl rfl ⟨_, rfl, rfl⟩ (asC (mayA_spec hT.u hA hF hz hd)) ?_
  rintro _ _ ⟨_, ⟨rfl, rfl⟩, rfl⟩
  refine Lpk rfl rfl rfl (Las rfl rfl (Lnt (Gs.ret ?_)))
  exact Gs.fin1 Tryz.results63 rfl _ (⟨by
    first
      | rw [hv0, e2, Bool.and_true]
      | rw [hv0, e2, Bool.and_false], rfl⟩) (by repeat constructor)
 have e2 : okQ lim z = false := by rw [← he]; exact hg2
 refine Lof rfl (Lof rfl (Lof rfl (Lpk rfl rfl rfl (Las rfl rfl (Lnt (Gs.ret ?_))))))
 exact Gs.fin1 Tryz.results63 rfl _ (⟨by
   first
     | rw [hv0, e2, Bool.and_true]
     | rw [hv0, e2, Bool.and_false], rfl⟩) (by repeat constructor)
end YtklgiidfompdpaaGreatDoor
end Go.Proofs
namespace Go.Stb
open Go
variable {α : Type} {lt : α → α → Bool}
structure Ord (lt : α → α → Bool) : Prop where
 tr : ∀ x y z, lt x y = true → lt y z = true → lt x z = true
 asy : ∀ x y, lt x y = true → lt y x = false
def Apart (lt : α → α → Bool) (l : List α) : Prop := l.Pairwise fun x y => lt x y = true ∨ lt y x = true
def Asc (lt : α → α → Bool) (l : List α) : Prop := l.Pairwise fun x y => lt x y = true
theorem Apart.perm {l m : List α} (h : Apart lt l) (p : List.Perm l m) : Apart lt m := (List.Perm.pairwise_iff (fun {_ _} h => h.symm) p).1 h
theorem Apart.app {A B : List α} (h : Apart lt (A ++ B)) {x y : α} (hx : x ∈ A) (hy : y ∈ B) : lt x y = true ∨ lt y x = true := (List.pairwise_append.1 h).2.2 x hx y hy
theorem Asc.app {A B : List α} (hA : Asc lt A) (hB : Asc lt B) (h : ∀ x ∈ A, ∀ y ∈ B, lt x y = true) : Asc lt (A ++ B) := List.pairwise_append.2 ⟨hA, hB, h⟩
theorem Asc.at2 {l : List α} (h : Asc lt l) {i j : Nat} {x y : α} (hi : l[i]? = some x) (hj : l[j]? = some y) (hij : i < j) : lt x y = true := by
 obtain ⟨h1, rfl⟩ := List.getElem?_eq_some_iff.1 hi
 obtain ⟨h2, rfl⟩ := List.getElem?_eq_some_iff.1 hj
 exact List.pairwise_iff_getElem.1 h i j h1 h2 hij
theorem one_left {x : α} {B : List α} {t : Nat} (ha : Apart lt ([x] ++ B)) (hB : Asc lt B) (h1 : ∀ k y, k < t → B[k]? = some y → lt y x = true) (h2 : ∀ k y, t ≤ k → B[k]? = some y → lt y x = false) : Asc lt (B.take t ++ [x] ++ B.drop t) := by
 have hsub : List.Sublist (B.take t ++ B.drop t) B := by rw [List.take_append_drop]; exact List.Sublist.refl _
 have hAB := List.pairwise_append.1 (hB.sublist hsub)
 have hl : ∀ y ∈ B.take t, lt y x = true := fun y hy => by
   obtain ⟨k, hk⟩ := List.mem_iff_getElem?.1 hy
   rw [List.getElem?_take] at hk
   split at hk
   · exact h1 k y (by assumption) hk
   · cases hk
 have hr : ∀ y ∈ B.drop t, lt x y = true := fun y hy => by
   obtain ⟨k, hk⟩ := List.mem_iff_getElem?.1 hy
   rw [List.getElem?_drop] at hk
   have h3 := h2 (t + k) y (Nat.le_add_right _ _) hk
   rcases ha.app (List.mem_singleton_self x) (List.mem_of_getElem? hk) with h | h
   · exact h
   · rw [h3] at h; cases h
 refine Asc.app (Asc.app hAB.1 (List.pairwise_singleton _ _) fun y hy z hz => ?_) hAB.2.1 fun y hy z hz => ?_
 · simp only [List.mem_singleton] at hz; subst hz; exact hl y hy
 · rcases List.mem_append.1 hy with hy | hy
   · exact hAB.2.2 y hy z hz
   · simp only [List.mem_singleton] at hy; subst hy; exact hr z hz
theorem one_right {y : α} {A : List α} {t : Nat} (ha : Apart lt (A ++ [y])) (hA : Asc lt A) (h1 : ∀ k x, k < t → A[k]? = some x → lt y x = false) (h2 : ∀ k x, t ≤ k → A[k]? = some x → lt y x = true) : Asc lt (A.take t ++ [y] ++ A.drop t) := by
 have hsub : List.Sublist (A.take t ++ A.drop t) A := by rw [List.take_append_drop]; exact List.Sublist.refl _
 have hAB := List.pairwise_append.1 (hA.sublist hsub)
 have hl : ∀ x ∈ A.take t, lt x y = true := fun x hx => by
   obtain ⟨k, hk⟩ := List.mem_iff_getElem?.1 hx
   rw [List.getElem?_take] at hk
   split at hk
   · have h3 := h1 k x (by assumption) hk
     rcases ha.app (List.mem_of_getElem? hk) (List.mem_singleton_self y) with h | h
     · exact h
     · rw [h3] at h; cases h
   · cases hk
 have hr : ∀ x ∈ A.drop t, lt y x = true := fun x hx => by
   obtain ⟨k, hk⟩ := List.mem_iff_getElem?.1 hx
   rw [List.getElem?_drop] at hk
   exact h2 (t + k) x (Nat.le_add_right _ _) hk
 refine Asc.app (Asc.app hAB.1 (List.pairwise_singleton _ _) fun y' hy z hz => ?_) hAB.2.1 fun y' hy z hz => ?_
 · simp only [List.mem_singleton] at hz; subst hz; exact hl y' hy
 · rcases List.mem_append.1 hy with hy | hy
   · exact hAB.2.2 y' hy z hz
   · simp only [List.mem_singleton] at hy; subst hy; exact hr z hz
theorem cut_both (O : Ord lt) {A B : List α} {i k : Nat} (hi : i ≤ A.length) (hk : k ≤ B.length) (ha : Apart lt (A ++ B)) (hA : Asc lt A) (hB : Asc lt B)
   (h1 : ∀ x y, 0 < i → A[i - 1]? = some x → B[k]? = some y → lt y x = false) (h2 : ∀ x y, 0 < k → B[k - 1]? = some y → A[i]? = some x → lt y x = true) :
   ∀ x ∈ A.take i ++ B.take k, ∀ y ∈ A.drop i ++ B.drop k, lt x y = true := by
 have hle : ∀ {l : List α} (hl : Asc lt l) {p q : Nat} {u v : α}, l[p]? = some u → l[q]? = some v → p < q → lt u v = true := fun hl _ _ _ _ hp hq h => Asc.at2 hl hp hq h
 intro x hx y hy
 rcases List.mem_append.1 hx with hx | hx <;> rcases List.mem_append.1 hy with hy | hy
 · have hsub : List.Sublist (A.take i ++ A.drop i) A := by rw [List.take_append_drop]; exact List.Sublist.refl _
   exact (List.pairwise_append.1 (hA.sublist hsub)).2.2 x hx y hy
 · obtain ⟨p, hp⟩ := List.mem_iff_getElem?.1 hx
   obtain ⟨q, hq⟩ := List.mem_iff_getElem?.1 hy
   rw [List.getElem?_take] at hp
   rw [List.getElem?_drop] at hq
   split at hp
   · rename_i hpi
     have hpl := (List.getElem?_eq_some_iff.1 hp).1
     have hql := (List.getElem?_eq_some_iff.1 hq).1
     -- the last of the left is not behind the first of the right
     have hlast : ∀ u v, A[i - 1]? = some u → B[k]? = some v → lt u v = true := fun u v hu hv => by
       have h3 := h1 u v (by omega) hu hv
       rcases ha.app (List.mem_of_getElem? hu) (List.mem_of_getElem? hv) with h | h
       · exact h
       · rw [h3] at h; cases h
     by_cases hil : i - 1 < A.length
     · have hu : A[i - 1]? = some A[i - 1] := by simp [hil]
       have hv : B[k]? = some (B[k]'(by omega)) := by simp [show k < B.length by omega]
       have e := hlast _ _ hu hv
       have e1 : lt x (B[k]'(by omega)) = true := by
         by_cases hpe : p = i - 1
         · subst hpe; rw [hp] at hu; cases hu; exact e
         · exact O.tr _ _ _ (hle hA hp hu (by omega)) e
       by_cases hqe : q = 0
       · subst hqe; rw [Nat.add_zero, hv] at hq; cases hq; exact e1
       · exact O.tr _ _ _ e1 (hle hB hv hq (by omega))
     · exfalso; omega
   · cases hp
 · obtain ⟨p, hp⟩ := List.mem_iff_getElem?.1 hx
   obtain ⟨q, hq⟩ := List.mem_iff_getElem?.1 hy
   rw [List.getElem?_take] at hp
   rw [List.getElem?_drop] at hq
   split at hp
   · rename_i hpk
     have hpl := (List.getElem?_eq_some_iff.1 hp).1
     have hql := (List.getElem?_eq_some_iff.1 hq).1
     have hv : A[i]? = some (A[i]'(by omega)) := by simp [show i < A.length by omega]
     by_cases hkl : k - 1 < B.length
     · have hu : B[k - 1]? = some B[k - 1] := by simp [hkl]
       have e := h2 _ _ (by omega) hu hv
       have e1 : lt x (A[i]'(by omega)) = true := by
         by_cases hpe : p = k - 1
         · subst hpe; rw [hp] at hu; cases hu; exact e
         · exact O.tr _ _ _ (hle hB hp hu (by omega)) e
       by_cases hqe : q = 0
       · subst hqe; rw [Nat.add_zero, hv] at hq; cases hq; exact e1
       · exact O.tr _ _ _ e1 (hle hA hv hq (by omega))
     · exfalso; omega
   · cases hp
 · have hsub : List.Sublist (B.take k ++ B.drop k) B := by rw [List.take_append_drop]; exact List.Sublist.refl _
   exact (List.pairwise_append.1 (hB.sublist hsub)).2.2 x hx y hy
end Go.Stb
namespace Go.Stb
open Go
variable {α : Type} {lt : α → α → Bool}
theorem get_mid (A B : List α) (x : α) : (A ++ x :: B)[A.length]? = some x := by rw [List.getElem?_append_right (Nat.le_refl _), Nat.sub_self]; rfl
theorem set_mid (A B : List α) (x y : α) : (A ++ x :: B).set A.length y = A ++ y :: B := by rw [List.set_append_right _ _ (Nat.le_refl _), Nat.sub_self]; rfl
theorem getA {l A B : List α} {x : α} {i : Nat} (h : l = A ++ x :: B) (hi : i = A.length) : l[i]? = some x := by subst h; subst hi; exact get_mid ..
theorem set_at {l A B : List α} {x : α} {i : Nat} (y : α) (h : l = A ++ x :: B) (hi : i = A.length) : l.set i y = A ++ y :: B := by subst h; subst hi; exact set_mid ..
theorem swap_at {l A B C : List α} {x y : α} {i j : Nat} (h : l = A ++ x :: (B ++ y :: C)) (hi : i = A.length) (hj : j = A.length + 1 + B.length) : (l.set i y).set j x = A ++ y :: (B ++ x :: C) := by
 rw [set_at y h hi, set_at (A := A ++ y :: B) (B := C) (x := y) x (by simp) (by simp; omega)]; simp
theorem swap_at' {l A B C : List α} {x y : α} {i j : Nat} (h : l = A ++ x :: (B ++ y :: C)) (hi : i = A.length) (hj : j = A.length + 1 + B.length) : (l.set j x).set i y = A ++ y :: (B ++ x :: C) := by
 rw [set_at (A := A ++ x :: B) (B := C) (x := y) x (by rw [h]; simp) (by simp; omega), set_at (A := A) (B := B ++ x :: C) (x := x) y (by simp) hi]
theorem getB {l A B C : List α} {x y : α} {j : Nat} (h : l = A ++ x :: (B ++ y :: C)) (hj : j = A.length + 1 + B.length) : l[j]? = some y := getA (A := A ++ x :: B) (B := C) (by rw [h]; simp) (by simp; omega)
theorem drop_cons {l : List α} {i : Nat} {x : α} (h : l[i]? = some x) : l.drop i = x :: l.drop (i + 1) := by
 obtain ⟨hl, rfl⟩ := List.getElem?_eq_some_iff.1 h
 exact List.drop_eq_getElem_cons hl
theorem take_snoc' {l : List α} {i : Nat} {x : α} (h : l[i]? = some x) : l.take (i + 1) = l.take i ++ [x] := by rw [List.take_add_one, h]; rfl
theorem some_at {l : List α} {i : Nat} (h : i < l.length) : ∃ x, l[i]? = some x := ⟨l[i], by simp [h]⟩
def swS (D X M Y E : List α) (i : Nat) : List α := D ++ ((Y.take i ++ X.drop i) ++ (M ++ ((X.take i ++ Y.drop i) ++ E)))
theorem swS_0 (D X M Y E : List α) : swS D X M Y E 0 = D ++ (X ++ (M ++ (Y ++ E))) := by simp [swS]
theorem swS_n {D X M Y E : List α} (h : X.length = Y.length) : swS D X M Y E X.length = D ++ (Y ++ (M ++ (X ++ E))) := by
 unfold swS
 rw [List.take_of_length_le (by omega), List.drop_of_length_le (Nat.le_refl _), List.take_of_length_le (Nat.le_refl _), List.drop_of_length_le (by omega)]; simp
theorem swS_at {D X M Y E : List α} {i : Nat} {x y : α} (hx : X[i]? = some x) (hy : Y[i]? = some y) : swS D X M Y E i = (D ++ Y.take i) ++ x :: ((X.drop (i + 1) ++ (M ++ X.take i)) ++ y :: (Y.drop (i + 1) ++ E)) := by
 unfold swS; rw [drop_cons hx, drop_cons hy]; simp
theorem swS_s {D X M Y E : List α} {i : Nat} {x y : α} (hx : X[i]? = some x) (hy : Y[i]? = some y) : swS D X M Y E (i + 1) = (D ++ Y.take i) ++ y :: ((X.drop (i + 1) ++ (M ++ X.take i)) ++ x :: (Y.drop (i + 1) ++ E)) := by
 unfold swS; rw [take_snoc' hx, take_snoc' hy]; simp
theorem swS_len {D X M Y E : List α} {i : Nat} (h : X.length = Y.length) (hi : i ≤ X.length) : (swS D X M Y E i).length = (D ++ (X ++ (M ++ (Y ++ E)))).length := by
 unfold swS; simp only [List.length_append, List.length_take, List.length_drop]; omega
theorem swS_pos {D X M Y : List α} {i : Nat} (h : X.length = Y.length) (hi : i < X.length) : (D ++ Y.take i).length = D.length + i ∧ (D ++ Y.take i).length + 1 + (X.drop (i + 1) ++ (M ++ X.take i)).length = D.length + X.length + M.length + i := by
 simp only [List.length_append, List.length_take, List.length_drop]; omega
def inS (P C : List α) (x : α) (Q : List α) (t : Nat) : List α := P ++ ((C.take t ++ x :: C.drop t) ++ Q)
theorem inS_at {P C : List α} {x u : α} {Q : List α} {t : Nat} (hu : C[t]? = some u) : inS P C x Q (t + 1) = (P ++ C.take t) ++ u :: ([] ++ x :: (C.drop (t + 1) ++ Q)) := by
 unfold inS; rw [take_snoc' hu]; simp
theorem inS_s {P C : List α} {x u : α} {Q : List α} {t : Nat} (hu : C[t]? = some u) : inS P C x Q t = (P ++ C.take t) ++ x :: ([] ++ u :: (C.drop (t + 1) ++ Q)) := by
 unfold inS; rw [drop_cons hu]; simp
theorem inS_len {P C : List α} {x : α} {Q : List α} {t : Nat} : (inS P C x Q t).length = P.length + C.length + 1 + Q.length := by
 unfold inS; simp only [List.length_append, List.length_take, List.length_cons, List.length_drop]; omega
theorem inS_x {P C : List α} {x : α} {Q : List α} {t : Nat} (ht : t ≤ C.length) : (inS P C x Q t)[P.length + t]? = some x := by
 refine getA (A := P ++ C.take t) (B := C.drop t ++ Q) (by unfold inS; simp) (by simp; omega)
theorem inS_perm (P C : List α) (x : α) (Q : List α) (t : Nat) : List.Perm (C.take t ++ x :: C.drop t) (C ++ [x]) := by
 have h : List.Perm (C.take t ++ x :: C.drop t) (x :: (C.take t ++ C.drop t)) := List.perm_middle
 rw [List.take_append_drop] at h
 exact h.trans (List.perm_append_comm (l₁ := [x]) (l₂ := C))
theorem low_all (O : Ord lt) {B : List α} {x : α} {t : Nat} (hB : Asc lt B) (h : ∀ y, 0 < t → B[t - 1]? = some y → lt y x = true) (ht : t ≤ B.length) : ∀ k y, k < t → B[k]? = some y → lt y x = true := fun k y hk hy => by
 obtain ⟨z, hz⟩ := some_at (l := B) (i := t - 1) (by omega)
 have h1 := h z (by omega) hz
 by_cases e : k = t - 1
 · subst e; rw [hz] at hy; cases hy; exact h1
 · exact O.tr _ _ _ (hB.at2 hy hz (by omega)) h1
theorem high_none (O : Ord lt) {B : List α} {x : α} {t : Nat} (hB : Asc lt B) (h : ∀ y, B[t]? = some y → lt y x = false) : ∀ k y, t ≤ k → B[k]? = some y → lt y x = false := fun k y hk hy => by
 by_cases e : k = t
 · subst e; exact h y hy
 · have hl := (List.getElem?_eq_some_iff.1 hy).1
   obtain ⟨z, hz⟩ := some_at (l := B) (i := t) (by omega)
   cases hh : lt y x with
   | false => rfl
   | true => exact absurd (O.tr _ _ _ (hB.at2 hz hy (by omega)) hh) (by rw [h z hz]; decide)
theorem low_none (O : Ord lt) {A : List α} {y : α} {t : Nat} (hA : Asc lt A) (h : ∀ x, 0 < t → A[t - 1]? = some x → lt y x = false) (ht : t ≤ A.length) : ∀ k x, k < t → A[k]? = some x → lt y x = false := fun k x hk hx => by
 obtain ⟨z, hz⟩ := some_at (l := A) (i := t - 1) (by omega)
 have h1 := h z (by omega) hz
 by_cases e : k = t - 1
 · subst e; rw [hz] at hx; cases hx; exact h1
 · cases hh : lt y x with
   | false => rfl
   | true => rw [O.tr _ _ _ hh (hA.at2 hx hz (by omega))] at h1; cases h1
theorem high_all (O : Ord lt) {A : List α} {y : α} {t : Nat} (hA : Asc lt A) (h : ∀ x, A[t]? = some x → lt y x = true) : ∀ k x, t ≤ k → A[k]? = some x → lt y x = true := fun k x hk hx => by
 by_cases e : k = t
 · subst e; exact h x hx
 · have hl := (List.getElem?_eq_some_iff.1 hx).1
   obtain ⟨z, hz⟩ := some_at (l := A) (i := t) (by omega)
   exact O.tr _ _ _ (h z hz) (hA.at2 hz hx (by omega))
theorem block_pre {P T : List α} {i s : Nat} (h : i * s + s ≤ P.length) : ((P ++ T).drop (i * s)).take s = (P.drop (i * s)).take s := by
 rw [List.drop_append_of_le_length (by omega), List.take_append_of_le_length (by simp; omega)]
theorem block_mid {P C T : List α} {i s : Nat} (hP : P.length = i * s) (h : C.length = s ∨ (C.length ≤ s ∧ T = [])) : ((P ++ (C ++ T)).drop (i * s)).take s = C := by
 rw [List.drop_append_of_le_length (by omega), List.drop_of_length_le (by omega), List.nil_append]
 rcases h with h | ⟨h, rfl⟩
 · rw [List.take_append_of_le_length (by omega), List.take_of_length_le (by omega)]
 · rw [List.append_nil, List.take_of_length_le h]
end Go.Stb
namespace Go.Proofs.YtklgiidfompdpaaGreatDoor
open Go Go.Sl Go.Gv Go.Kv Go.Po Go.Ix Go.Stb
theorem less_iff {a b : Rec} : lessR a b = true ↔ a.w < b.w ∨ (a.w = b.w ∧ (a.c < b.c ∨ (a.c = b.c ∧ before a.key b.key = true))) := by
 unfold lessR slB
 simp only [Bool.or_eq_true, Bool.and_eq_true, decide_eq_true_eq, Prod.mk.injEq]
 constructor
 · rintro ((h | ⟨h1, h2⟩) | ⟨⟨h1, h2⟩, h3⟩)
   · exact .inl h
   · exact .inr ⟨h1, .inl h2⟩
   · exact .inr ⟨h1, .inr ⟨h2, h3⟩⟩
 · rintro (h | ⟨h1, h2 | ⟨h2, h3⟩⟩)
   · exact .inl (.inl h)
   · exact .inl (.inr ⟨h1, h2⟩)
   · exact .inr ⟨⟨h1, h2⟩, h3⟩
theorem ordL : Ord lessR where
 tr x y z h1 h2 := by
   rw [less_iff] at *
   rcases h1 with h1 | ⟨h1, h1' | ⟨h1', h1''⟩⟩ <;> rcases h2 with h2 | ⟨h2, h2' | ⟨h2', h2''⟩⟩
   · exact .inl (by omega)
   · exact .inl (by omega)
   · exact .inl (by omega)
   · exact .inl (by omega)
   · exact .inr ⟨by omega, .inl (by omega)⟩
   · exact .inr ⟨by omega, .inl (by omega)⟩
   · exact .inl (by omega)
   · exact .inr ⟨by omega, .inl (by omega)⟩
   · exact .inr ⟨by omega, .inr ⟨by omega, before_trans h1'' h2''⟩⟩
 asy x y h := by
   cases hh : lessR y x with
   | false => rfl
   | true =>
     rw [less_iff] at *
     rcases h with h1 | ⟨h1, h1' | ⟨h1', h1''⟩⟩ <;> rcases hh with h2 | ⟨h2, h2' | ⟨h2', h2''⟩⟩ <;> first | omega | (rw [before_asymm h1''] at h2''; cases h2'')
theorem less_total {a b : Rec} (h : a.key ≠ b.key) : lessR a b = true ∨ lessR b a = true := by
 rw [less_iff, less_iff]
 rcases before_total h with hb | hb <;> by_cases h1 : a.w = b.w <;> by_cases h2 : a.c = b.c <;> simp only [hb] <;> first | omega | skip
 all_goals simp only [h1, h2, true_and, and_true, Int.lt_irrefl, false_or, or_true, true_or]
theorem apart_keys {l : List Rec} (h : (l.map Rec.key).Nodup) : Apart lessR l := by
 have h' : l.Pairwise fun a b => a.key ≠ b.key := List.pairwise_map.1 h
 exact h'.imp fun {a b} hab => less_total hab
def IsS (xs ys : List Rec) : Prop := List.Perm ys xs ∧ Asc lessR ys
end Go.Proofs.YtklgiidfompdpaaGreatDoor
