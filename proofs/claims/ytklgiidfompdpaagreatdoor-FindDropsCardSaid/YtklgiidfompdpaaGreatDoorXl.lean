/- What the closing leans on: part 12. -/
import Derived.Test.YtklgiidfompdpaaGreatDoorXk
import Derived.Test.YtklgiidfompdpaaGreatDoorXf
import Derived.Test.YtklgiidfompdpaaGreatDoorXi
import Derived.Lib.ItoaLen
namespace Go.Sl
open Go
theorem Ct.bigs0 {P : Program} {f : FuncId} {args : List Value} {L : List HProp} {x : Value} (c : Ct P f args L (fun v hs => v = x ∧ hs = L)) : Ct P f args [Sl.big L] (fun v hs => v = x ∧ hs = [Sl.big L]) :=
  ⟨c.enters, fun w0 w R s => (c.calls w0 w R (Sat.big.1 s)).mono fun _ _ ⟨v, hs, he, ⟨h1, h2⟩, t⟩ => ⟨v, _, he, ⟨h1, rfl⟩, by subst h2; exact Sat.big.2 t⟩⟩
theorem Gs.bigFold {w0 : World} {n : Nat} {env : Env} {L M : List HProp} {X : Act → World → Prop} (g : Gs w0 n env (Sl.big L :: M) X) : Gs w0 n env (L ++ M) X := fun a w e s => g a w e (Sat.big.2 s)
theorem Gs.bigOpen {w0 : World} {n : Nat} {env : Env} {L M : List HProp} {X : Act → World → Prop} (g : Gs w0 n env (L ++ M) X) : Gs w0 n env (Sl.big L :: M) X := fun a w e s => g a w e (Sat.big.1 s)
end Go.Sl
namespace Go.Proofs.YtklgiidfompdpaaGreatDoor
open Go Go.Sl Go.Gv Go.Kv Go.Po Go.Ix Go.Qu Go.Shelf
set_option maxRecDepth 100000
theorem which1_spec {F : HProp} {g : FuncId} {cs : List Value} {q : Rec → Bool} {ib sb x ix m : Nat} {M : List (Key × Rec)} (hg : ∀ r, Ct Tryz.prog g ([] ++ [recV r] ++ cs) [F] (fun v hs => v = .bool (q r) ∧ hs = [F])) (k : Key) :
    Ct Tryz.prog 131 ([] ++ [keyV k] ++ [ptr ib, ptr sb]) [cl ib 80 [.func (.func g) #[] cs.toArray], cl sb 38 [ptr x], cl x 76 (shC ix m), mp keyV recV m M, F]
      (fun v hs => v = .bool (!q ((mget M k).getD Rec.zero)) ∧ hs = [cl ib 80 [.func (.func g) #[] cs.toArray], cl sb 38 [ptr x], cl x 76 (shC ix m), mp keyV recV m M, F]) := by
  refine Ct.intro Tryz.func131 rfl (by kernel_rfl) 14 Tryz.ntmps131 (Nat.le_of_ble_eq_true rfl) fun w0 R => ?_
  refine Gsr ?_
  refine Lac rfl rfl trivial (ac_box rfl rfl) ?_
  rintro _ _ ⟨kb, rfl, rfl⟩
  refine Las rfl rfl ?_
  refine Lnt ?_
  refine Gs.seq ?_
  refine Gs.regD mixed (by kernel_rfl) ?_
  refine Rg.rd 0 rfl rfl (by kernel_rfl) trivial (rd_ld na_80 rfl (Rdc.cl1 (by repeat constructor) rfl)) ?_
  refine Rg.rd 1 rfl rfl (by kernel_rfl) trivial (rd_ld na_38 rfl (Rdc.cl1 (by repeat constructor) rfl)) ?_
  refine Rg.pu 2 rfl rfl (by kernel_rfl) trivial (by first | exact pu_nil rfl | exact pu_nilF rfl) ?_
  refine Rg.pu 3 rfl rfl (by kernel_rfl) trivial (pu_fa fa_76_1 rfl) ?_
  refine Rg.rd 4 rfl rfl (by kernel_rfl) trivial (rd_ld na_74 rfl (Rdc.cl1 (by repeat constructor) rfl)) ?_
  refine Rg.rd 5 rfl rfl (by kernel_rfl) trivial (rd_lda ag_28 rfl (Rdc.cl 2 (by repeat constructor) rfl) rfl) ?_
  refine Rg.rd 6 rfl rfl (by kernel_rfl) trivial (rd_look1 (k := k) (encv := recV) Tryz.underlying74 kt_28 zvk_32 rfl rfl (by repeat constructor)) ?_
  refine Rg.one (by kernel_rfl) (Stp.ac 7 rfl rfl (by kernel_rfl) trivial (as_callV rfl (hg ((mget M k).getD Rec.zero)) (by repeat constructor) (by repeat constructor))  ?_)
  rintro _ _ ⟨_, ⟨rfl, rfl⟩, rfl⟩
  refine Rg.pu 8 rfl rfl (by kernel_rfl) trivial (pu_not rfl) ?_
  refine Rg.pu 9 rfl rfl (by kernel_rfl) trivial (pu_assign rfl) ?_
  refine Rg.end (by kernel_rfl) ?_
  refine Gs.then_n ?_
  refine Gs.ret ?_
  exact Gs.fin1 Tryz.results131 rfl _ (⟨rfl, rfl⟩) (by repeat constructor)
theorem swhich_spec (x : Nat) (rs : List Rec) (hr : rs.length ≤ 800) {F : HProp} {g : FuncId} {cs : List Value} {q : Rec → Bool} (hg : ∀ r, Ct Tryz.prog g ([] ++ [recV r] ++ cs) [F] (fun v hs => v = .bool (q r) ∧ hs = [F])) :
    Ct Tryz.prog 74 [ptr x, .func (.func g) #[] cs.toArray] [shA x rs, F] (fun v hs => ∃ a c ks, v = .slice a ks.length c ∧ IsK rs q ks ∧ hs = [shA x rs, F, sl 28 2 keyC a c ks]) := by
  refine Ct.intro Tryz.func74 rfl (by kernel_rfl) 12 Tryz.ntmps74 (Nat.le_of_ble_eq_true rfl) fun w0 R => ?_
  refine Gs.sh fun ix L W m M hI hM => ?_
  refine Gsr ?_
  refine Lac rfl rfl trivial (ac_box rfl rfl) ?_
  rintro _ _ ⟨sb, rfl, rfl⟩
  refine Lac rfl rfl trivial (ac_box rfl rfl) ?_
  rintro _ _ ⟨ib, rfl, rfl⟩
  refine Las rfl rfl ?_
  refine Lnt ?_
  refine Gsr ?_
  refine Lrd rfl rfl trivial (rd_ld na_38 rfl (Rdc.cl1 (by repeat constructor) rfl)) ?_
  refine Lpu rfl rfl trivial (by first | exact pu_nil rfl | exact pu_nilF rfl) ?_
  refine Lpu rfl rfl trivial (pu_fa fa_76_0 rfl) ?_
  refine Lrd rfl rfl trivial (rd_ld na_72 rfl (Rdc.cl1 (by repeat constructor) rfl)) ?_
  refine Lac rfl rfl trivial (as_call (skeys_spec x rs (by omega) hI (m := m)) (by repeat constructor) (by repeat constructor)) ?_
  rintro _ _ ⟨_, ⟨ka, kc, ks, rfl, hK, rfl⟩, rfl⟩
  refine Lpu rfl rfl trivial (pu_func (by repeat constructor) (by repeat constructor)) ?_
  have hkl := hK.len
  have hK2 := IsK.sub (g := q) hI.keys hK (fun k => !!q ((mget M k).getD Rec.zero)) (fun r hr => by rw [hM.get hI.keys, lookR_at hI.keys hr, Bool.not_not]; rfl)
  refine Gs.takes (As := [cl ib 80 [.func (.func g) #[] cs.toArray], cl sb 38 [ptr x], cl x 76 (shC ix m), mp keyV recV m M, F]) (by repeat constructor) (Gs.bigFold ?_)
  refine Lac rfl rfl trivial (as_call (deleteK_spec (a := ka) (c := kc) (xs := ks) (F := big [cl ib 80 [.func (.func g) #[] cs.toArray], cl sb 38 [ptr x], cl x 76 (shC ix m), mp keyV recV m M, F]) (g := 131) (cs := [ptr ib, ptr sb]) (q := fun k => !q ((mget M k).getD Rec.zero)) (fun k => Ct.bigs0 (which1_spec hg k)) (by omega)) (by repeat constructor) (by repeat constructor)) ?_
  rintro _ _ ⟨_, ⟨rfl, rfl⟩, rfl⟩
  refine Las rfl rfl ?_
  refine Lnil ?_
  refine Gs.takes (As := [big [cl ib 80 [.func (.func g) #[] cs.toArray], cl sb 38 [ptr x], cl x 76 (shC ix m), mp keyV recV m M, F]]) (by repeat constructor) (Gs.bigOpen ?_)
  refine Gs.takes (As := [cl x 76 (shC ix m), ixA ix L W, mp keyV recV m M]) (by repeat constructor) (Gs.shc hI hM ?_)
  refine Gs.then_n ?_
  refine Gs.ret ?_
  exact Gs.fin1 Tryz.results74 rfl _ (⟨ka, kc, _, rfl, hK2.congr fun r _ => Bool.true_and _, rfl⟩) (by repeat constructor)
theorem keys1_spec (y : AskV) (yb : Nat) (r : Rec) : Ct Tryz.prog 75 ([] ++ [recV r] ++ [ptr yb]) [cl yb 26 (askC y)] (fun v hs => v = .bool (decide (r.o = y.n)) ∧ hs = [cl yb 26 (askC y)]) := by
  refine Ct.intro Tryz.func75 rfl (by kernel_rfl) 10 Tryz.ntmps75 (Nat.le_of_ble_eq_true rfl) fun w0 R => ?_
  refine Gsr ?_
  refine Lac rfl rfl trivial (ac_box rfl rfl) ?_
  rintro _ _ ⟨rb, rfl, rfl⟩
  refine Las rfl rfl ?_
  refine Lnt ?_
  refine Gsr ?_
  refine Lpu rfl rfl trivial (pu_fa fa_32_0 rfl) ?_
  refine Lpu rfl rfl trivial (pu_fa fa_28_0 rfl) ?_
  refine Lrd rfl rfl trivial (rd_ld na_3 rfl (Rdc.cl1 (by repeat constructor) rfl)) ?_
  refine Lpu rfl rfl trivial (pu_fa fa_26_1 rfl) ?_
  refine Lrd rfl rfl trivial (rd_ld na_3 rfl (Rdc.cl1 (by repeat constructor) rfl)) ?_
  refine Lpu rfl rfl trivial (pu_eq rfl rfl) ?_
  refine Las rfl rfl ?_
  refine Lnt ?_
  refine Gs.ret ?_
  exact Gs.fin1 Tryz.results75 rfl _ (⟨rfl, rfl⟩) (by repeat constructor)
theorem keys2_spec (y : AskV) (yb : Nat) (r : Rec) : Ct Tryz.prog 76 ([] ++ [recV r] ++ [ptr yb]) [cl yb 26 (askC y)] (fun v hs => v = .bool (decide (y.n ≤ r.w)) ∧ hs = [cl yb 26 (askC y)]) := by
  refine Ct.intro Tryz.func76 rfl (by kernel_rfl) 10 Tryz.ntmps76 (Nat.le_of_ble_eq_true rfl) fun w0 R => ?_
  refine Gsr ?_
  refine Lac rfl rfl trivial (ac_box rfl rfl) ?_
  rintro _ _ ⟨rb, rfl, rfl⟩
  refine Las rfl rfl ?_
  refine Lnt ?_
  refine Gsr ?_
  refine Lpu rfl rfl trivial (pu_fa fa_32_1 rfl) ?_
  refine Lpu rfl rfl trivial (pu_fa fa_30_0 rfl) ?_
  refine Lrd rfl rfl trivial (rd_ld na_3 rfl (Rdc.cl1 (by repeat constructor) rfl)) ?_
  refine Lpu rfl rfl trivial (pu_fa fa_26_1 rfl) ?_
  refine Lrd rfl rfl trivial (rd_ld na_3 rfl (Rdc.cl1 (by repeat constructor) rfl)) ?_
  refine Lpu rfl rfl trivial (pu_ge rfl rfl) ?_
  refine Las rfl rfl ?_
  refine Lnt ?_
  refine Gs.ret ?_
  exact Gs.fin1 Tryz.results76 rfl _ (⟨rfl, rfl⟩) (by repeat constructor)
theorem keys3_spec (y : AskV) (yb : Nat) (r : Rec) : Ct Tryz.prog 77 ([] ++ [recV r] ++ [ptr yb]) [cl yb 26 (askC y)] (fun v hs => v = .bool (decide (r.w ≤ y.n)) ∧ hs = [cl yb 26 (askC y)]) := by
  refine Ct.intro Tryz.func77 rfl (by kernel_rfl) 10 Tryz.ntmps77 (Nat.le_of_ble_eq_true rfl) fun w0 R => ?_
  refine Gsr ?_
  refine Lac rfl rfl trivial (ac_box rfl rfl) ?_
  rintro _ _ ⟨rb, rfl, rfl⟩
  refine Las rfl rfl ?_
  refine Lnt ?_
  refine Gsr ?_
  refine Lpu rfl rfl trivial (pu_fa fa_32_1 rfl) ?_
  refine Lpu rfl rfl trivial (pu_fa fa_30_0 rfl) ?_
  refine Lrd rfl rfl trivial (rd_ld na_3 rfl (Rdc.cl1 (by repeat constructor) rfl)) ?_
  refine Lpu rfl rfl trivial (pu_fa fa_26_1 rfl) ?_
  refine Lrd rfl rfl trivial (rd_ld na_3 rfl (Rdc.cl1 (by repeat constructor) rfl)) ?_
  refine Lpu rfl rfl trivial (pu_le rfl rfl) ?_
  refine Las rfl rfl ?_
  refine Lnt ?_
  refine Gs.ret ?_
  exact Gs.fin1 Tryz.results77 rfl _ (⟨rfl, rfl⟩) (by repeat constructor)
/-- Lists of posts, owned. -/
def plS (l : SlV PostV) : HProp := plO l.a l.c l.xs
def lsO (a : Option Addr) (c : Nat) (ls : List (SlV PostV)) : HProp := two (sl 94 1 slC a c ls) (big (ls.map plS))
def FewL (l : SlV PostV) : Prop := l.xs.length ≤ 1000 ∧ ∀ p ∈ l.xs, p.t.xs.length ≤ 1000
theorem lsO_rd {a : Option Addr} {c : Nat} {ls : List (SlV PostV)} (h : ∀ l ∈ ls, FewL l) : LRd (lsO a c ls) a ls :=
  ⟨Srd.two1 Srd.own, fun l hl => ⟨⟨Srd.two2 (Srd.bigs (prd_plO (c := l.c) (h l hl).2).1 (List.mem_map.2 ⟨l, hl, rfl⟩)), fun p hp => ⟨Srd.two2 (Srd.bigs ((prd_plO (c := l.c) (h l hl).2).2 p hp).1 (List.mem_map.2 ⟨l, hl, rfl⟩)), (h l hl).2 p hp⟩⟩, (h l hl).1⟩⟩
theorem LsIs.snoc {P : PL} {ws : List ByteArray} {ls : List (SlV PostV)} {i : Nat} {w : ByteArray} {l : SlV PostV} (h : LsIs P (ws.take i) ls) (hw : ws[i]? = some w) (e : plain1 l.xs = (mget P w).getD []) : LsIs P (ws.take (i + 1)) (ls ++ [l]) := by
  unfold LsIs at h ⊢
  rw [List.map_append, h, List.take_add_one, hw, List.map_append, List.map_singleton, e]; rfl
theorem slists_spec (x : Nat) (rs : List Rec) (hr : rs.length ≤ 800) {S : HProp} {a : Option Addr} {c : Nat} {ws : List ByteArray} (hW : Srd S 1 strC a ws) (hl : ws.length ≤ 800) :
    Ct Tryz.prog 71 [ptr x, .slice a ws.length c] [shA x rs, S] (fun v hs => ∃ a' c' ls s, v = .slice a' ls.length c' ∧ IxIs rs s ∧ LsIs s.1 ws ls ∧ (∀ l ∈ ls, FewL l) ∧ (ls.length = ws.length ∧ ls.length ≤ c') ∧ hs = [shA x rs, S, lsO a' c' ls]) := by
  refine Ct.intro Tryz.func71 rfl (by kernel_rfl) 25 Tryz.ntmps71 (Nat.le_of_ble_eq_true rfl) fun w0 R => ?_
  refine Gs.slAddr (hW.h (by repeat constructor)) fun ab ao ha => Gs.sh fun ix L W m M hI hM => ?_
  refine Gsr ?_
  refine Las rfl rfl ?_
  refine Lnt ?_
  refine Gsr ?_
  refine Las rfl rfl ?_
  refine Lnil ?_
  refine Gs.slNil 94 1 (slC : SlV PostV → List Value) (Gs.bigNil ?_)
  refine Gs.then_n ?_
  refine Gs.seq ?_
  refine Gsr ?_
  refine Lmv rfl rfl ?_
  refine Lpu rfl rfl trivial (pu_len Tryz.underlying23 rfl) ?_
  refine Lmv rfl rfl ?_
  refine Lnt ?_
  refine Gs.block ?_
  refine Gs.loop1 (fun s : Nat × (Option Addr × Nat) × List (SlV PostV) => s.1 ≤ ws.length ∧ LsIs (plL L) (ws.take s.1) s.2.2 ∧ s.2.2.length = s.1 ∧ ∀ l ∈ s.2.2, FewL l) (fun s => [(0, ptr x), (5, .slice s.2.1.1 s.2.2.length s.2.1.2), (8, .slice a ws.length c), (9, int ws.length), (10, int s.1)]) (fun s => [cl x 76 (shC ix m), ixA ix L W, mp keyV recV m M, S, sl 94 1 slC s.2.1.1 s.2.1.2 s.2.2, big (s.2.2.map plS)] ++ R) (fun s => ws.length - s.1) (0, (none, 0), []) (⟨Nat.zero_le _, rfl, rfl, fun _ h => by cases h⟩) (by repeat constructor) (by repeat constructor) (fun s hs => ?_)
  obtain ⟨i, ⟨oa, oc⟩, ls⟩ := s
  obtain ⟨hi, hls, hll, hfw⟩ := hs
  dsimp only at hi hls hll hfw ⊢
  refine Gsr ?_
  refine Lpu rfl rfl trivial (pu_lt rfl rfl) ?_
  refine Lnt ?_
  refine Gs.seq ?_
  refine Gs.cond rfl (fun hc0 => ?_) (fun hc0 => ?_)
  ·
   have hlt : i < ws.length := by have := of_decide_eq_true hc0; omega
   obtain ⟨w, hw⟩ : ∃ z, ws[i]? = some z := ⟨ws[i], by simp [hlt]⟩
   obtain rfl := ha (by rintro rfl; simp at hlt)
   have hgd := hI.gd w
   refine Gs.skip ?_
   refine Gs.then_n ?_
   refine Gs.seq ?_
   refine Gs.block ?_
   refine Gsr ?_
   refine Lpu rfl rfl trivial (pu_ia se_23 rfl rfl (by omega) (by omega)) ?_
   refine Lrd rfl rfl trivial (rd_ld na_9 rfl (Rdc.el0 (hW.h (by repeat constructor)) hw rfl rfl)) ?_
   refine Las rfl rfl ?_
   refine Lnt ?_
   refine Gs.reg ?_
   refine Lmv rfl rfl ?_
   refine Lmv rfl rfl ?_
   refine Lpu rfl rfl trivial (by first | exact pu_nil rfl | exact pu_nilF rfl) ?_
   refine Lpu rfl rfl trivial (pu_fa fa_76_0 rfl) ?_
   refine Lrd rfl rfl trivial (rd_ld na_72 rfl (Rdc.cl1 (by repeat constructor) rfl)) ?_
   refine Lmv rfl rfl ?_
   refine Lac rfl rfl trivial (as_call (word_spec ix L W w) (by repeat constructor) (by repeat constructor)) ?_
   rintro _ _ ⟨_, ⟨qa, qc, qs, rfl, hq, rfl⟩, rfl⟩
   have hqe : plain1 qs = (mget (plL L) w).getD [] := by rw [hq, plL_get]
   have hql : qs.length ≤ rs.length := by
     have h9 := congrArg List.length hqe
     have h8 := hgd.1
     rw [← h9] at h8
     simpa using h8
   have hqb : ∀ p ∈ qs, p.t.xs.length ≤ 1000 := fun p hp => by
     have h9 : p.p ∈ (mget (plL L) w).getD [] := by rw [← hqe]; exact List.mem_map.2 ⟨p, hp, rfl⟩
     have h8 : p.t.xs.length ≤ 121 := hgd.2 p.p h9
     omega
   refine Lac rfl rfl trivial (ac_lit encC_94 ([(⟨qa, qs, qc⟩ : SlV PostV)]) et_120 ek_94 rfl (by repeat constructor) rfl rfl (by decide)) ?_
   rintro _ _ ⟨a21, rfl, rfl⟩
   refine Lac rfl rfl trivial (ac_append (xs := ls) (ys := [(⟨qa, qs, qc⟩ : SlV PostV)]) et_120 ek_94 rfl rfl (by repeat constructor) (SrcH.sl Tryz.underlying120 ek_94 (SlH.own (by repeat constructor))) (by first | omega | (simp; omega)) (by first | omega | (simp; omega))) ?_
   rintro _ _ ⟨a22, c22, rfl, rfl⟩
   refine Las rfl rfl ?_
   refine Lnil ?_
   refine Gs.takes (As := [plS ⟨qa, qs, qc⟩, big (ls.map plS)]) (by repeat constructor) (Gs.bigBack take_snoc ?_)
   rw [show ls.map plS ++ [plS ⟨qa, qs, qc⟩] = (ls ++ [(⟨qa, qs, qc⟩ : SlV PostV)]).map plS by rw [List.map_append]; rfl]
   refine Gs.blk_n ?_
   refine Gs.then_n ?_
   refine Gs.reg ?_
   refine Lpu rfl rfl trivial (by first | exact pu_addI rfl rfl rfl (by omega) (by omega) | exact pu_add rfl rfl) ?_
   refine Lmv rfl rfl ?_
   refine Lnt ?_
   exact Gs.again1 (i + 1, (a22, c22), ls ++ [(⟨qa, qs, qc⟩ : SlV PostV)]) ⟨hlt, hls.snoc hw hqe, by show (ls ++ _).length = i + 1; rw [List.length_append, hll]; rfl, fun l hm => by
   rcases List.mem_append.1 hm with h | h
   · exact hfw l h
   · rw [List.mem_singleton.1 h]; exact ⟨by show qs.length ≤ 1000; omega, hqb⟩⟩ (by show ws.length - (i + 1) < ws.length - i; omega) (by repeat constructor) (by repeat constructor)
  ·
   have hge : i = ws.length := by have := of_decide_eq_false hc0; omega
   rw [hge, List.take_length] at hls
   refine Gs.slLen (E := 94) (sz := 1) (enc := slC) (a := oa) (c := oc) (xs := ls) (by repeat constructor) fun hlc => ?_
   refine Gs.takes (As := [cl x 76 (shC ix m), ixA ix L W, mp keyV recV m M]) (by repeat constructor) (Gs.shc hI hM ?_)
   refine Gs.takes (As := [sl 94 1 slC oa oc ls, big (ls.map plS)]) (by repeat constructor) (Gs.toTwo ?_)
   refine Gs.exit ?_
   refine Gs.then_x ?_
   refine Gs.then_x ?_
   refine Gs.blk_hit ?_
   refine Gs.then_n ?_
   refine Gsr ?_
   refine Lmv rfl rfl ?_
   refine Las rfl rfl ?_
   refine Lnt ?_
   refine Gs.ret ?_
   exact Gs.fin1 Tryz.results71 rfl _ (⟨oa, oc, ls, _, rfl, hI, hls, hfw, ⟨by omega, hlc⟩, rfl⟩) (by repeat constructor)
/-- What lists stand for keys that were found. -/
def EiIs (rs : List Rec) (f : AskV → Rec → Bool) (zs : List AskV) (ls : List (SlV PostV)) : Prop := ls.length = zs.length ∧ ∀ (j : Nat) l y, ls[j]? = some l → zs[j]? = some y → IsK rs (f y) (l.xs.map PostV.k) ∧ ∀ p ∈ l.xs, p.t.xs = [0]
theorem EiIs.snoc {rs : List Rec} {f : AskV → Rec → Bool} {zs : List AskV} {ls : List (SlV PostV)} {i : Nat} {y : AskV} {l : SlV PostV} (h : EiIs rs f (zs.take i) ls) (hy : zs[i]? = some y) (hk : IsK rs (f y) (l.xs.map PostV.k)) (h0 : ∀ p ∈ l.xs, p.t.xs = [0]) : EiIs rs f (zs.take (i + 1)) (ls ++ [l]) := by
  have hi := (List.getElem?_eq_some_iff.1 hy).1
  have h1 := h.1
  rw [List.length_take, Nat.min_eq_left (by omega)] at h1
  refine ⟨by rw [List.length_append, h1, List.length_take, Nat.min_eq_left (by omega)]; rfl, fun j l' y' hl' hy' => ?_⟩
  by_cases hj : j < i
  · rw [List.getElem?_append_left (by omega)] at hl'
    rw [List.getElem?_take, if_pos (by omega)] at hy'
    exact h.2 j l' y' hl' (by rw [List.getElem?_take, if_pos hj]; exact hy')
  · have hlt := (List.getElem?_eq_some_iff.1 hl').1
    rw [List.length_append, List.length_singleton] at hlt
    have hj2 : j = i := by omega
    subst hj2
    rw [List.getElem?_append_right (by omega), h1, Nat.sub_self] at hl'
    rw [List.getElem?_take, if_pos (by omega), hy] at hy'
    cases hl'; cases hy'
    exact ⟨hk, h0⟩
theorem EiIs.or {rs : List Rec} {f : AskV → Rec → Bool} {zs : List AskV} {ls : List (SlV PostV)} (h : EiIs rs f zs ls) : MayL ls ∧ IsK rs (fun r => zs.any fun y => f y r) (orV ls) := by
  have hat : ∀ l ∈ ls, ∃ y ∈ zs, IsK rs (f y) (l.xs.map PostV.k) ∧ ∀ p ∈ l.xs, p.t.xs = [0] := fun l hl => by
    obtain ⟨j, hj⟩ := List.mem_iff_getElem?.1 hl
    have hjl := (List.getElem?_eq_some_iff.1 hj).1
    obtain ⟨y, hy⟩ : ∃ y, zs[j]? = some y := ⟨zs[j]'(by rw [← h.1]; exact hjl), by simp [← h.1, hjl]⟩
    exact ⟨y, List.mem_of_getElem? hy, h.2 j l y hj hy⟩
  have hm : MayL ls := List.all_eq_true.2 fun L hL => by
    obtain ⟨l, hl, rfl⟩ := List.mem_map.1 hL
    obtain ⟨y, -, hk, h0⟩ := hat l hl
    refine may_of ?_ fun p hp => ?_
    · exact List.pairwise_map.2 (List.pairwise_map.1 hk.1)
    · obtain ⟨q, hq, rfl⟩ := List.mem_map.1 hp
      show risesB q.t.xs = true
      rw [h0 q hq]; rfl
  refine ⟨hm, orV_asc ls, fun k => ?_⟩
  rw [orV_mem hm]
  constructor
  · rintro ⟨l, hl, p, hp, rfl⟩
    obtain ⟨y, hy, hk, -⟩ := hat l hl
    obtain ⟨r, hr, e, hf⟩ := (hk.2 p.k).1 (List.mem_map.2 ⟨p, hp, rfl⟩)
    exact ⟨r, hr, e, List.any_eq_true.2 ⟨y, hy, hf⟩⟩
  · rintro ⟨r, hr, rfl, ha⟩
    obtain ⟨y, hy, hf⟩ := List.any_eq_true.1 ha
    obtain ⟨j, hj⟩ := List.mem_iff_getElem?.1 hy
    have hjl := (List.getElem?_eq_some_iff.1 hj).1
    obtain ⟨l, hl⟩ : ∃ l, ls[j]? = some l := ⟨ls[j]'(by rw [h.1]; exact hjl), by simp [h.1, hjl]⟩
    obtain ⟨hk, -⟩ := h.2 j l y hl hj
    obtain ⟨p, hp, e⟩ := List.mem_map.1 ((hk.2 r.key).2 ⟨r, hr, rfl, hf⟩)
    exact ⟨l, List.mem_of_getElem? hl, p, hp, e⟩
theorem EiIs.klen {rs : List Rec} {f : AskV → Rec → Bool} {zs : List AskV} {ls : List (SlV PostV)} (h : EiIs rs f zs ls) (hr : rs.length ≤ 800) : (∀ l ∈ ls, FewL l) ∧ (keysL ls).length ≤ 800 * ls.length := by
  have hat : ∀ l ∈ ls, l.xs.length ≤ 800 ∧ ∀ p ∈ l.xs, p.t.xs = [0] := fun l hl => by
    obtain ⟨j, hj⟩ := List.mem_iff_getElem?.1 hl
    have hjl := (List.getElem?_eq_some_iff.1 hj).1
    obtain ⟨y, hy⟩ : ∃ y, zs[j]? = some y := ⟨zs[j]'(by rw [← h.1]; exact hjl), by simp [← h.1, hjl]⟩
    obtain ⟨h1, h2⟩ := h.2 j l y hj hy
    have := h1.len
    rw [List.length_map] at this
    exact ⟨by omega, h2⟩
  refine ⟨fun l hl => ⟨by have := (hat l hl).1; omega, fun p hp => by rw [(hat l hl).2 p hp]; decide⟩, ?_⟩
  have : ∀ m : List (SlV PostV), (∀ l ∈ m, l.xs.length ≤ 800) → (keysL m).length ≤ 800 * m.length := by
    intro m
    induction m with
    | nil => intro _; exact Nat.le_refl _
    | cons l m ih =>
      intro hm
      have h1 := ih fun z hz => hm z (List.mem_cons_of_mem _ hz)
      have h2 := hm l (by simp)
      unfold keysL at h1 ⊢
      rw [List.flatMap_cons, List.length_append, List.length_map, List.length_cons]; omega
  exact this ls fun l hl => (hat l hl).1
theorem seither_spec (x : Nat) (rs : List Rec) (hr : rs.length ≤ 800) {S : HProp} {f : AskV → Rec → Bool} {a : Option Addr} {c : Nat} {zs : List AskV} (hS : Srd S 4 askC a zs) (hl : zs.length ≤ 100)
    (hk : ∀ y ∈ zs, Ct Tryz.prog 43 [ptr x, askV y] [shA x rs, S] (fun v hs => ∃ a c ks, v = .slice a ks.length c ∧ IsK rs (f y) ks ∧ hs = [shA x rs, S, sl 28 2 keyC a c ks])) :
    Ct Tryz.prog 78 [ptr x, .slice a zs.length c] [shA x rs, S] (fun v hs => ∃ a' c' ks, v = .slice a' ks.length c' ∧ IsK rs (fun r => zs.any fun y => f y r) ks ∧ hs = [shA x rs, S, sl 28 2 keyC a' c' ks]) := by
  refine Ct.intro Tryz.func78 rfl (by kernel_rfl) 39 Tryz.ntmps78 (Nat.le_of_ble_eq_true rfl) fun w0 R => ?_
  refine Gs.slAddr (hS.h (by repeat constructor)) fun ab ao ha => ?_
  refine Gsr ?_
  refine Las rfl rfl ?_
  refine Lnt ?_
  refine Gsr ?_
  refine Las rfl rfl ?_
  refine Lnil ?_
  refine Gs.slNil 94 1 (slC : SlV PostV → List Value) (Gs.bigNil ?_)
  refine Gs.then_n ?_
  refine Gs.seq ?_
  refine Gsr ?_
  refine Lmv rfl rfl ?_
  refine Lpu rfl rfl trivial (pu_len Tryz.underlying24 rfl) ?_
  refine Lmv rfl rfl ?_
  refine Lnt ?_
  refine Gs.block ?_
  refine Gs.loop1 (fun s : Nat × (Option Addr × Nat) × List (SlV PostV) => s.1 ≤ zs.length ∧ EiIs rs f (zs.take s.1) s.2.2) (fun s => [(0, ptr x), (5, .slice s.2.1.1 s.2.2.length s.2.1.2), (11, .slice a zs.length c), (12, int zs.length), (13, int s.1)]) (fun s => [shA x rs, S, sl 94 1 slC s.2.1.1 s.2.1.2 s.2.2, big (s.2.2.map plS)] ++ R) (fun s => zs.length - s.1) (0, (none, 0), []) (⟨Nat.zero_le _, rfl, fun j l y h => by simp at h⟩) (by repeat constructor) (by repeat constructor) (fun s hs => ?_)
  obtain ⟨i, ⟨oa, oc⟩, ls⟩ := s
  obtain ⟨hi, hls⟩ := hs
  dsimp only at hi hls ⊢
  have hll : ls.length = i := by rw [hls.1, List.length_take]; omega
  refine Gsr ?_
  refine Lpu rfl rfl trivial (pu_lt rfl rfl) ?_
  refine Lnt ?_
  refine Gs.seq ?_
  refine Gs.cond rfl (fun hc0 => ?_) (fun hc0 => ?_)
  ·
   have hlt : i < zs.length := by have := of_decide_eq_true hc0; omega
   obtain ⟨y, hy⟩ : ∃ z, zs[i]? = some z := ⟨zs[i], by simp [hlt]⟩
   obtain rfl := ha (by rintro rfl; simp at hlt)
   refine Gs.skip ?_
   refine Gs.then_n ?_
   refine Gs.seq ?_
   refine Gs.block ?_
   refine Gsr ?_
   refine Lpu rfl rfl trivial (pu_ia se_24 rfl rfl (by omega) (by omega)) ?_
   refine Lrd rfl rfl trivial (rd_lda ag_26 rfl (Rdc.el0 (hS.h (by repeat constructor)) hy rfl rfl) rfl) ?_
   refine Lac rfl rfl trivial (ac_alloc zv_26 rfl) ?_
   rintro _ _ ⟨yb, rfl, rfl⟩
   refine Lac0 rfl trivial (ac_st sz_26 rfl rfl (by repeat constructor) rfl rfl rfl rfl) ?_
   rintro _ _ rfl
   refine Lnt ?_
   refine Gsr ?_
   refine Las rfl rfl ?_
   refine Lnil ?_
   refine Gs.slNil 106 3 postC (Gs.bigNil ?_)
   refine Gs.then_n ?_
   refine Gs.seq ?_
   refine Gsr ?_
   refine Lmv rfl rfl ?_
   refine Lrd rfl rfl trivial (rd_lda ag_26 rfl (Rdc.cl 4 (by repeat constructor) rfl) rfl) ?_
   refine Lac rfl rfl trivial (as_call (hk y (List.mem_of_getElem? hy)) (by repeat constructor) (by repeat constructor)) ?_
   rintro _ _ ⟨_, ⟨ka, kc, ks, rfl, hK, rfl⟩, rfl⟩
   refine Lpu rfl rfl trivial (pu_len Tryz.underlying48 rfl) ?_
   refine Lmv rfl rfl ?_
   refine Lnil ?_
   have hkn := hK.len
   refine Gs.slAddr (xs := ks) (SlH.own (E := 28) (enc := keyC) (a := ka) (c := kc) (by repeat constructor)) fun kb ko hka => ?_
   refine Gs.then_n ?_
   refine Gs.block ?_
   refine Gs.loop1 (fun s : Nat × (Option Addr × Nat) × List PostV => s.1 ≤ ks.length ∧ s.2.2.map PostV.k = ks.take s.1 ∧ ∀ p ∈ s.2.2, p.t.xs = [0]) (fun s => [(0, ptr x), (5, .slice oa ls.length oc), (8, .slice s.2.1.1 s.2.2.length s.2.1.2), (11, .slice (some ⟨ab, ao, none⟩) zs.length c), (12, int zs.length), (13, int i), (19, .slice ka ks.length kc), (20, int ks.length), (21, int s.1)]) (fun s => [shA x rs, S, sl 94 1 slC oa oc ls, big (ls.map plS), sl 28 2 keyC ka kc ks, sl 106 3 postC s.2.1.1 s.2.1.2 s.2.2, big (s.2.2.map atO)] ++ R) (fun s => ks.length - s.1) (0, (none, 0), []) (⟨Nat.zero_le _, rfl, fun _ h => by cases h⟩) (by repeat constructor) (by repeat constructor) (fun s hs1 => ?_)
   obtain ⟨j, ⟨pa, pc⟩, ps⟩ := s
   obtain ⟨hj, hps, hp0⟩ := hs1
   dsimp only at hj hps hp0 ⊢
   have hpl : ps.length = j := by have := congrArg List.length hps; rw [List.length_map, List.length_take] at this; omega
   refine Gsr ?_
   refine Lpu rfl rfl trivial (pu_lt rfl rfl) ?_
   refine Lnt ?_
   refine Gs.seq ?_
   refine Gs.cond rfl (fun hc1 => ?_) (fun hc1 => ?_)
   ·
    have hlt1 : j < ks.length := by have := of_decide_eq_true hc1; omega
    obtain ⟨k, hkj⟩ : ∃ z, ks[j]? = some z := ⟨ks[j], by simp [hlt1]⟩
    obtain rfl := hka (by rintro rfl; simp at hlt1)
    refine Gs.skip ?_
    refine Gs.then_n ?_
    refine Gs.seq ?_
    refine Gs.block ?_
    refine Gsr ?_
    refine Lpu rfl rfl trivial (pu_ia se_48 rfl rfl (by omega) (by omega)) ?_
    refine Lrd rfl rfl trivial (rd_lda ag_28 rfl (Rdc.el0 (SlH.own (xs := ks) (E := 28) (enc := keyC) (sz := 2) (by repeat constructor)) hkj rfl rfl) rfl) ?_
    refine Lac rfl rfl trivial (ac_alloc zv_28 rfl) ?_
    rintro _ _ ⟨kb2, rfl, rfl⟩
    refine Lac0 rfl trivial (ac_st sz_28 rfl rfl (by repeat constructor) rfl rfl rfl rfl) ?_
    rintro _ _ rfl
    refine Lnt ?_
    refine Gs.reg ?_
    refine Lmv rfl rfl ?_
    refine Lrd rfl rfl trivial (rd_lda ag_28 rfl (Rdc.cl 2 (by repeat constructor) rfl) rfl) ?_
    refine Lac rfl rfl trivial (ac_lit encC_3 ([(0 : Int)]) et_99 ek_3 rfl (by repeat constructor) rfl rfl (by decide)) ?_
    rintro _ _ ⟨a27, rfl, rfl⟩
    refine Lpu rfl rfl trivial (pu_build bd_106 (by repeat constructor) rfl) ?_
    refine Lac rfl rfl trivial (ac_lit encC_106 ([(⟨k, ⟨some ⟨a27, 0, none⟩, [0], 1⟩⟩ : PostV)]) et_94 ek_106 rfl (by repeat constructor) rfl rfl (by decide)) ?_
    rintro _ _ ⟨a29, rfl, rfl⟩
    refine Lac rfl rfl trivial (ac_append (xs := ps) (ys := [(⟨k, ⟨some ⟨a27, 0, none⟩, [0], 1⟩⟩ : PostV)]) et_94 ek_106 rfl rfl (by repeat constructor) (SrcH.sl Tryz.underlying94 ek_106 (SlH.own (by repeat constructor))) (by first | omega | (simp; omega)) (by first | omega | (simp; omega))) ?_
    rintro _ _ ⟨a30, c30, rfl, rfl⟩
    refine Las rfl rfl ?_
    refine Lnil ?_
    refine Gs.takes (As := [atO ⟨k, ⟨some ⟨a27, 0, none⟩, [0], 1⟩⟩, big (ps.map atO)]) (by repeat constructor) (Gs.bigBack take_snoc ?_)
    rw [show ps.map atO ++ [atO ⟨k, ⟨some ⟨a27, 0, none⟩, [0], 1⟩⟩] = (ps ++ [(⟨k, ⟨some ⟨a27, 0, none⟩, [0], 1⟩⟩ : PostV)]).map atO by rw [List.map_append]; rfl]
    refine Gs.blk_n ?_
    refine Gs.then_n ?_
    refine Gs.reg ?_
    refine Lpu rfl rfl trivial (by first | exact pu_addI rfl rfl rfl (by omega) (by omega) | exact pu_add rfl rfl) ?_
    refine Lmv rfl rfl ?_
    refine Lnt ?_
    exact Gs.again1 (j + 1, (a30, c30), ps ++ [(⟨k, ⟨some ⟨a27, 0, none⟩, [0], 1⟩⟩ : PostV)]) ⟨hlt1, by show (ps ++ _).map PostV.k = _; rw [List.map_append, hps, List.take_add_one, hkj]; rfl, fun p hm => by
    rcases List.mem_append.1 hm with h | h
    · exact hp0 p h
    · rw [List.mem_singleton.1 h]⟩ (by show ks.length - (j + 1) < ks.length - j; omega) (by repeat constructor) (by repeat constructor)
   ·
    have hge1 : j = ks.length := by have := of_decide_eq_false hc1; omega
    rw [hge1, List.take_length] at hps
    rw [← hps] at hK
    refine Gs.exit ?_
    refine Gs.then_x ?_
    refine Gs.then_x ?_
    refine Gs.blk_hit ?_
    refine Gs.then_n ?_
    refine Gs.reg ?_
    refine Lmv rfl rfl ?_
    refine Lmv rfl rfl ?_
    refine Lac rfl rfl trivial (ac_lit encC_94 ([(⟨pa, ps, pc⟩ : SlV PostV)]) et_120 ek_94 rfl (by repeat constructor) rfl rfl (by decide)) ?_
    rintro _ _ ⟨a34, rfl, rfl⟩
    refine Lac rfl rfl trivial (ac_append (xs := ls) (ys := [(⟨pa, ps, pc⟩ : SlV PostV)]) et_120 ek_94 rfl rfl (by repeat constructor) (SrcH.sl Tryz.underlying120 ek_94 (SlH.own (by repeat constructor))) (by first | omega | (simp; omega)) (by first | omega | (simp; omega))) ?_
    rintro _ _ ⟨a35, c35, rfl, rfl⟩
    refine Las rfl rfl ?_
    refine Lnil ?_
    refine Gs.takes (As := [sl 106 3 postC pa pc ps, big (ps.map atO)]) (by repeat constructor) (Gs.toTwo ?_)
    refine Gs.takes (As := [plS ⟨pa, ps, pc⟩, big (ls.map plS)]) (by repeat constructor) (Gs.bigBack take_snoc ?_)
    rw [show ls.map plS ++ [plS ⟨pa, ps, pc⟩] = (ls ++ [(⟨pa, ps, pc⟩ : SlV PostV)]).map plS by rw [List.map_append]; rfl]
    refine Gs.blk_n ?_
    refine Gs.then_n ?_
    refine Gs.reg ?_
    refine Lpu rfl rfl trivial (by first | exact pu_addI rfl rfl rfl (by omega) (by omega) | exact pu_add rfl rfl) ?_
    refine Lmv rfl rfl ?_
    refine Lnt ?_
    exact Gs.again1 (i + 1, (a35, c35), ls ++ [(⟨pa, ps, pc⟩ : SlV PostV)]) ⟨hlt, hls.snoc hy hK hp0⟩ (by show zs.length - (i + 1) < zs.length - i; omega) (by repeat constructor) (by repeat constructor)
  ·
   have hge : i = zs.length := by have := of_decide_eq_false hc0; omega
   rw [hge, List.take_length] at hls
   obtain ⟨hfl, hkl⟩ := hls.klen hr
   obtain ⟨hml, hor⟩ := hls.or
   refine Gs.takes (As := [sl 94 1 slC oa oc ls, big (ls.map plS)]) (by repeat constructor) (Gs.toTwo ?_)
   refine Gs.exit ?_
   refine Gs.then_x ?_
   refine Gs.then_x ?_
   refine Gs.blk_hit ?_
   refine Gs.then_n ?_
   refine Gsr ?_
   refine Lmv rfl rfl ?_
   refine Lac rfl rfl trivial (as_call (por_spec (S := lsO oa oc ls) (lsO_rd hfl) (by omega) (by rw [hll] at hkl; omega)) (by repeat constructor) (by repeat constructor)) ?_
   rintro _ _ ⟨_, ⟨za, zc, rfl, rfl⟩, rfl⟩
   refine Las rfl rfl ?_
   refine Lnt ?_
   refine Gs.ret ?_
   exact Gs.fin1 Tryz.results78 rfl _ (⟨za, zc, porV ls, rfl, by rw [porV_eq]; exact hor, rfl⟩) (by repeat constructor)
end Go.Proofs.YtklgiidfompdpaaGreatDoor
namespace Go.Proofs.YtklgiidfompdpaaGreatDoor
open Go Go.Sl Go.Gv Go.Kv Go.Po Go.Ix Go.Qu Go.Shelf
set_option maxRecDepth 100000
theorem lrd_one {a b : Option Addr} {c e : Nat} {qs : List PostV} (h1 : qs.length ≤ 1000) (h2 : ∀ p ∈ qs, p.t.xs.length ≤ 1000) : LRd (two (sl 94 1 slC a c [(⟨b, qs, e⟩ : SlV PostV)]) (plO b e qs)) a [(⟨b, qs, e⟩ : SlV PostV)] :=
  ⟨Srd.two1 Srd.own, fun l hl => by
    rw [List.mem_singleton.1 hl]
    exact ⟨⟨Srd.two2 (prd_plO h2).1, fun p hp => ⟨Srd.two2 ((prd_plO h2).2 p hp).1, h2 p hp⟩⟩, h1⟩⟩
set_option maxHeartbeats 1000000 in
theorem skeysA_spec (x : Nat) (rs : List Rec) (hr : rs.length ≤ 800) {S : HProp} : ∀ (d : Nat) {y : AskV} (hA : ARd S y) (hF : FewA d y) (hG : goodA oddB d y = true),
    Ct Tryz.prog 43 [ptr x, askV y] [shA x rs, S] (fun v hs => ∃ a c ks, v = .slice a ks.length c ∧ IsK rs (holdsQ d y) ks ∧ hs = [shA x rs, S, sl 28 2 keyC a c ks])
  | 0, y, hA, hF, hG => hF.elim
  | d + 1, y, hA, hF, hG => by
    have ih := @skeysA_spec x rs hr S d
    have hkd := good_kind hG
    have hgs := good_subs hG
    obtain ⟨hf1, hf2, hf3, hf4⟩ := hF
    have hmx : maxLen = 9223372036854775807 := by decide
    have hxl := hA.l
    refine Ct.intro Tryz.func43 rfl (by kernel_rfl) 85 Tryz.ntmps43 (Nat.le_of_ble_eq_true rfl) fun w0 R => ?_
    refine Gs.slAddr (hA.s.h (by repeat constructor)) fun ab ao ha => ?_
    refine Gs.slAddr (hA.w.h (by repeat constructor)) fun ub uo hu => ?_
    refine Gsr ?_
    refine Lac rfl rfl trivial (ac_box rfl rfl) ?_
    rintro _ _ ⟨yb, rfl, rfl⟩
    refine Las rfl rfl ?_
    refine Lnt ?_
    refine Gs.seq ?_
    refine Gsr ?_
    refine Lpu rfl rfl trivial (pu_fa fa_26_0 rfl) ?_
    refine Lrd rfl rfl trivial (rd_ld na_3 rfl (Rdc.cl1 (by repeat constructor) rfl)) ?_
    refine Lnt ?_
    refine Gs.block ?_
    refine Gsr ?_
    refine Lpu rfl rfl trivial (pu_eq rfl rfl) ?_
    refine Las rfl rfl ?_
    refine Lnt ?_
    refine Gs.cond rfl (fun hk1 => ?_) (fun hk1 => ?_)
    ·
     have hwl : y.ws.length = 1 := by
       have h2 := of_decide_eq_true hk1
       rcases hkd with h | h | h | h | h
       · exact h.2.2
       · omega
       · omega
       · omega
       · omega
     obtain ⟨w, hw⟩ := List.length_eq_one_iff.1 hwl
     refine Gsr ?_
     refine Lmv rfl rfl ?_
     refine Lpu rfl rfl trivial (pu_fa fa_26_2 rfl) ?_
     refine Lrd rfl rfl trivial (rd_ld na_23 rfl (Rdc.cl1 (by repeat constructor) rfl)) ?_
     refine Lac rfl rfl trivial (as_call (slists_spec x rs hr hA.w (by show y.ws.length ≤ 800; omega)) (by repeat constructor) (by repeat constructor)) ?_
     rintro _ _ ⟨_, ⟨la, lc, ls, s, rfl, hI, hls, hfl, hlc, rfl⟩, rfl⟩
     refine Lac rfl rfl trivial (as_call (pand_spec (S := lsO la lc ls) (lsO_rd hfl) (by have h : ls.length = y.ws.length := hlc.1; omega) hlc.2) (by repeat constructor) (by repeat constructor)) ?_
     rintro _ _ ⟨_, ⟨za, zc, rfl, rfl⟩, rfl⟩
     refine Las rfl rfl ?_
     refine Lnt ?_
     refine Gs.ret ?_
     refine Gs.blk_r ?_
     refine Gs.then_r ?_
     exact Gs.fin1 Tryz.results43 rfl _ (⟨za, zc, _, rfl, by
       rw [eachV_and]
       have hls2 : LsIs s.1 [w] ls := hw ▸ hls
       exact (IsK.word hI hls2).congr fun r _ => by
         show _ = holdsA preB r (wordsB r.t) (d + 1) y
         rw [holds_1 (.inl (of_decide_eq_true hk1)), hw], rfl⟩) (by repeat constructor)
    ·
     refine Gsr ?_
     refine Lpu rfl rfl trivial (pu_eq rfl rfl) ?_
     refine Las rfl rfl ?_
     refine Lnt ?_
     refine Gs.cond rfl (fun hk2 => ?_) (fun hk2 => ?_)
     ·
      have hwl : y.ws.length = 1 := by
        have h2 := of_decide_eq_true hk2
        rcases hkd with h | h | h | h | h
        · exact h.2.2
        · omega
        · omega
        · omega
        · omega
      obtain ⟨w, hw⟩ := List.length_eq_one_iff.1 hwl
      have hw0 : y.w.xs[0]? = some w := by show y.ws[0]? = _; rw [hw]; rfl
      have h1l : y.w.xs.length = 1 := hwl
      have hua := hu (fun e => by rw [e] at h1l; cases h1l)
      have hus := hA.w
      rw [hua] at hus
      refine Gs.takes (As := [shA x rs]) (by repeat constructor) (Gs.sh fun ix L W m M hI hM => ?_)
      refine Gs.seq ?_
      refine Gs.regD mixed (by kernel_rfl) ?_
      refine Rg.pu 0 rfl rfl (by kernel_rfl) trivial (pu_move rfl) ?_
      refine Rg.pu 1 rfl rfl (by kernel_rfl) trivial (by first | exact pu_nil rfl | exact pu_nilF rfl) ?_
      refine Rg.pu 2 rfl rfl (by kernel_rfl) trivial (pu_fa fa_76_0 rfl) ?_
      refine Rg.rd 3 rfl rfl (by kernel_rfl) trivial (rd_ld na_72 rfl (Rdc.cl1 (by repeat constructor) rfl)) ?_
      refine Rg.pu 4 rfl rfl (by kernel_rfl) trivial (pu_fa fa_26_2 rfl) ?_
      refine Rg.rd 5 rfl rfl (by kernel_rfl) trivial (rd_ld na_23 rfl (Rdc.cl1 (by repeat constructor) rfl)) ?_
      rw [hua]
      refine Rg.pu 6 rfl rfl (by kernel_rfl) trivial (pu_ia se_23 rfl rfl (by omega) (by omega)) ?_
      refine Rg.rd 7 rfl rfl (by kernel_rfl) trivial (rd_ld na_9 rfl (Rdc.el0 (hus.h (by repeat constructor)) hw0 rfl rfl)) ?_
      refine Rg.one (by kernel_rfl) (Stp.ac 8 rfl rfl (by kernel_rfl) trivial (as_call (prefix_spec ix L W w (by have := hI.llen; omega)) (by repeat constructor) (by repeat constructor))  ?_)
      rintro _ _ ⟨_, ⟨qa, qc, qs, rfl, hqp, hqo, rfl⟩, rfl⟩
      have hpre := IsK.prefix hI w (l := (⟨qa, qs, qc⟩ : SlV PostV)) hqp (List.pairwise_map.2 hqo)
      have hq1 : qs.length ≤ 1000 := by have h9 : qs.length ≤ rs.length := hpre.1.2.1; omega
      have hq2 : ∀ p ∈ qs, p.t.xs.length ≤ 1000 := hpre.1.2.2
      refine Rg.one (by kernel_rfl) (Stp.ac 9 rfl rfl (by kernel_rfl) trivial (ac_lit encC_94 ([(⟨qa, qs, qc⟩ : SlV PostV)]) et_120 ek_94 rfl (by repeat constructor) rfl rfl (by decide))  ?_)
      rintro _ _ ⟨a29, rfl, rfl⟩
      refine Rg.one (by kernel_rfl) (Stp.ac 10 rfl rfl (by kernel_rfl) trivial (as_call (Ct.two (pand_spec (a := some ⟨a29, 0, none⟩) (c := 1) (ls := [(⟨qa, qs, qc⟩ : SlV PostV)]) (lrd_one hq1 hq2) (by show 1 ≤ 900; omega) (Nat.le_refl _)) (by rintro _ _ ⟨_, _, _, rfl⟩; exact ⟨_, rfl⟩)) (by repeat constructor) (by repeat constructor))  ?_)
      rintro _ _ ⟨_, ⟨_, ⟨za, zc, rfl, ⟨⟩⟩, rfl⟩, rfl⟩
      refine Rg.pu 11 rfl rfl (by kernel_rfl) trivial (pu_assign rfl) ?_
      refine Rg.end (by kernel_rfl) ?_
      refine Gs.then_n ?_
      refine Gs.ret ?_
      refine Gs.blk_r ?_
      refine Gs.then_r ?_
      refine Gs.takes (As := [cl x 76 (shC ix m), ixA ix L W, mp keyV recV m M]) (by repeat constructor) (Gs.shc hI hM ?_)
      exact Gs.fin1 Tryz.results43 rfl _ (⟨za, zc, _, rfl, by
        rw [eachV_and]
        exact hpre.2.congr fun r _ => by
          show _ = holdsA preB r (wordsB r.t) (d + 1) y
          rw [holds_2 (of_decide_eq_true hk2), hw]; rfl, rfl⟩) (by repeat constructor)
     ·
      refine Gsr ?_
      refine Lpu rfl rfl trivial (pu_eq rfl rfl) ?_
      refine Las rfl rfl ?_
      refine Lnt ?_
      refine Gs.cond rfl (fun hk3 => ?_) (fun hk3 => ?_)
      ·
       have hwl : 1 ≤ y.ws.length ∧ y.ws.length ≤ 16 := by
         have h2 := of_decide_eq_true hk3
         rcases hkd with h | h | h | h | h
         · omega
         · exact h.2.2
         · omega
         · omega
         · omega
       have hwne : y.ws ≠ [] := fun e => by rw [e] at hwl; simp at hwl
       refine Gsr ?_
       refine Lmv rfl rfl ?_
       refine Lpu rfl rfl trivial (pu_fa fa_26_2 rfl) ?_
       refine Lrd rfl rfl trivial (rd_ld na_23 rfl (Rdc.cl1 (by repeat constructor) rfl)) ?_
       refine Lac rfl rfl trivial (as_call (slists_spec x rs hr hA.w (by show y.ws.length ≤ 800; omega)) (by repeat constructor) (by repeat constructor)) ?_
       rintro _ _ ⟨_, ⟨la, lc, ls, s, rfl, hI, hls, hfl, hlc, rfl⟩, rfl⟩
       refine Lac rfl rfl trivial (as_call (pphrase_spec (S := lsO la lc ls) (lsO_rd hfl) (by have h : ls.length = y.ws.length := hlc.1; omega) hlc.2) (by repeat constructor) (by repeat constructor)) ?_
       rintro _ _ ⟨_, ⟨za, zc, rfl, rfl⟩, rfl⟩
       refine Las rfl rfl ?_
       refine Lnt ?_
       refine Gs.ret ?_
       refine Gs.blk_r ?_
       refine Gs.then_r ?_
       exact Gs.fin1 Tryz.results43 rfl _ (⟨za, zc, _, rfl, by
         rw [phrase_eq']
         exact (IsK.phrase hI hls hwne (by show y.ws.length ≤ 900; omega)).congr fun r _ => by
           show _ = holdsA preB r (wordsB r.t) (d + 1) y
           rw [holds_1 (.inr (of_decide_eq_true hk3))], rfl⟩) (by repeat constructor)
      ·
       refine Gsr ?_
       refine Lpu rfl rfl trivial (pu_eq rfl rfl) ?_
       refine Las rfl rfl ?_
       refine Lnt ?_
       refine Gs.cond rfl (fun hk4 => ?_) (fun hk4 => ?_)
       ·
        refine Gsr ?_
        refine Lmv rfl rfl ?_
        refine Lpu rfl rfl trivial (pu_func (by repeat constructor) (by repeat constructor)) ?_
        refine Lac rfl rfl trivial (as_call (swhich_spec x rs hr (g := 75) (cs := [ptr yb]) (keys1_spec y yb)) (by repeat constructor) (by repeat constructor)) ?_
        rintro _ _ ⟨_, ⟨za, zc, ks, rfl, hK, rfl⟩, rfl⟩
        refine Las rfl rfl ?_
        refine Lnt ?_
        refine Gs.ret ?_
        refine Gs.blk_r ?_
        refine Gs.then_r ?_
        exact Gs.fin1 Tryz.results43 rfl _ (⟨za, zc, ks, rfl, hK.congr fun r _ => by
            show _ = holdsA preB r (wordsB r.t) (d + 1) y
            rw [holds_4 (of_decide_eq_true hk4)], rfl⟩) (by repeat constructor)
       ·
        refine Gsr ?_
        refine Lpu rfl rfl trivial (pu_eq rfl rfl) ?_
        refine Las rfl rfl ?_
        refine Lnt ?_
        refine Gs.cond rfl (fun hk5 => ?_) (fun hk5 => ?_)
        ·
         refine Gsr ?_
         refine Lmv rfl rfl ?_
         refine Lpu rfl rfl trivial (pu_func (by repeat constructor) (by repeat constructor)) ?_
         refine Lac rfl rfl trivial (as_call (swhich_spec x rs hr (g := 76) (cs := [ptr yb]) (keys2_spec y yb)) (by repeat constructor) (by repeat constructor)) ?_
         rintro _ _ ⟨_, ⟨za, zc, ks, rfl, hK, rfl⟩, rfl⟩
         refine Las rfl rfl ?_
         refine Lnt ?_
         refine Gs.ret ?_
         refine Gs.blk_r ?_
         refine Gs.then_r ?_
         exact Gs.fin1 Tryz.results43 rfl _ (⟨za, zc, ks, rfl, hK.congr fun r _ => by
             show _ = holdsA preB r (wordsB r.t) (d + 1) y
             rw [holds_5 (of_decide_eq_true hk5)], rfl⟩) (by repeat constructor)
        ·
         refine Gsr ?_
         refine Lpu rfl rfl trivial (pu_eq rfl rfl) ?_
         refine Las rfl rfl ?_
         refine Lnt ?_
         refine Gs.cond rfl (fun hk6 => ?_) (fun hk6 => ?_)
         ·
          refine Gsr ?_
          refine Lmv rfl rfl ?_
          refine Lpu rfl rfl trivial (pu_func (by repeat constructor) (by repeat constructor)) ?_
          refine Lac rfl rfl trivial (as_call (swhich_spec x rs hr (g := 77) (cs := [ptr yb]) (keys3_spec y yb)) (by repeat constructor) (by repeat constructor)) ?_
          rintro _ _ ⟨_, ⟨za, zc, ks, rfl, hK, rfl⟩, rfl⟩
          refine Las rfl rfl ?_
          refine Lnt ?_
          refine Gs.ret ?_
          refine Gs.blk_r ?_
          refine Gs.then_r ?_
          exact Gs.fin1 Tryz.results43 rfl _ (⟨za, zc, ks, rfl, hK.congr fun r _ => by
              show _ = holdsA preB r (wordsB r.t) (d + 1) y
              rw [holds_6 (of_decide_eq_true hk6)], rfl⟩) (by repeat constructor)
         ·
          refine Gsr ?_
          refine Lpu rfl rfl trivial (pu_eq rfl rfl) ?_
          refine Las rfl rfl ?_
          refine Lnt ?_
          refine Gs.cond rfl (fun hk8 => ?_) (fun hk8 => ?_)
          ·
           refine Gsr ?_
           refine Lmv rfl rfl ?_
           refine Lpu rfl rfl trivial (pu_fa fa_26_3 rfl) ?_
           refine Lrd rfl rfl trivial (rd_ld na_24 rfl (Rdc.cl1 (by repeat constructor) rfl)) ?_
           refine Lac rfl rfl trivial (as_call (seither_spec x rs hr (f := holdsQ d) hA.s (by omega) (fun z hz => ih (hA.sub z hz) (hf4 z hz) (hgs z hz))) (by repeat constructor) (by repeat constructor)) ?_
           rintro _ _ ⟨_, ⟨za, zc, ks, rfl, hK, rfl⟩, rfl⟩
           refine Las rfl rfl ?_
           refine Lnt ?_
           refine Gs.ret ?_
           refine Gs.blk_r ?_
           refine Gs.then_r ?_
           exact Gs.fin1 Tryz.results43 rfl _ (⟨za, zc, ks, rfl, hK.congr fun r _ => by
               show _ = holdsA preB r (wordsB r.t) (d + 1) y
               rw [holds_8 (of_decide_eq_true hk8)]; rfl, rfl⟩) (by repeat constructor)
          ·
           have hk79 : y.kind = 7 ∨ y.kind = 9 := by
             have e1 := of_decide_eq_false hk1
             have e2 := of_decide_eq_false hk2
             have e3 := of_decide_eq_false hk3
             have e4 := of_decide_eq_false hk4
             have e5 := of_decide_eq_false hk5
             have e6 := of_decide_eq_false hk6
             have e8 := of_decide_eq_false hk8
             omega
           refine Gs.takes (As := [shA x rs]) (by repeat constructor) (Gs.sh fun ix L W m M hI hM => ?_)
           refine Gs.skip ?_
           refine Gs.blk_n ?_
           refine Gs.then_n ?_
           refine Gsr ?_
           refine Lmv rfl rfl ?_
           refine Lpu rfl rfl trivial (by first | exact pu_nil rfl | exact pu_nilF rfl) ?_
           refine Lpu rfl rfl trivial (pu_fa fa_76_0 rfl) ?_
           refine Lrd rfl rfl trivial (rd_ld na_72 rfl (Rdc.cl1 (by repeat constructor) rfl)) ?_
           refine Lac rfl rfl trivial (as_call (skeys_spec x rs (by omega) hI (m := m)) (by repeat constructor) (by repeat constructor)) ?_
           rintro _ _ ⟨_, ⟨ka, kc, ks, rfl, hK, rfl⟩, rfl⟩
           refine Las rfl rfl ?_
           refine Lnil ?_
           have hn := hI.keys
           refine Gs.takes (As := [cl x 76 (shC ix m), ixA ix L W, mp keyV recV m M]) (by repeat constructor) (Gs.shc hI hM ?_)
           refine Gs.then_n ?_
           refine Gs.seq ?_
           refine Gsr ?_
           refine Lpu rfl rfl trivial (pu_fa fa_26_3 rfl) ?_
           refine Lrd rfl rfl trivial (rd_ld na_24 rfl (Rdc.cl1 (by repeat constructor) rfl)) ?_
           refine Lpu rfl rfl trivial (pu_len Tryz.underlying24 rfl) ?_
           refine Lmv rfl rfl ?_
           refine Lnt ?_
           refine Gs.block ?_
           refine Gs.loop1 (fun s : Nat × (Option Addr × Nat) × List Key => s.1 ≤ y.ss.length ∧ (y.kind = 9 → s.1 = 0) ∧ IsK rs (fun r => (y.ss.take s.1).all fun z => holdsQ d z r) s.2.2) (fun s => [(0, ptr x), (3, ptr yb), (5, .slice s.2.1.1 s.2.2.length s.2.1.2), (65, .slice y.sa y.ss.length y.sc), (66, int y.ss.length), (67, int s.1)]) (fun s => [shA x rs, S, cl yb 26 (askC y), sl 28 2 keyC s.2.1.1 s.2.1.2 s.2.2] ++ R) (fun s => y.ss.length - s.1) (0, (ka, kc), ks) (⟨Nat.zero_le _, fun _ => rfl, hK⟩) (by repeat constructor) (by repeat constructor) (fun s hs => ?_)
           obtain ⟨i, ⟨la, lc⟩, left⟩ := s
           obtain ⟨hi, h9, hL⟩ := hs
           dsimp only at hi h9 hL ⊢
           have hLl := hL.len
           refine Gsr ?_
           refine Lpu rfl rfl trivial (pu_lt rfl rfl) ?_
           refine Lnt ?_
           refine Gs.seq ?_
           refine Gs.cond rfl (fun hc7 => ?_) (fun hc7 => ?_)
           ·
            have hlt : i < y.ss.length := by have := of_decide_eq_true hc7; omega
            obtain ⟨z, hz⟩ : ∃ z, y.ss[i]? = some z := ⟨y.ss[i], by simp [hlt]⟩
            have hzm := List.mem_of_getElem? hz
            have hsa := ha (fun e => by rw [e] at hlt; exact Nat.not_lt_zero _ hlt)
            have hs := hA.s
            rw [hsa] at hs ⊢
            refine Gs.skip ?_
            refine Gs.then_n ?_
            refine Gs.seq ?_
            refine Gs.block ?_
            refine Gsr ?_
            refine Lpu rfl rfl trivial (pu_ia se_24 rfl rfl (by omega) (by omega)) ?_
            refine Lrd rfl rfl trivial (rd_lda ag_26 rfl (Rdc.el0 (hs.h (by repeat constructor)) hz rfl rfl) rfl) ?_
            refine Lac rfl rfl trivial (ac_alloc zv_26 rfl) ?_
            rintro _ _ ⟨zb, rfl, rfl⟩
            refine Lac0 rfl trivial (ac_st sz_26 rfl rfl (by repeat constructor) rfl rfl rfl rfl) ?_
            rintro _ _ rfl
            refine Lnt ?_
            refine Gsr ?_
            refine Lmv rfl rfl ?_
            refine Lmv rfl rfl ?_
            refine Lrd rfl rfl trivial (rd_lda ag_26 rfl (Rdc.cl 4 (by repeat constructor) rfl) rfl) ?_
            refine Lac rfl rfl trivial (as_call (ih (hA.sub z hzm) (hf4 z hzm) (hgs z hzm)) (by repeat constructor) (by repeat constructor)) ?_
            rintro _ _ ⟨_, ⟨za, zc, zs, rfl, hZ, rfl⟩, rfl⟩
            have hZl := hZ.len
            have hW := IsK.less hn hL hZ
            have hWl := hW.len
            refine Lac rfl rfl trivial (as_call (Ct.two (pless_spec (S := two (sl 28 2 keyC la lc left) (sl 28 2 keyC za zc zs)) (a := la) (b := za) (c := lc) (d := zc) (Srd.two1 Srd.own) (Srd.two2 Srd.own) (by omega) (by omega)) (by rintro _ _ ⟨_, _, _, rfl⟩; exact ⟨_, rfl⟩)) (by repeat constructor) (by repeat constructor)) ?_
            rintro _ _ ⟨_, ⟨_, ⟨wa, wc, rfl, ⟨⟩⟩, rfl⟩, rfl⟩
            refine Las rfl rfl ?_
            refine Lnt ?_
            refine Gs.seq ?_
            refine Gsr ?_
            refine Lpu rfl rfl trivial (pu_fa fa_26_0 rfl) ?_
            refine Lrd rfl rfl trivial (rd_ld na_3 rfl (Rdc.cl1 (by repeat constructor) rfl)) ?_
            refine Lpu rfl rfl trivial (pu_eq rfl rfl) ?_
            refine Lnt ?_
            refine Gs.cond rfl (fun hk9 => ?_) (fun hk9 => ?_)
            ·
             have hi0 : i = 0 := h9 (of_decide_eq_true hk9)
             subst hi0
             have hsl : y.ss = [z] := by
               have h1 : y.ss.length = 1 := by
                 have h2 := of_decide_eq_true hk9
                 rcases hkd with h | h | h | h | h
                 · omega
                 · omega
                 · omega
                 · exact h.2
                 · omega
               obtain ⟨z', hz'⟩ := List.length_eq_one_iff.1 h1
               rw [hz'] at hz ⊢
               simp at hz; rw [hz]
             refine Gsr ?_
             refine Lmv rfl rfl ?_
             refine Las rfl rfl ?_
             refine Lnt ?_
             refine Gs.ret ?_
             refine Gs.then_r ?_
             refine Gs.blk_r ?_
             refine Gs.then_r ?_
             refine Gs.then_r ?_
             refine Gs.blk_r ?_
             refine Gs.then_r ?_
             exact Gs.fin1 Tryz.results43 rfl _ (⟨wa, wc, _, rfl, hW.congr fun r _ => by
                 show _ = holdsA preB r (wordsB r.t) (d + 1) y
                 rw [holdsNot (of_decide_eq_true hk9) hsl]; rfl, rfl⟩) (by repeat constructor)
            ·
             have hnx := IsK.less hn hL hW
             have hnx2 : IsK rs (fun r => (y.ss.take (i + 1)).all fun z => holdsQ d z r) (lessK left (lessK left zs)) := hnx.congr fun r _ => by
               rw [List.take_add_one, hz, List.all_append]
               show _ = ((y.ss.take i).all (fun z => holdsQ d z r) && ([z].all fun z => holdsQ d z r))
               rw [List.all_cons, List.all_nil, Bool.and_true]
               cases (y.ss.take i).all (fun z => holdsQ d z r) <;> cases holdsQ d z r <;> rfl
             refine Gs.skip ?_
             refine Gs.then_n ?_
             refine Gs.reg ?_
             refine Lmv rfl rfl ?_
             refine Lmv rfl rfl ?_
             refine Lac rfl rfl trivial (as_call (Ct.two (pless_spec (S := two (sl 28 2 keyC la lc left) (sl 28 2 keyC wa wc (lessK left zs))) (a := la) (b := wa) (c := lc) (d := wc) (Srd.two1 Srd.own) (Srd.two2 Srd.own) (by omega) (by omega)) (by rintro _ _ ⟨_, _, _, rfl⟩; exact ⟨_, rfl⟩)) (by repeat constructor) (by repeat constructor)) ?_
             rintro _ _ ⟨_, ⟨_, ⟨va, vc, rfl, ⟨⟩⟩, rfl⟩, rfl⟩
             refine Las rfl rfl ?_
             refine Lnil ?_
             refine Gs.blk_n ?_
             refine Gs.then_n ?_
             refine Gs.reg ?_
             refine Lpu rfl rfl trivial (by first | exact pu_addI rfl rfl rfl (by omega) (by omega) | exact pu_add rfl rfl) ?_
             refine Lmv rfl rfl ?_
             refine Lnt ?_
             exact Gs.again1 (i + 1, (va, vc), lessK left (lessK left zs)) ⟨hlt, fun h => ((of_decide_eq_false hk9) h).elim, hnx2⟩ (by show y.ss.length - (i + 1) < y.ss.length - i; omega) (by repeat constructor) (by repeat constructor)
           ·
            have hge : i = y.ss.length := by have := of_decide_eq_false hc7; omega
            rw [hge, List.take_length] at hL
            have hk7 : y.kind = 7 := by
              rcases hk79 with h | h
              · exact h
              · exfalso
                have hz := h9 h
                rcases hkd with h2 | h2 | h2 | h2 | h2
                · omega
                · omega
                · omega
                · omega
                · omega
            refine Gs.exit ?_
            refine Gs.then_x ?_
            refine Gs.then_x ?_
            refine Gs.blk_hit ?_
            refine Gs.then_n ?_
            refine Gsr ?_
            refine Lmv rfl rfl ?_
            refine Las rfl rfl ?_
            refine Lnt ?_
            refine Gs.ret ?_
            exact Gs.fin1 Tryz.results43 rfl _ (⟨la, lc, left, rfl, hL.congr fun r _ => by
                show _ = holdsA preB r (wordsB r.t) (d + 1) y
                rw [holds_7 hk7]; rfl, rfl⟩) (by repeat constructor)
/-- What Keys answers. -/
def KsQ (rs : List Rec) (d : Nat) (y : AskV) (ks : List Key) : Prop := (mayA d y = true → IsK rs (holdsQ d y) ks) ∧ (mayA d y = false → ks = [])
theorem sKeys_spec (x : Nat) (rs : List Rec) (hr : rs.length ≤ 800) {S : HProp} (hT : TabU S) {d : Nat} {y : AskV} (hA : ARd S y) (hF : FewA d y) (hz : sizeA d y ≤ 1000) (hd : d ≤ 1000) :
    Ct Tryz.prog 19 [ptr x, askV y] [shA x rs, S] (fun v hs => ∃ a c ks, v = .slice a ks.length c ∧ KsQ rs d y ks ∧ hs = [shA x rs, S, sl 28 2 keyC a c ks]) := by
  refine Ct.intro Tryz.func19 rfl (by kernel_rfl) 15 Tryz.ntmps19 (Nat.le_of_ble_eq_true rfl) fun w0 R => ?_
  refine Gsr ?_
  refine Lac rfl rfl trivial (ac_box rfl rfl) ?_
  rintro _ _ ⟨yb, rfl, rfl⟩
  refine Las rfl rfl ?_
  refine Lnt ?_
  refine Gs.seq ?_
  refine Gsr ?_
  refine Lmv rfl rfl ?_
  refine Lpu rfl rfl trivial (pu_eqN Tryz.underlying38 rfl rfl) ?_
  refine LpuBf rfl rfl trivial (pu_move rfl) rfl ?_
  refine Lrd rfl rfl ⟨_, rfl, rfl⟩ (rd_lda ag_26 rfl (Rdc.cl 4 (by repeat constructor) rfl) rfl) ?_
  refine Lac rfl rfl ⟨_, rfl, rfl⟩ (as_call (mayA_spec hT hA hF hz hd) (by repeat constructor) (by repeat constructor)) ?_
  rintro _ _ ⟨_, ⟨rfl, rfl⟩, rfl⟩
  refine Lpu rfl rfl ⟨_, rfl, rfl⟩ (pu_not rfl) ?_
  refine Lpu rfl rfl trivial (by first | exact pu_pick_t rfl rfl | exact pu_pick_f rfl rfl) ?_
  refine Lnt ?_
  refine Gs.cond rfl (fun hc0 => ?_) (fun hc0 => ?_)
  ·
   have hno : mayA d y = false := by simpa using hc0
   refine Gs.slNil 28 2 keyC ?_
   refine Gsr ?_
   refine Las rfl rfl ?_
   refine Lnt ?_
   refine Gs.ret ?_
   refine Gs.then_r ?_
   exact Gs.fin1 Tryz.results19 rfl _ (⟨none, 0, [], rfl, ⟨fun h => absurd h (by rw [hno]; decide), fun _ => rfl⟩, rfl⟩) (by repeat constructor)
  ·
   have hyes : mayA d y = true := by simpa using hc0
   refine Gs.skip ?_
   refine Gs.then_n ?_
   refine Gsr ?_
   refine Lmv rfl rfl ?_
   refine Lrd rfl rfl trivial (rd_lda ag_26 rfl (Rdc.cl 4 (by repeat constructor) rfl) rfl) ?_
   refine Lac rfl rfl trivial (as_call (skeysA_spec x rs hr d hA hF (may_good hyes)) (by repeat constructor) (by repeat constructor)) ?_
   rintro _ _ ⟨_, ⟨ka, kc, ks, rfl, hK, rfl⟩, rfl⟩
   refine Las rfl rfl ?_
   refine Lnt ?_
   refine Gs.ret ?_
   exact Gs.fin1 Tryz.results19 rfl _ (⟨ka, kc, ks, rfl, ⟨fun _ => hK, fun h => absurd h (by rw [hyes]; decide)⟩, rfl⟩) (by repeat constructor)
end Go.Proofs.YtklgiidfompdpaaGreatDoor
namespace Go.Proofs.YtklgiidfompdpaaGreatDoor
open Go Go.Sl Go.Gv Go.Kv Go.Po Go.Ix
set_option maxRecDepth 100000
theorem sameRecs_spec {S : HProp} {a b : Option Addr} {c d : Nat} {xs ys : List Rec} (hS : Srd S 5 recC a xs) (hU : Srd S 5 recC b ys) (hl : xs.length ≤ 1000000) :
    Ct Tryz.prog 21 [.slice a xs.length c, .slice b ys.length d] [S] (fun v hs => v = .bool (decide (xs = ys)) ∧ hs = [S]) := by
  refine Ct.intro Tryz.func21 rfl (by kernel_rfl) 26 Tryz.ntmps21 (Nat.le_of_ble_eq_true rfl) fun w0 R => ?_
  refine Gs.slAddr (hS.h (by repeat constructor)) fun ab ao ha => ?_
  refine Gs.slAddr (hU.h (by repeat constructor)) fun ub uo hu => ?_
  refine Gsr ?_
  refine Las rfl rfl ?_
  refine Lnt ?_
  refine Gs.seq ?_
  refine Gsr ?_
  refine Lmv rfl rfl ?_
  refine Lpu rfl rfl trivial (pu_len Tryz.underlying41 rfl) ?_
  refine Lmv rfl rfl ?_
  refine Lpu rfl rfl trivial (pu_len Tryz.underlying41 rfl) ?_
  refine Lpu rfl rfl trivial (pu_ne rfl rfl) ?_
  refine Lnt ?_
  refine Gs.cond rfl (fun hc0 => ?_) (fun hc0 => ?_)
  ·
   have hne : ¬ xs = ys := fun e => by have := of_decide_eq_true hc0; rw [e] at this; exact this rfl
   refine Gsr ?_
   refine Las rfl rfl ?_
   refine Lnt ?_
   refine Gs.ret ?_
   refine Gs.then_r ?_
   exact Gs.fin1 Tryz.results21 rfl _ (⟨by rw [decide_eq_false hne], rfl⟩) (by repeat constructor)
  ·
   have hle : xs.length = ys.length := by have := of_decide_eq_false hc0; omega
   refine Gs.skip ?_
   refine Gs.then_n ?_
   refine Gs.seq ?_
   refine Gsr ?_
   refine Las rfl rfl ?_
   refine Lnt ?_
   refine Gs.block ?_
   refine Gs.loop1 (fun i : Nat => i ≤ xs.length ∧ xs.take i = ys.take i) (fun i => [(0, .slice a xs.length c), (1, .slice b ys.length d), (5, int i)]) (fun i => [S] ++ R) (fun i => xs.length - i) 0 (⟨Nat.zero_le _, rfl⟩) (by repeat constructor) (by repeat constructor) (fun i ⟨hi, ht⟩ => ?_)
   refine Gs.seq ?_
   refine Gsr ?_
   refine Lmv rfl rfl ?_
   refine Lmv rfl rfl ?_
   refine Lpu rfl rfl trivial (pu_len Tryz.underlying41 rfl) ?_
   refine Lpu rfl rfl trivial (pu_lt rfl rfl) ?_
   refine Lnt ?_
   refine Gs.cond rfl (fun hc1 => ?_) (fun hc1 => ?_)
   ·
    have hlt : i < xs.length := by have := of_decide_eq_true hc1; omega
    obtain ⟨x, hx⟩ : ∃ x, xs[i]? = some x := ⟨xs[i], by simp [hlt]⟩
    obtain ⟨y, hy⟩ : ∃ x, ys[i]? = some x := ⟨ys[i]'(by omega), by simp [← hle, hlt]⟩
    obtain rfl := ha (by rintro rfl; simp at hlt)
    obtain rfl := hu (by rintro rfl; simp at hy)
    refine Gs.skip ?_
    refine Gs.then_n ?_
    refine Gs.seq ?_
    refine Gs.block ?_
    refine Gs.seq ?_
    refine Gs.regD mixed (by kernel_rfl) ?_
    refine Rg.pu 0 rfl rfl (by kernel_rfl) trivial (pu_move rfl) ?_
    refine Rg.pu 1 rfl rfl (by kernel_rfl) trivial (pu_move rfl) ?_
    refine Rg.pu 2 rfl rfl (by kernel_rfl) trivial (pu_ia se_41 rfl rfl (by omega) (by omega)) ?_
    refine Rg.rd 3 rfl rfl (by kernel_rfl) trivial (rd_lda ag_32 rfl (Rdc.el0 (hS.h (by repeat constructor)) hx rfl rfl) rfl) ?_
    refine Rg.pu 4 rfl rfl (by kernel_rfl) trivial (pu_move rfl) ?_
    refine Rg.pu 5 rfl rfl (by kernel_rfl) trivial (pu_move rfl) ?_
    refine Rg.pu 6 rfl rfl (by kernel_rfl) trivial (pu_ia se_41 rfl rfl (by omega) (by omega)) ?_
    refine Rg.rd 7 rfl rfl (by kernel_rfl) trivial (rd_lda ag_32 rfl (Rdc.el0 (hU.h (by repeat constructor)) hy rfl rfl) rfl) ?_
    refine Rg.pu 8 rfl rfl (by kernel_rfl) trivial (pu_neT (a := x) (b := y) cmp_32 (by decide) Tryz.eqGuardType32 rfl rfl) ?_
    refine Rg.end (by kernel_rfl) ?_
    refine Gs.then_n ?_
    refine Gs.cond rfl (fun hc2 => ?_) (fun hc2 => ?_)
    ·
     have hne : ¬ xs = ys := fun e => by have := of_decide_eq_true hc2; rw [e, hy] at hx; exact this (Option.some.inj hx).symm
     refine Gsr ?_
     refine Las rfl rfl ?_
     refine Lnt ?_
     refine Gs.ret ?_
     refine Gs.blk_r ?_
     refine Gs.then_r ?_
     refine Gs.then_r ?_
     refine Gs.blk_r ?_
     refine Gs.then_r ?_
     exact Gs.fin1 Tryz.results21 rfl _ (⟨by rw [decide_eq_false hne], rfl⟩) (by repeat constructor)
    ·
     have hxy : x = y := by have := of_decide_eq_false hc2; exact Decidable.not_not.1 this
     refine Gs.skip ?_
     refine Gs.blk_n ?_
     refine Gs.then_n ?_
     refine Gs.reg ?_
     refine Lmv rfl rfl ?_
     refine Lpu rfl rfl trivial (by first | exact pu_addI rfl rfl rfl (by omega) (by omega) | exact pu_add rfl rfl) ?_
     refine Las rfl rfl ?_
     refine Lnt ?_
     exact Gs.again1 (i + 1) ⟨by omega, by rw [List.take_add_one, List.take_add_one, ht, hx, hy, hxy]⟩ (by omega) (by repeat constructor) (by repeat constructor)
   ·
    have hge : i = xs.length := by have := of_decide_eq_false hc1; omega
    have heq : xs = ys := by rw [hge, List.take_length, hle, List.take_length] at ht; exact ht
    refine Gs.exit ?_
    refine Gs.then_x ?_
    refine Gs.then_x ?_
    refine Gs.blk_hit ?_
    refine Gs.then_n ?_
    refine Gsr ?_
    refine Las rfl rfl ?_
    refine Lnt ?_
    refine Gs.ret ?_
    exact Gs.fin1 Tryz.results21 rfl _ (⟨by rw [decide_eq_true heq], rfl⟩) (by repeat constructor)
end Go.Proofs.YtklgiidfompdpaaGreatDoor
namespace Go.Proofs.YtklgiidfompdpaaGreatDoor
open Go Go.Sl Go.Gv Go.Kv Go.Po Go.Ix
set_option maxRecDepth 100000
def slB (p q : Int × Int) : Bool := decide (p.1 < q.1) || (decide (p.1 = q.1) && decide (p.2 < q.2))
/-- Is a record ahead of another one? -/
def lessR (a b : Rec) : Bool := slB (a.w, a.c) (b.w, b.c) || (decide ((a.w, a.c) = (b.w, b.c)) && before a.key b.key)
abbrev stV (p : Int × Int) : Value := .agg #[int p.1, int p.2]
theorem sl_ne {p q : Int × Int} (h : p.1 ≠ q.1) : slB p q = decide (p.1 < q.1) := by unfold slB; rw [decide_eq_false h, Bool.false_and, Bool.or_false]
theorem sl_eq {p q : Int × Int} (h : p.1 = q.1) : slB p q = decide (p.2 < q.2) := by unfold slB; rw [decide_eq_true h, h, decide_eq_false (Int.lt_irrefl _), Bool.false_or, Bool.true_and]
theorem sl_self {p q : Int × Int} (h : p = q) : slB p q = false := by rw [sl_eq (by rw [h]), h]; exact decide_eq_false (Int.lt_irrefl _)
theorem stampLess_spec (p q : Int × Int) : Ct Tryz.prog 157 [stV p, stV q] [] (fun v hs => v = .bool (slB p q) ∧ hs = []) := by
  refine Ct.intro Tryz.func157 rfl (by kernel_rfl) 20 Tryz.ntmps157 (Nat.le_of_ble_eq_true rfl) fun w0 R => ?_
  refine Gsr ?_
  refine Lac rfl rfl trivial (ac_box rfl rfl) ?_
  rintro _ _ ⟨pb, rfl, rfl⟩
  refine Lac rfl rfl trivial (ac_box rfl rfl) ?_
  rintro _ _ ⟨qb, rfl, rfl⟩
  refine Las rfl rfl ?_
  refine Lnt ?_
  refine Gs.seq ?_
  refine Gsr ?_
  refine Lpu rfl rfl trivial (pu_fa fa_30_0 rfl) ?_
  refine Lrd rfl rfl trivial (rd_ld na_3 rfl (Rdc.cl1 (by repeat constructor) rfl)) ?_
  refine Lpu rfl rfl trivial (pu_fa fa_30_0 rfl) ?_
  refine Lrd rfl rfl trivial (rd_ld na_3 rfl (Rdc.cl1 (by repeat constructor) rfl)) ?_
  refine Lpu rfl rfl trivial (pu_ne rfl rfl) ?_
  refine Lnt ?_
  refine Gs.cond rfl (fun hc0 => ?_) (fun hc0 => ?_)
  ·
   refine Gsr ?_
   refine Lpu rfl rfl trivial (pu_fa fa_30_0 rfl) ?_
   refine Lrd rfl rfl trivial (rd_ld na_3 rfl (Rdc.cl1 (by repeat constructor) rfl)) ?_
   refine Lpu rfl rfl trivial (pu_fa fa_30_0 rfl) ?_
   refine Lrd rfl rfl trivial (rd_ld na_3 rfl (Rdc.cl1 (by repeat constructor) rfl)) ?_
   refine Lpu rfl rfl trivial (pu_lt rfl rfl) ?_
   refine Las rfl rfl ?_
   refine Lnt ?_
   refine Gs.ret ?_
   refine Gs.then_r ?_
   exact Gs.fin1 Tryz.results157 rfl _ (⟨by rw [sl_ne (of_decide_eq_true hc0)], rfl⟩) (by repeat constructor)
  ·
   refine Gs.skip ?_
   refine Gs.then_n ?_
   refine Gsr ?_
   refine Lpu rfl rfl trivial (pu_fa fa_30_1 rfl) ?_
   refine Lrd rfl rfl trivial (rd_ld na_3 rfl (Rdc.cl1 (by repeat constructor) rfl)) ?_
   refine Lpu rfl rfl trivial (pu_fa fa_30_1 rfl) ?_
   refine Lrd rfl rfl trivial (rd_ld na_3 rfl (Rdc.cl1 (by repeat constructor) rfl)) ?_
   refine Lpu rfl rfl trivial (pu_lt rfl rfl) ?_
   refine Las rfl rfl ?_
   refine Lnt ?_
   refine Gs.ret ?_
   exact Gs.fin1 Tryz.results157 rfl _ (⟨by rw [sl_eq (Decidable.not_not.1 (of_decide_eq_false hc0))], rfl⟩) (by repeat constructor)
theorem less_cases (a b : Rec) : (¬ (a.w, a.c) = (b.w, b.c) → lessR a b = slB (a.w, a.c) (b.w, b.c)) ∧ ((a.w, a.c) = (b.w, b.c) → lessR a b = before a.key b.key) := by
  refine ⟨fun h => ?_, fun h => ?_⟩
  · unfold lessR; rw [decide_eq_false h, Bool.false_and, Bool.or_false]
  · unfold lessR; rw [sl_self h, decide_eq_true h, Bool.false_or, Bool.true_and]
theorem recLess_spec (a b : Rec) : Ct Tryz.prog 111 [recV a, recV b] [] (fun v hs => v = .bool (lessR a b) ∧ hs = []) := by
  refine Ct.intro Tryz.func111 rfl (by kernel_rfl) 20 Tryz.ntmps111 (Nat.le_of_ble_eq_true rfl) fun w0 R => ?_
  refine Gsr ?_
  refine Lac rfl rfl trivial (ac_box rfl rfl) ?_
  rintro _ _ ⟨pb, rfl, rfl⟩
  refine Lac rfl rfl trivial (ac_box rfl rfl) ?_
  rintro _ _ ⟨qb, rfl, rfl⟩
  refine Las rfl rfl ?_
  refine Lnt ?_
  refine Gs.seq ?_
  refine Gsr ?_
  refine Lpu rfl rfl trivial (pu_fa fa_32_1 rfl) ?_
  refine Lrd rfl rfl trivial (rd_lda ag_30 rfl (Rdc.cl 2 (by repeat constructor) rfl) rfl) ?_
  refine Lpu rfl rfl trivial (pu_fa fa_32_1 rfl) ?_
  refine Lrd rfl rfl trivial (rd_lda ag_30 rfl (Rdc.cl 2 (by repeat constructor) rfl) rfl) ?_
  refine Lpu rfl rfl trivial (pu_neT (a := (a.w, a.c)) (b := (b.w, b.c)) cmp_30 (by decide) Tryz.eqGuardType30 rfl rfl) ?_
  refine Lnt ?_
  refine Gs.cond rfl (fun hc0 => ?_) (fun hc0 => ?_)
  ·
   refine Gsr ?_
   refine Lpu rfl rfl trivial (pu_fa fa_32_1 rfl) ?_
   refine Lrd rfl rfl trivial (rd_lda ag_30 rfl (Rdc.cl 2 (by repeat constructor) rfl) rfl) ?_
   refine Lpu rfl rfl trivial (pu_fa fa_32_1 rfl) ?_
   refine Lrd rfl rfl trivial (rd_lda ag_30 rfl (Rdc.cl 2 (by repeat constructor) rfl) rfl) ?_
   refine Lac rfl rfl trivial (as_call (stampLess_spec (a.w, a.c) (b.w, b.c)) (by repeat constructor) (by repeat constructor)) ?_
   rintro _ _ ⟨_, ⟨rfl, rfl⟩, rfl⟩
   refine Las rfl rfl ?_
   refine Lnt ?_
   refine Gs.ret ?_
   refine Gs.then_r ?_
   exact Gs.fin1 Tryz.results111 rfl _ (⟨by rw [(less_cases a b).1 (of_decide_eq_true hc0)], rfl⟩) (by repeat constructor)
  ·
   refine Gs.skip ?_
   refine Gs.then_n ?_
   refine Gsr ?_
   refine Lpu rfl rfl trivial (pu_fa fa_32_0 rfl) ?_
   refine Lrd rfl rfl trivial (rd_lda ag_28 rfl (Rdc.cl 2 (by repeat constructor) rfl) rfl) ?_
   refine Lpu rfl rfl trivial (pu_fa fa_32_0 rfl) ?_
   refine Lrd rfl rfl trivial (rd_lda ag_28 rfl (Rdc.cl 2 (by repeat constructor) rfl) rfl) ?_
   refine Lac rfl rfl trivial (as_call (beforeR_spec a.key b.key) (by repeat constructor) (by repeat constructor)) ?_
   rintro _ _ ⟨_, ⟨rfl, rfl⟩, rfl⟩
   refine Las rfl rfl ?_
   refine Lnt ?_
   refine Gs.ret ?_
   exact Gs.fin1 Tryz.results111 rfl _ (⟨by rw [(less_cases a b).2 (Decidable.not_not.1 (of_decide_eq_false hc0))], rfl⟩) (by repeat constructor)
def ordR (a b : Rec) : Int := if lessR a b then -1 else if lessR b a then 1 else 0
theorem orderR_spec (a b : Rec) : Ct Tryz.prog 115 [recV a, recV b] [] (fun v hs => v = int (ordR a b) ∧ hs = []) := by
  refine Ct.intro Tryz.func115 rfl (by kernel_rfl) 13 Tryz.ntmps115 (Nat.le_of_ble_eq_true rfl) fun w0 R => ?_
  refine Gsr ?_
  refine Lac rfl rfl trivial (ac_box rfl rfl) ?_
  rintro _ _ ⟨pb, rfl, rfl⟩
  refine Lac rfl rfl trivial (ac_box rfl rfl) ?_
  rintro _ _ ⟨qb, rfl, rfl⟩
  refine Las rfl rfl ?_
  refine Lnt ?_
  refine Gs.seq ?_
  refine Gs.block ?_
  refine Gsr ?_
  refine Lrd rfl rfl trivial (rd_lda ag_32 rfl (Rdc.cl 5 (by repeat constructor) rfl) rfl) ?_
  refine Lrd rfl rfl trivial (rd_lda ag_32 rfl (Rdc.cl 5 (by repeat constructor) rfl) rfl) ?_
  refine Lac rfl rfl trivial (as_call (recLess_spec a b) (by repeat constructor) (by repeat constructor)) ?_
  rintro _ _ ⟨_, ⟨rfl, rfl⟩, rfl⟩
  refine Las rfl rfl ?_
  refine Lnt ?_
  refine Gs.cond rfl (fun hc0 => ?_) (fun hc0 => ?_)
  ·
   refine Gsr ?_
   refine Las rfl rfl ?_
   refine Lnt ?_
   refine Gs.ret ?_
   refine Gs.blk_r ?_
   refine Gs.then_r ?_
   exact Gs.fin1 Tryz.results115 rfl _ (⟨by unfold ordR; rw [if_pos hc0], rfl⟩) (by repeat constructor)
  ·
   refine Gsr ?_
   refine Lrd rfl rfl trivial (rd_lda ag_32 rfl (Rdc.cl 5 (by repeat constructor) rfl) rfl) ?_
   refine Lrd rfl rfl trivial (rd_lda ag_32 rfl (Rdc.cl 5 (by repeat constructor) rfl) rfl) ?_
   refine Lac rfl rfl trivial (as_call (recLess_spec b a) (by repeat constructor) (by repeat constructor)) ?_
   rintro _ _ ⟨_, ⟨rfl, rfl⟩, rfl⟩
   refine Las rfl rfl ?_
   refine Lnt ?_
   refine Gs.cond rfl (fun hc1 => ?_) (fun hc1 => ?_)
   ·
    refine Gsr ?_
    refine Las rfl rfl ?_
    refine Lnt ?_
    refine Gs.ret ?_
    refine Gs.blk_r ?_
    refine Gs.then_r ?_
    exact Gs.fin1 Tryz.results115 rfl _ (⟨by unfold ordR; rw [if_neg (by rw [hc0]; decide), if_pos hc1], rfl⟩) (by repeat constructor)
   ·
    refine Gs.skip ?_
    refine Gs.blk_n ?_
    refine Gs.then_n ?_
    refine Gsr ?_
    refine Las rfl rfl ?_
    refine Lnt ?_
    refine Gs.ret ?_
    exact Gs.fin1 Tryz.results115 rfl _ (⟨by unfold ordR; rw [if_neg (by rw [hc0]; decide), if_neg (by rw [hc1]; decide)], rfl⟩) (by repeat constructor)
/-- Is a record not behind the last one that was told? -/
def earlyB (r z : Rec) : Bool := decide (0 < z.q) && (lessR r z || (decide (r.key = z.key) && decide ((r.w, r.c) = (z.w, z.c))))
theorem early_spec (r z : Rec) : Ct Tryz.prog 64 [recV r, recV z] [] (fun v hs => v = .bool (earlyB r z) ∧ hs = []) := by
  refine Ct.intro Tryz.func64 rfl (by kernel_rfl) 28 Tryz.ntmps64 (Nat.le_of_ble_eq_true rfl) fun w0 R => ?_
  refine Gsr ?_
  refine Lac rfl rfl trivial (ac_box rfl rfl) ?_
  rintro _ _ ⟨pb, rfl, rfl⟩
  refine Lac rfl rfl trivial (ac_box rfl rfl) ?_
  rintro _ _ ⟨qb, rfl, rfl⟩
  refine Las rfl rfl ?_
  refine Lnt ?_
  refine Gsr ?_
  refine Lpu rfl rfl trivial (pu_fa fa_32_0 rfl) ?_
  refine Lpu rfl rfl trivial (pu_fa fa_28_1 rfl) ?_
  refine Lrd rfl rfl trivial (rd_ld na_3 rfl (Rdc.cl1 (by repeat constructor) rfl)) ?_
  refine Lpu rfl rfl trivial (pu_gt rfl rfl) ?_
  refine LpuB rfl rfl trivial (pu_move rfl) (fun hg4 => ?_) (fun hg4 => ?_)
  ·
   refine Lrd rfl rfl ⟨_, rfl, rfl⟩ (rd_lda ag_32 rfl (Rdc.cl 5 (by repeat constructor) rfl) rfl) ?_
   refine Lrd rfl rfl ⟨_, rfl, rfl⟩ (rd_lda ag_32 rfl (Rdc.cl 5 (by repeat constructor) rfl) rfl) ?_
   refine Lac rfl rfl ⟨_, rfl, rfl⟩ (as_call (recLess_spec r z) (by repeat constructor) (by repeat constructor)) ?_
   rintro _ _ ⟨_, ⟨rfl, rfl⟩, rfl⟩
   refine LpuB rfl rfl ⟨_, rfl, rfl⟩ (pu_move rfl) (fun hg8 => ?_) (fun hg8 => ?_)
   ·
    refine Loff rfl rfl rfl rfl rfl rfl ?_
    refine Loff rfl rfl rfl rfl rfl rfl ?_
    refine Loff rfl rfl rfl rfl rfl rfl ?_
    refine Loff rfl rfl rfl rfl rfl rfl ?_
    refine Loff rfl rfl rfl rfl rfl rfl ?_
    refine Loff rfl rfl rfl rfl rfl rfl ?_
    refine LoffU rfl rfl rfl rfl rfl ?_
    refine LoffU rfl rfl rfl rfl rfl ?_
    refine LoffU rfl rfl rfl rfl rfl ?_
    refine LoffU rfl rfl rfl rfl rfl ?_
    refine LoffU rfl rfl rfl rfl rfl ?_
    refine Loff rfl rfl rfl rfl rfl rfl ?_
    refine Lpu rfl rfl ⟨_, rfl, rfl⟩ (by first | exact pu_pick_t rfl rfl | exact pu_pick_f rfl rfl) ?_
    refine Lpu rfl rfl trivial (by first | exact pu_pick_t rfl rfl | exact pu_pick_f rfl rfl) ?_
    refine Las rfl rfl ?_
    refine Lnt ?_
    refine Gs.ret ?_
    exact Gs.fin1 Tryz.results64 rfl _ (⟨by
      unfold earlyB
      first
        | rw [hg4, hg8, hg14, Bool.true_and, Bool.false_or, Bool.true_and]
        | rw [hg4, hg8, hg14, Bool.true_and, Bool.false_or, Bool.false_and]
        | rw [hg4, hg8, Bool.true_and, Bool.true_or]
        | rw [hg4, Bool.false_and], rfl⟩) (by repeat constructor)
   ·
    refine Lpu rfl rfl ⟨_, rfl, rfl⟩ (pu_fa fa_32_0 rfl) ?_
    refine Lrd rfl rfl ⟨_, rfl, rfl⟩ (rd_lda ag_28 rfl (Rdc.cl 2 (by repeat constructor) rfl) rfl) ?_
    refine Lpu rfl rfl ⟨_, rfl, rfl⟩ (pu_fa fa_32_0 rfl) ?_
    refine Lrd rfl rfl ⟨_, rfl, rfl⟩ (rd_lda ag_28 rfl (Rdc.cl 2 (by repeat constructor) rfl) rfl) ?_
    refine Lpu rfl rfl ⟨_, rfl, rfl⟩ (pu_eqT (a := r.key) (b := z.key) cmp_28 (by decide) Tryz.eqGuardType28 rfl rfl) ?_
    refine LpuB rfl rfl ⟨_, rfl, rfl⟩ (pu_move rfl) (fun hg14 => ?_) (fun hg14 => ?_)
    ·
     refine Lpu rfl rfl ⟨_, rfl, rfl⟩ (pu_fa fa_32_1 rfl) ?_
     refine Lrd rfl rfl ⟨_, rfl, rfl⟩ (rd_lda ag_30 rfl (Rdc.cl 2 (by repeat constructor) rfl) rfl) ?_
     refine Lpu rfl rfl ⟨_, rfl, rfl⟩ (pu_fa fa_32_1 rfl) ?_
     refine Lrd rfl rfl ⟨_, rfl, rfl⟩ (rd_lda ag_30 rfl (Rdc.cl 2 (by repeat constructor) rfl) rfl) ?_
     refine Lpu rfl rfl ⟨_, rfl, rfl⟩ (pu_eqT (a := (r.w, r.c)) (b := (z.w, z.c)) cmp_30 (by decide) Tryz.eqGuardType30 rfl rfl) ?_
     refine Lpu rfl rfl ⟨_, rfl, rfl⟩ (by first | exact pu_pick_t rfl rfl | exact pu_pick_f rfl rfl) ?_
     refine Lpu rfl rfl ⟨_, rfl, rfl⟩ (by first | exact pu_pick_t rfl rfl | exact pu_pick_f rfl rfl) ?_
     refine Lpu rfl rfl trivial (by first | exact pu_pick_t rfl rfl | exact pu_pick_f rfl rfl) ?_
     refine Las rfl rfl ?_
     refine Lnt ?_
     refine Gs.ret ?_
     exact Gs.fin1 Tryz.results64 rfl _ (⟨by
       unfold earlyB
       first
         | rw [hg4, hg8, hg14, Bool.true_and, Bool.false_or, Bool.true_and]
         | rw [hg4, hg8, hg14, Bool.true_and, Bool.false_or, Bool.false_and]
         | rw [hg4, hg8, Bool.true_and, Bool.true_or]
         | rw [hg4, Bool.false_and], rfl⟩) (by repeat constructor)
    ·
     refine Loff rfl rfl rfl rfl rfl rfl ?_
     refine Loff rfl rfl rfl rfl rfl rfl ?_
     refine Loff rfl rfl rfl rfl rfl rfl ?_
     refine Loff rfl rfl rfl rfl rfl rfl ?_
     refine Loff rfl rfl rfl rfl rfl rfl ?_
     refine Lpu rfl rfl ⟨_, rfl, rfl⟩ (by first | exact pu_pick_t rfl rfl | exact pu_pick_f rfl rfl) ?_
     refine Lpu rfl rfl ⟨_, rfl, rfl⟩ (by first | exact pu_pick_t rfl rfl | exact pu_pick_f rfl rfl) ?_
     refine Lpu rfl rfl trivial (by first | exact pu_pick_t rfl rfl | exact pu_pick_f rfl rfl) ?_
     refine Las rfl rfl ?_
     refine Lnt ?_
     refine Gs.ret ?_
     exact Gs.fin1 Tryz.results64 rfl _ (⟨by
       unfold earlyB
       first
         | rw [hg4, hg8, hg14, Bool.true_and, Bool.false_or, Bool.true_and]
         | rw [hg4, hg8, hg14, Bool.true_and, Bool.false_or, Bool.false_and]
         | rw [hg4, hg8, Bool.true_and, Bool.true_or]
         | rw [hg4, Bool.false_and], rfl⟩) (by repeat constructor)
  ·
   refine Loff rfl rfl rfl rfl rfl rfl ?_
   refine Loff rfl rfl rfl rfl rfl rfl ?_
   refine Loff rfl rfl rfl rfl rfl rfl ?_
   refine Loff rfl rfl rfl rfl rfl rfl ?_
   refine LoffU rfl rfl rfl rfl rfl ?_
   refine LoffU rfl rfl rfl rfl rfl ?_
   refine LoffU rfl rfl rfl rfl rfl ?_
   refine LoffU rfl rfl rfl rfl rfl ?_
   refine LoffU rfl rfl rfl rfl rfl ?_
   refine LoffU rfl rfl rfl rfl rfl ?_
   refine LoffU rfl rfl rfl rfl rfl ?_
   refine LoffU rfl rfl rfl rfl rfl ?_
   refine LoffU rfl rfl rfl rfl rfl ?_
   refine LoffU rfl rfl rfl rfl rfl ?_
   refine LoffU rfl rfl rfl rfl rfl ?_
   refine LoffU rfl rfl rfl rfl rfl ?_
   refine Loff rfl rfl rfl rfl rfl rfl ?_
   refine Lpu rfl rfl trivial (by first | exact pu_pick_t rfl rfl | exact pu_pick_f rfl rfl) ?_
   refine Las rfl rfl ?_
   refine Lnt ?_
   refine Gs.ret ?_
   exact Gs.fin1 Tryz.results64 rfl _ (⟨by
     unfold earlyB
     first
       | rw [hg4, hg8, hg14, Bool.true_and, Bool.false_or, Bool.true_and]
       | rw [hg4, hg8, hg14, Bool.true_and, Bool.false_or, Bool.false_and]
       | rw [hg4, hg8, Bool.true_and, Bool.true_or]
       | rw [hg4, Bool.false_and], rfl⟩) (by repeat constructor)
end Go.Proofs.YtklgiidfompdpaaGreatDoor
namespace Go.Proofs
open Go.Shelf
namespace YtklgiidfompdpaaGreatDoor
open Go Go.Sl Go.Gv Go.Kv Go.Po Go.Ix Go.Qu Go.RowKit
set_option maxRecDepth 100000
/-- The tables, that of strconv too. -/
def TabY (h0 : Hp) : Prop := TabX h0 ∧ ∀ w, Hp.le h0 w → Lib.TabIs Tryz.prog w "internal/strconv.uint64pow10" .u64 Lib.pow10Tab
def TabW (U : HProp) : Prop := ∃ h0, TabY h0 ∧ Inn (Sl.ro h0) U
theorem TabW.u {U : HProp} (h : TabW U) : TabU U := let ⟨h0, T, i⟩ := h; ⟨h0, T.1, i⟩
theorem TabW.ct {U : HProp} (h : TabW U) {f : FuncId} {args : List Value} {x : Value} (c : ∀ h0, TabY h0 → Ct Tryz.prog f args [Sl.ro h0] (fun v hs => v = x ∧ hs = [Sl.ro h0])) : Ct Tryz.prog f args [U] (fun v hs => v = x ∧ hs = [U]) := by
  obtain ⟨h0, T, i⟩ := h
  exact (c h0 T).inn0 i
theorem TabW.inn {U V : HProp} (h : TabW U) (i : Inn U V) : TabW V := let ⟨h0, T, j⟩ := h; ⟨h0, T, j.trans i⟩
abbrev itS (n : Int) : ByteArray := ⟨(Lib.itoa n).toArray⟩
abbrev i64in (n : Int) : Prop := -9223372036854775808 ≤ n ∧ n ≤ 9223372036854775807
theorem itS_size {n : Int} (h : i64in n) : (itS n).size ≤ 21 := by
  have := Lib.itoa_length_le n h.1 h.2
  show (Lib.itoa n).toArray.size ≤ 21
  rw [List.size_toArray]; exact this
theorem itoaY_spec {h0 : Hp} (T : TabY h0) (n : Int) (h : i64in n) : Ct Tryz.prog 155 [int n] [ro h0] (fun v hs => v = .string (itS n) ∧ hs = [ro h0]) :=
  Ct.ofBelow Tryz.func155 rfl (by kernel_rfl) (V := fun _ => .string (itS n)) (fun w0 w R st => (Any.strconv_Itoa Tryz.laysItoa n h.1 h.2 w (T.2 w (Sat.ro st))).mono fun e w' ⟨h1, k, os, h2⟩ => ⟨h1, by
    rw [h2]
    refine ⟨rfl, rfl, rfl, ?_, fun j hj => ?_⟩
    · show w.heap.size ≤ (w.heap ++ os).size
      rw [Array.size_append]; omega
    · show (w.heap ++ os)[j]? = w.heap[j]?
      rw [Array.getElem?_append_left hj]⟩) (fun _ => ⟨rfl, rfl⟩)
theorem jextra : Builder.Extra Tryz.prog Tryz.laysJoin_ren where
  sizeBuilder := by kernel_rfl
  liesBuilder := by kernel_rfl
  t5 := Tryz.underlying5
  a5 := Tryz.isAgg5
  z5 := Tryz.sizeOf5
  v5 := Tryz.zeroValue5
  infoByte := by kernel_rfl
  cellsByte := by kernel_rfl
  sizeByte := by kernel_rfl
  neB5 := by decide
abbrev jnS (xs : List ByteArray) (sep : ByteArray) : ByteArray := ⟨(Lib.join (xs.map (·.data.toList)) sep.data.toList).toArray⟩
theorem join_spec {S : HProp} {a : Option Addr} {c : Nat} {xs : List ByteArray} (hS : Srd S 1 strC a xs) (hne : xs ≠ []) (hc : xs.length ≤ c) (hN : xs.length ≤ 1000) (sep : ByteArray) (hlen : (Lib.join (xs.map (·.data.toList)) sep.data.toList).length ≤ 140737488355328) :
    Ct Tryz.prog 156 [.slice a xs.length c, .string sep] [S] (fun v hs => v = .string (jnS xs sep) ∧ hs = [S]) :=
  Ct.ofBelow Tryz.func156 rfl (by kernel_rfl) (V := fun _ => .string (jnS xs sep)) (fun w0 w R st => by
    obtain ⟨b, off, rfl, hx⟩ := (hS.h .hd : SlH w0 ([S] ++ R) 1 strC a xs) w st hne
    have hcells : ∀ (j : Nat) x, xs[j]? = some x → w.cell? ⟨b, off + j, none⟩ = some (.string x) := fun j x hj => by
      have := hx j x hj 0 (.string x) rfl
      simpa using this
    obtain ⟨x0, hx0⟩ : ∃ x, xs[0]? = some x := ⟨xs[0]'(List.length_pos_iff.2 hne), by simp [List.length_pos_iff.2 hne]⟩
    exact Any.strings_Join Tryz.laysJoin jextra b off c xs sep w hcells (World.block_lt_of_cell? w _ (hcells 0 x0 hx0)) (by omega) hc hlen) (fun _ => ⟨rfl, rfl⟩)
/-- A query. -/
abbrev quC (x : AskV) (lim : Int) (z : Rec) : List Value := [int x.kind, int x.n, .slice x.w.a x.w.xs.length x.w.c, .slice x.sa x.ss.length x.sc, int lim, int z.o, int z.q, int z.w, int z.c, .string z.t]
abbrev quV (x : AskV) (lim : Int) (z : Rec) : Value := .agg (quC x lim z).toArray
def aftB (z : Rec) : Bool := decide (z = Rec.zero) || (decide (z.t = ⟨#[]⟩) && recB z)
def okQ (lim : Int) (z : Rec) : Bool := (decide (1 ≤ lim) && decide (lim ≤ 50)) && aftB z
theorem mayQuery_spec {S : HProp} (hT : TabU S) {d : Nat} {x : AskV} (hA : ARd S x) (hF : FewA d x) (hz : sizeA d x ≤ 1000) (hd : d ≤ 1000) (lim : Int) (z : Rec) :
    Ct Tryz.prog 153 [quV x lim z] [S] (fun v hs => v = .bool (mayA d x && okQ lim z) ∧ hs = [S]) := by
  obtain ⟨v0, hv0⟩ : ∃ v0, v0 = (mayA d x && okQ lim z) := ⟨_, rfl⟩
  have hv := hv0
  unfold okQ at hv
  obtain ⟨av, hav⟩ : ∃ av, av = aftB z := ⟨_, rfl⟩
  rw [← hav] at hv
  unfold aftB at hav
  rw [← hv0]
  refine Ct.intro Tryz.func153 rfl (by kernel_rfl) 35 Tryz.ntmps153 (Nat.le_of_ble_eq_true rfl) fun w0 R => ?_
  refine Gsr ?_
  refine Lac rfl rfl trivial (ac_box rfl rfl) ?_
  rintro _ _ ⟨qb, rfl, rfl⟩
  refine Las rfl rfl ?_
  refine Lnt ?_
  refine Gs.seq ?_
  refine Gs.cut (E := [(1, ptr qb), (3, .bool av)]) (I := [cl qb 34 (quC x lim z), S] ++ R) ?_ ?_
  ·
   refine Gs.reg ?_
   refine Lpu rfl rfl trivial (pu_fa fa_34_2 rfl) ?_
   refine Lrd rfl rfl trivial (rd_lda ag_32 rfl (Rdc.cl 5 (by repeat constructor) rfl) rfl) ?_
   refine Lpu rfl rfl trivial (pu_build bd_32 (by repeat constructor) rfl) ?_
   refine Lpu rfl rfl trivial (pu_eqT (a := z) (b := Rec.zero) cmp_32 (by decide) Tryz.eqGuardType32 rfl rfl) ?_
   refine LpuB rfl rfl trivial (pu_move rfl) (fun hg4 => ?_) (fun hg4 => ?_)
   ·
    have e4 : decide (z = Rec.zero) = true := hg4
    rw [e4, Bool.true_or] at hav
    refine Loff rfl rfl rfl rfl rfl rfl ?_
    refine Loff rfl rfl rfl rfl rfl rfl ?_
    refine Loff rfl rfl rfl rfl rfl rfl ?_
    refine Loff rfl rfl rfl rfl rfl rfl ?_
    refine Loff rfl rfl rfl rfl rfl rfl ?_
    refine LoffU rfl rfl rfl rfl rfl ?_
    refine LoffU rfl rfl rfl rfl rfl ?_
    refine LoffU rfl rfl rfl rfl rfl ?_
    refine Loff rfl rfl rfl rfl rfl rfl ?_
    refine Lpu rfl rfl trivial (by first | exact pu_pick_t rfl rfl | exact pu_pick_f rfl rfl) ?_
    refine Las rfl rfl ?_
    refine Lnt ?_
    subst hav
    exact Gs.cutEnd (by repeat constructor) (by repeat constructor)
   ·
    have e4 : decide (z = Rec.zero) = false := hg4
    rw [e4, Bool.false_or] at hav
    refine Lpu rfl rfl ⟨_, rfl, rfl⟩ (pu_fa fa_34_2 rfl) ?_
    refine Lpu rfl rfl ⟨_, rfl, rfl⟩ (pu_fa fa_32_2 rfl) ?_
    refine Lrd rfl rfl ⟨_, rfl, rfl⟩ (rd_ld na_9 rfl (Rdc.cl1 (by repeat constructor) rfl)) ?_
    refine Lpu rfl rfl ⟨_, rfl, rfl⟩ (pu_eqS rfl rfl) ?_
    refine LpuB rfl rfl ⟨_, rfl, rfl⟩ (pu_move rfl) (fun hg9 => ?_) (fun hg9 => ?_)
    ·
     have e9 : decide (z.t = ⟨#[]⟩) = true := hg9
     rw [e9, Bool.true_and] at hav
     refine Lpu rfl rfl ⟨_, rfl, rfl⟩ (pu_fa fa_34_2 rfl) ?_
     refine Lrd rfl rfl ⟨_, rfl, rfl⟩ (rd_lda ag_32 rfl (Rdc.cl 5 (by repeat constructor) rfl) rfl) ?_
     refine Lac rfl rfl ⟨_, rfl, rfl⟩ (as_call (hT.ct (fun h0 T => recMay_spec T.1 z)) (by repeat constructor) (by repeat constructor)) ?_
     rintro _ _ ⟨_, ⟨rfl, rfl⟩, rfl⟩
     refine Lpu rfl rfl ⟨_, rfl, rfl⟩ (by first | exact pu_pick_t rfl rfl | exact pu_pick_f rfl rfl) ?_
     refine Lpu rfl rfl trivial (by first | exact pu_pick_t rfl rfl | exact pu_pick_f rfl rfl) ?_
     refine Las rfl rfl ?_
     refine Lnt ?_
     subst hav
     exact Gs.cutEnd (by repeat constructor) (by repeat constructor)
    ·
     have e9 : decide (z.t = ⟨#[]⟩) = false := hg9
     rw [e9, Bool.false_and] at hav
     refine Loff rfl rfl rfl rfl rfl rfl ?_
     refine Loff rfl rfl rfl rfl rfl rfl ?_
     refine Loff rfl rfl rfl rfl rfl rfl ?_
     refine Lpu rfl rfl ⟨_, rfl, rfl⟩ (by first | exact pu_pick_t rfl rfl | exact pu_pick_f rfl rfl) ?_
     refine Lpu rfl rfl trivial (by first | exact pu_pick_t rfl rfl | exact pu_pick_f rfl rfl) ?_
     refine Las rfl rfl ?_
     refine Lnt ?_
     subst hav
     exact Gs.cutEnd (by repeat constructor) (by repeat constructor)
  ·
   refine Gsr ?_
   refine Lpu rfl rfl trivial (pu_fa fa_34_0 rfl) ?_
   refine Lrd rfl rfl trivial (rd_lda ag_26 rfl (Rdc.cl 4 (by repeat constructor) rfl) rfl) ?_
   refine Lac rfl rfl trivial (as_call (mayA_spec hT hA hF hz hd) (by repeat constructor) (by repeat constructor)) ?_
   rintro _ _ ⟨_, ⟨rfl, rfl⟩, rfl⟩
   refine LpuB rfl rfl trivial (pu_move rfl) (fun hg3 => ?_) (fun hg3 => ?_)
   ·
    have e3 : mayA d x = true := hg3
    refine Lpu rfl rfl ⟨_, rfl, rfl⟩ (pu_fa fa_34_1 rfl) ?_
    refine Lrd rfl rfl ⟨_, rfl, rfl⟩ (rd_ld na_3 rfl (Rdc.cl1 (by repeat constructor) rfl)) ?_
    refine Lpu rfl rfl ⟨_, rfl, rfl⟩ (pu_ge rfl rfl) ?_
    refine Lpu rfl rfl trivial (by first | exact pu_pick_t rfl rfl | exact pu_pick_f rfl rfl) ?_
    refine LpuB rfl rfl trivial (pu_move rfl) (fun hg8 => ?_) (fun hg8 => ?_)
    ·
     have e8 : decide (1 ≤ lim) = true := hg8
     refine Lpu rfl rfl ⟨_, rfl, rfl⟩ (pu_fa fa_34_1 rfl) ?_
     refine Lrd rfl rfl ⟨_, rfl, rfl⟩ (rd_ld na_3 rfl (Rdc.cl1 (by repeat constructor) rfl)) ?_
     refine Lpu rfl rfl ⟨_, rfl, rfl⟩ (pu_le rfl rfl) ?_
     refine Lpu rfl rfl trivial (by first | exact pu_pick_t rfl rfl | exact pu_pick_f rfl rfl) ?_
     refine LpuB rfl rfl trivial (pu_move rfl) (fun hg13 => ?_) (fun hg13 => ?_)
     ·
      have e13 : decide (lim ≤ 50) = true := hg13
      refine Lpu rfl rfl ⟨_, rfl, rfl⟩ (pu_move rfl) ?_
      refine Lpu rfl rfl trivial (by first | exact pu_pick_t rfl rfl | exact pu_pick_f rfl rfl) ?_
      refine Las rfl rfl ?_
      refine Lnt ?_
      refine Gs.ret ?_
      exact Gs.fin1 Tryz.results153 rfl _ (⟨by
        rw [hv]
        first
          | rw [e3, e8, e13, hav]; rfl
          | rw [e3, e8, e13]; rfl
          | rw [e3, e8]; rfl
          | rw [e3]; rfl, rfl⟩) (by repeat constructor)
     ·
      have e13 : decide (lim ≤ 50) = false := hg13
      refine Loff rfl rfl rfl rfl rfl rfl ?_
      refine Lpu rfl rfl trivial (by first | exact pu_pick_t rfl rfl | exact pu_pick_f rfl rfl) ?_
      refine Las rfl rfl ?_
      refine Lnt ?_
      refine Gs.ret ?_
      exact Gs.fin1 Tryz.results153 rfl _ (⟨by
        rw [hv]
        first
          | rw [e3, e8, e13, hav]; rfl
          | rw [e3, e8, e13]; rfl
          | rw [e3, e8]; rfl
          | rw [e3]; rfl, rfl⟩) (by repeat constructor)
    ·
     have e8 : decide (1 ≤ lim) = false := hg8
     refine Loff rfl rfl rfl rfl rfl rfl ?_
     refine Loff rfl rfl rfl rfl rfl rfl ?_
     refine Loff rfl rfl rfl rfl rfl rfl ?_
     refine Lpu rfl rfl trivial (by first | exact pu_pick_t rfl rfl | exact pu_pick_f rfl rfl) ?_
     refine Lmv rfl rfl ?_
     refine Loff rfl rfl rfl rfl rfl rfl ?_
     refine Lpu rfl rfl trivial (by first | exact pu_pick_t rfl rfl | exact pu_pick_f rfl rfl) ?_
     refine Las rfl rfl ?_
     refine Lnt ?_
     refine Gs.ret ?_
     exact Gs.fin1 Tryz.results153 rfl _ (⟨by
       rw [hv]
       first
         | rw [e3, e8, e13, hav]; rfl
         | rw [e3, e8, e13]; rfl
         | rw [e3, e8]; rfl
         | rw [e3]; rfl, rfl⟩) (by repeat constructor)
   ·
    have e3 : mayA d x = false := hg3
    refine Loff rfl rfl rfl rfl rfl rfl ?_
    refine Loff rfl rfl rfl rfl rfl rfl ?_
    refine Loff rfl rfl rfl rfl rfl rfl ?_
    refine Lpu rfl rfl trivial (by first | exact pu_pick_t rfl rfl | exact pu_pick_f rfl rfl) ?_
    refine Lmv rfl rfl ?_
    refine Loff rfl rfl rfl rfl rfl rfl ?_
    refine Loff rfl rfl rfl rfl rfl rfl ?_
    refine Loff rfl rfl rfl rfl rfl rfl ?_
    refine Lpu rfl rfl trivial (by first | exact pu_pick_t rfl rfl | exact pu_pick_f rfl rfl) ?_
    refine Lmv rfl rfl ?_
    refine Loff rfl rfl rfl rfl rfl rfl ?_
    refine Lpu rfl rfl trivial (by first | exact pu_pick_t rfl rfl | exact pu_pick_f rfl rfl) ?_
    refine Las rfl rfl ?_
    refine Lnt ?_
    refine Gs.ret ?_
    exact Gs.fin1 Tryz.results153 rfl _ (⟨by
      rw [hv]
      first
        | rw [e3, e8, e13, hav]; rfl
        | rw [e3, e8, e13]; rfl
        | rw [e3, e8]; rfl
        | rw [e3]; rfl, rfl⟩) (by repeat constructor)
/-- The question that a query's limit is tried with. -/
abbrev ask4 : AskV := .mk 4 0 ⟨none, [], 0⟩ none 0 []
theorem ask4_rd (S : HProp) : ARd S ask4 := .mk (fun _ _ _ _ _ _ h => (h rfl).elim) (fun _ _ _ _ _ _ h => (h rfl).elim) ⟨Nat.zero_le _, Nat.zero_le _⟩ fun x h => by cases h
theorem ask4_few : FewA 1 ask4 := ⟨Nat.zero_le _, fun w h => (by cases h), Nat.zero_le _, fun x h => by cases h⟩
theorem ask4_may : mayA 1 ask4 = true := by
  unfold mayA goodA
  rfl
theorem write4_spec {S : HProp} (hT : TabW S) : Ct Tryz.prog 154 [askV ask4] [S] (fun v hs => (∃ s, v = .string s ∧ s.size ≤ 30) ∧ hs = [S]) := by
  refine Ct.intro Tryz.func154 rfl (by kernel_rfl) 73 Tryz.ntmps154 (Nat.le_of_ble_eq_true rfl) fun w0 R => ?_
  refine Gsr ?_
  refine Lac rfl rfl trivial (ac_box rfl rfl) ?_
  rintro _ _ ⟨xb, rfl, rfl⟩
  refine Las rfl rfl ?_
  refine Lnt ?_
  refine Gsr ?_
  refine Las rfl rfl ?_
  refine Lnt ?_
  refine Gs.seq ?_
  refine Gsr ?_
  refine Lpu rfl rfl trivial (pu_fa fa_26_3 rfl) ?_
  refine Lrd rfl rfl trivial (rd_ld na_24 rfl (Rdc.cl1 (by repeat constructor) rfl)) ?_
  refine Lpu rfl rfl trivial (pu_len Tryz.underlying24 rfl) ?_
  refine Lmv rfl rfl ?_
  refine Lnt ?_
  refine Gs.block ?_
  refine Gs.loop1 (fun _ : Nat => True) (fun _ => [(1, ptr xb), (3, .slice none 0 0), (8, int 0), (9, int 0)]) (fun _ => [cl xb 26 (askC ask4), S] ++ R) (fun i => i) 0 (trivial) (by repeat constructor) (by repeat constructor) (fun i _ => ?_)
  refine Gsr ?_
  refine Lpu rfl rfl trivial (pu_lt rfl rfl) ?_
  refine Lnt ?_
  refine Gs.seq ?_
  refine Gs.cond_ff rfl (by decide) ?_
  refine Gs.exit ?_
  refine Gs.then_x ?_
  refine Gs.then_x ?_
  refine Gs.blk_hit ?_
  refine Gs.then_n ?_
  refine Gs.seq ?_
  refine Gsr ?_
  refine Lpu rfl rfl trivial (pu_fa fa_26_0 rfl) ?_
  refine Lrd rfl rfl trivial (rd_ld na_3 rfl (Rdc.cl1 (by repeat constructor) rfl)) ?_
  refine Lnt ?_
  refine Gs.block ?_
  refine Gsr ?_
  refine Lpu rfl rfl trivial (pu_eq rfl rfl) ?_
  refine Las rfl rfl ?_
  refine Lnt ?_
  refine Gs.cond_ff rfl (by decide) ?_
  refine Gsr ?_
  refine Lpu rfl rfl trivial (pu_eq rfl rfl) ?_
  refine Las rfl rfl ?_
  refine Lnt ?_
  refine Gs.cond_ff rfl (by decide) ?_
  refine Gsr ?_
  refine Lpu rfl rfl trivial (pu_eq rfl rfl) ?_
  refine Las rfl rfl ?_
  refine Lnt ?_
  refine Gs.cond_ff rfl (by decide) ?_
  refine Gsr ?_
  refine Lpu rfl rfl trivial (pu_eq rfl rfl) ?_
  refine Las rfl rfl ?_
  refine Lnt ?_
  refine Gs.cond_tt rfl (by decide) ?_
  refine Gsr ?_
  refine Lpu rfl rfl trivial (pu_fa fa_26_1 rfl) ?_
  refine Lrd rfl rfl trivial (rd_ld na_3 rfl (Rdc.cl1 (by repeat constructor) rfl)) ?_
  refine Lac rfl rfl trivial (as_call (hT.ct (fun h0 T => itoaY_spec T 0 ⟨by decide, by decide⟩)) (by repeat constructor) (by repeat constructor)) ?_
  rintro _ _ ⟨_, ⟨rfl, rfl⟩, rfl⟩
  refine Lpu rfl rfl trivial (pu_addS (by have h9 := itS_size (n := 0) ⟨by decide, by decide⟩; show 5 + (itS 0).size ≤ _; omega) rfl rfl) ?_
  refine Las rfl rfl ?_
  refine Lnt ?_
  refine Gs.ret ?_
  refine Gs.blk_r ?_
  refine Gs.then_r ?_
  exact Gs.fin1 Tryz.results154 rfl _ (⟨⟨_, rfl, by
    have h9 := itS_size (n := 0) ⟨by decide, by decide⟩
    rw [ByteArray.size_append]
    show 5 + (itS 0).size ≤ 30
    omega⟩, rfl⟩) (by repeat constructor)
theorem aft_in {z : Rec} (h : aftB z = true) : i64in z.w ∧ i64in z.c ∧ i64in z.o ∧ i64in z.q := by
  unfold aftB at h
  rw [Bool.or_eq_true, decide_eq_true_iff] at h
  rcases h with h | h
  · subst h; exact ⟨⟨by decide, by decide⟩, ⟨by decide, by decide⟩, ⟨by decide, by decide⟩, ⟨by decide, by decide⟩⟩
  · have e1 : z.key.o = z.o := rfl
    have e2 : z.key.q = z.q := rfl
    simp only [Bool.and_eq_true, recB, keyB, stampB, inB, decide_eq_true_eq] at h
    rw [e1, e2] at h
    omega
theorem write_spec {S : HProp} (hT : TabW S) (lim : Int) (z : Rec) :
    Ct Tryz.prog 110 [quV ask4 lim z] [S] (fun v hs => (∃ s e, v = .tuple #[.string s, int e] ∧ decide (e = 0) = okQ lim z) ∧ hs = [S]) := by
  refine Ct.intro Tryz.func110 rfl (by kernel_rfl) 59 Tryz.ntmps110 (Nat.le_of_ble_eq_true rfl) fun w0 R => ?_
  refine Gsr ?_
  refine Lac rfl rfl trivial (ac_box rfl rfl) ?_
  rintro _ _ ⟨qb, rfl, rfl⟩
  refine Las rfl rfl ?_
  refine Las rfl rfl ?_
  refine Lnt ?_
  refine Gs.seq ?_
  refine Gsr ?_
  refine Lrd rfl rfl trivial (rd_lda ag_34 rfl (Rdc.cl 10 (by repeat constructor) rfl) rfl) ?_
  refine Lac rfl rfl trivial (as_call (mayQuery_spec hT.u (ask4_rd S) ask4_few (by decide) (by decide) lim z) (by repeat constructor) (by repeat constructor)) ?_
  rintro _ _ ⟨_, ⟨rfl, rfl⟩, rfl⟩
  rw [ask4_may, Bool.true_and]
  refine Lpu rfl rfl trivial (pu_not rfl) ?_
  refine Lnt ?_
  refine Gs.cond rfl (fun hc0 => ?_) (fun hc0 => ?_)
  ·
   have hno : okQ lim z = false := by simpa using hc0
   refine Gsr ?_
   refine Las rfl rfl ?_
   refine Las rfl rfl ?_
   refine Lnt ?_
   refine Gs.ret ?_
   refine Gs.then_r ?_
   exact Gs.fin2 Tryz.results110 rfl rfl _ (⟨⟨_, 2, rfl, by rw [hno]; rfl⟩, rfl⟩) (by repeat constructor)
  ·
   have hyes : okQ lim z = true := by simpa using hc0
   have hlm : 1 ≤ lim ∧ lim ≤ 50 := by
     unfold okQ at hyes
     simp only [Bool.and_eq_true, decide_eq_true_eq] at hyes
     exact hyes.1
   have haf : aftB z = true := by
     unfold okQ at hyes
     rw [Bool.and_eq_true] at hyes
     exact hyes.2
   obtain ⟨iw, ic, io, iq⟩ := aft_in haf
   have il : i64in lim := ⟨by omega, by omega⟩
   have zl := itS_size il
   refine Gs.skip ?_
   refine Gs.then_n ?_
   refine Gs.seq ?_
   refine Gs.regD mixed (by kernel_rfl) ?_
   refine Rg.pu 0 rfl rfl (by kernel_rfl) trivial (pu_fa fa_34_0 rfl) ?_
   refine Rg.rd 1 rfl rfl (by kernel_rfl) trivial (rd_lda ag_26 rfl (Rdc.cl 4 (by repeat constructor) rfl) rfl) ?_
   refine Rg.pu 4 rfl rfl (by kernel_rfl) trivial (pu_fa fa_34_1 rfl) ?_
   refine Rg.rd 5 rfl rfl (by kernel_rfl) trivial (rd_ld na_3 rfl (Rdc.cl1 (by repeat constructor) rfl)) ?_
   refine Rg.one (by kernel_rfl) (Stp.acR 2 [5] rfl rfl (by kernel_rfl) trivial (as_call (write4_spec hT) (by repeat constructor) (by repeat constructor)) (by rintro _ _ ⟨_, ⟨⟨s0, rfl, hs0⟩, rfl⟩, rfl⟩; exact (Reads.cons rfl rfl rfl trivial rfl (rd_ld na_3 rfl (Rdc.cl1 (by repeat constructor) rfl)) Reads.nil)) ?_)
   rintro _ _ ⟨_, ⟨⟨s0, rfl, hs0⟩, rfl⟩, rfl⟩
   refine Rg.pu 3 rfl rfl (by kernel_rfl) trivial (pu_addS (by show s0.size + 7 ≤ _; omega) rfl rfl) ?_
   refine Rg.one (by kernel_rfl) (Stp.ac 6 rfl rfl (by kernel_rfl) trivial (as_call (hT.ct (fun h0 T => itoaY_spec T lim il)) (by repeat constructor) (by repeat constructor))  ?_)
   rintro _ _ ⟨_, ⟨rfl, rfl⟩, rfl⟩
   refine Rg.pu 7 rfl rfl (by kernel_rfl) trivial (pu_addS (by rw [ByteArray.size_append]; show s0.size + 7 + (itS lim).size ≤ _; omega) rfl rfl) ?_
   refine Rg.pu 8 rfl rfl (by kernel_rfl) trivial (pu_assign rfl) ?_
   refine Rg.end (by kernel_rfl) ?_
   obtain ⟨s1, hs1⟩ : ∃ s1, s1 = s0 ++ ⟨#[32, 108, 105, 109, 105, 116, 58]⟩ ++ itS lim := ⟨_, rfl⟩
   have hs1l : s1.size ≤ 60 := by rw [hs1, ByteArray.size_append, ByteArray.size_append]; show s0.size + 7 + (itS lim).size ≤ 60; omega
   rw [← hs1]
   refine Gs.then_n ?_
   refine Gs.seq ?_
   refine Gsr ?_
   refine Lpu rfl rfl trivial (pu_fa fa_34_2 rfl) ?_
   refine Lrd rfl rfl trivial (rd_lda ag_32 rfl (Rdc.cl 5 (by repeat constructor) rfl) rfl) ?_
   refine Lac rfl rfl trivial (ac_alloc zv_32 rfl) ?_
   rintro _ _ ⟨zb, rfl, rfl⟩
   refine Lac0 rfl trivial (ac_st sz_32 rfl rfl (by repeat constructor) rfl rfl rfl rfl) ?_
   rintro _ _ rfl
   refine Lnt ?_
   refine Gsr ?_
   refine Lpu rfl rfl trivial (pu_fa fa_32_0 rfl) ?_
   refine Lpu rfl rfl trivial (pu_fa fa_28_1 rfl) ?_
   refine Lrd rfl rfl trivial (rd_ld na_3 rfl (Rdc.cl1 (by repeat constructor) rfl)) ?_
   refine Lpu rfl rfl trivial (pu_gt rfl rfl) ?_
   refine Lnt ?_
   refine Gs.cond rfl (fun hc1 => ?_) (fun hc1 => ?_)
   ·
    refine Gsr ?_
    refine Las rfl rfl ?_
    refine Lnil ?_
    refine Gs.slNil 9 1 strC ?_
    refine Gs.then_n ?_
    refine Gs.seq ?_
    refine Gsr ?_
    refine Lpu rfl rfl trivial (pu_fa fa_32_1 rfl) ?_
    refine Lpu rfl rfl trivial (pu_fa fa_30_0 rfl) ?_
    refine Lrd rfl rfl trivial (rd_ld na_3 rfl (Rdc.cl1 (by repeat constructor) rfl)) ?_
    refine Lpu rfl rfl trivial (pu_fa fa_32_1 rfl) ?_
    refine Lpu rfl rfl trivial (pu_fa fa_30_1 rfl) ?_
    refine Lrd rfl rfl trivial (rd_ld na_3 rfl (Rdc.cl1 (by repeat constructor) rfl)) ?_
    refine Lpu rfl rfl trivial (pu_fa fa_32_0 rfl) ?_
    refine Lpu rfl rfl trivial (pu_fa fa_28_0 rfl) ?_
    refine Lrd rfl rfl trivial (rd_ld na_3 rfl (Rdc.cl1 (by repeat constructor) rfl)) ?_
    refine Lpu rfl rfl trivial (pu_fa fa_32_0 rfl) ?_
    refine Lpu rfl rfl trivial (pu_fa fa_28_1 rfl) ?_
    refine Lrd rfl rfl trivial (rd_ld na_3 rfl (Rdc.cl1 (by repeat constructor) rfl)) ?_
    refine Lac rfl rfl trivial (ac_lit encC_3 ([z.w, z.c, z.o, z.q]) et_99 ek_3 rfl (by repeat constructor) rfl rfl (by decide)) ?_
    rintro _ _ ⟨a38, rfl, rfl⟩
    refine Lpu rfl rfl trivial (pu_len Tryz.underlying99 rfl) ?_
    refine Lmv rfl rfl ?_
    refine Lnt ?_
    refine Gs.block ?_
    refine Gs.loop1 (fun s : Nat × (Option Addr × Nat) × List ByteArray => s.1 ≤ 4 ∧ s.2.2 = ([z.w, z.c, z.o, z.q].take s.1).map itS) (fun s => [(4, .string s1), (6, .slice s.2.1.1 s.2.2.length s.2.1.2), (38, .slice (some ⟨a38, 0, none⟩) 4 4), (39, int 4), (40, int s.1)]) (fun s => [S, sl 3 1 intC (some ⟨a38, 0, none⟩) 4 [z.w, z.c, z.o, z.q], sl 9 1 strC s.2.1.1 s.2.1.2 s.2.2] ++ R) (fun s => 4 - s.1) (0, (none, 0), []) (⟨Nat.zero_le _, rfl⟩) (by repeat constructor) (by repeat constructor) (fun s hs => ?_)
    obtain ⟨i, ⟨oa, oc⟩, O⟩ := s
    obtain ⟨hi, hO⟩ := hs
    dsimp only at hi hO ⊢
    have hOl : O.length = i := by rw [hO, List.length_map, List.length_take]; show min i 4 = i; omega
    refine Gsr ?_
    refine Lpu rfl rfl trivial (pu_lt rfl rfl) ?_
    refine Lnt ?_
    refine Gs.seq ?_
    refine Gs.cond rfl (fun hc2 => ?_) (fun hc2 => ?_)
    ·
     have hlt : i < 4 := by have := of_decide_eq_true hc2; omega
     obtain ⟨n, hn⟩ : ∃ n, [z.w, z.c, z.o, z.q][i]? = some n := ⟨[z.w, z.c, z.o, z.q][i]'hlt, List.getElem?_eq_getElem hlt⟩
     have inn : i64in n := by
       have hm := List.mem_of_getElem? hn
       simp only [List.mem_cons, List.not_mem_nil, or_false] at hm
       rcases hm with rfl | rfl | rfl | rfl
       · exact iw
       · exact ic
       · exact io
       · exact iq
     have hsn : O ++ [itS n] = ([z.w, z.c, z.o, z.q].take (i + 1)).map itS := by rw [List.take_add_one, hn, List.map_append, hO]; rfl
     refine Gs.skip ?_
     refine Gs.then_n ?_
     refine Gs.seq ?_
     refine Gs.block ?_
     refine Gsr ?_
     refine Lpu rfl rfl trivial (pu_ia se_99 rfl rfl (by omega) (by omega)) ?_
     refine Lrd rfl rfl trivial (rd_ld na_3 rfl (Rdc.el0 (SlH.own (xs := [z.w, z.c, z.o, z.q]) (E := 3) (enc := intC) (sz := 1) (by repeat constructor)) hn rfl rfl)) ?_
     refine Las rfl rfl ?_
     refine Lnt ?_
     refine Gs.reg ?_
     refine Lmv rfl rfl ?_
     refine Lmv rfl rfl ?_
     refine Lac rfl rfl trivial (as_call (hT.ct (fun h0 T => itoaY_spec T n inn)) (by repeat constructor) (by repeat constructor)) ?_
     rintro _ _ ⟨_, ⟨rfl, rfl⟩, rfl⟩
     refine Lac rfl rfl trivial (ac_lit encC_9 ([itS n]) et_23 ek_9 rfl (by repeat constructor) rfl rfl (by decide)) ?_
     rintro _ _ ⟨a47, rfl, rfl⟩
     refine Lac rfl rfl trivial (ac_append (xs := O) (ys := [itS n]) et_23 ek_9 rfl rfl (by repeat constructor) (SrcH.sl Tryz.underlying23 ek_9 (SlH.own (by repeat constructor))) (by first | omega | (simp; omega)) (by first | omega | (simp; omega))) ?_
     rintro _ _ ⟨a48, c48, rfl, rfl⟩
     refine Las rfl rfl ?_
     refine Lnil ?_
     refine Gs.blk_n ?_
     refine Gs.then_n ?_
     refine Gs.reg ?_
     refine Lpu rfl rfl trivial (by first | exact pu_addI rfl rfl rfl (by omega) (by omega) | exact pu_add rfl rfl) ?_
     refine Lmv rfl rfl ?_
     refine Lnt ?_
     exact Gs.again1 (i + 1, (a48, c48), O ++ [itS n]) ⟨hlt, hsn⟩ (by show 4 - (i + 1) < 4 - i; omega) (by repeat constructor) (by repeat constructor)
    ·
     have hge : i = 4 := by have := of_decide_eq_false hc2; omega
     subst hge
     have hO4 : O = [itS z.w, itS z.c, itS z.o, itS z.q] := hO
     refine Gs.slLen (E := 9) (sz := 1) (enc := strC) (a := oa) (c := oc) (xs := O) (by repeat constructor) fun hlc => ?_
     have hj : (Lib.join (O.map (·.data.toList)) [46]).length ≤ 87 := by
       rw [hO4, List.map_cons, Lib.join_length]
       have e1 := itS_size iw
       have e2 := itS_size ic
       have e3 := itS_size io
       have e4 := itS_size iq
       have g : ∀ n, (itS n).size = (Lib.itoa n).length := fun n => by show (Lib.itoa n).toArray.size = _; rw [List.size_toArray]
       rw [g] at e1 e2 e3 e4
       have f : ∀ s : ByteArray, s.data.toList.length = s.size := fun s => by simp
       simp only [List.map_cons, List.map_nil, List.length_cons, List.length_nil, Lib.lens, f]
       simp only [List.map_cons, List.map_nil, List.sum_cons, List.sum_nil, f, g]
       omega
     have hjs : (jnS O ⟨#[46]⟩).size ≤ 87 := by show (Lib.join (O.map (·.data.toList)) [46]).toArray.size ≤ 87; rw [List.size_toArray]; exact hj
     refine Gs.exit ?_
     refine Gs.then_x ?_
     refine Gs.then_x ?_
     refine Gs.blk_hit ?_
     refine Gs.then_n ?_
     refine Gs.reg ?_
     refine Lmv rfl rfl ?_
     refine Lmv rfl rfl ?_
     refine Lac rfl rfl trivial (as_call (join_spec (S := sl 9 1 strC oa oc O) (a := oa) (c := oc) Srd.own (by rw [hO4]; exact List.cons_ne_nil _ _) hlc (by omega) ⟨#[46]⟩ (Nat.le_trans hj (by decide))) (by repeat constructor) (by repeat constructor)) ?_
     rintro _ _ ⟨_, ⟨rfl, rfl⟩, rfl⟩
     refine Lpu rfl rfl trivial (pu_addS (by show 7 + (jnS O ⟨#[46]⟩).size ≤ _; omega) rfl rfl) ?_
     refine Lpu rfl rfl trivial (pu_addS (by rw [ByteArray.size_append]; show s1.size + (7 + (jnS O ⟨#[46]⟩).size) ≤ _; omega) rfl rfl) ?_
     refine Las rfl rfl ?_
     refine Lnil ?_
     have hfin : (s1 ++ ((⟨#[32, 97, 102, 116, 101, 114, 58]⟩ : ByteArray) ++ jnS O ⟨#[46]⟩)).size ≤ 200 := by rw [ByteArray.size_append, ByteArray.size_append]; show s1.size + (7 + (jnS O ⟨#[46]⟩).size) ≤ 200; omega
     refine Gs.then_n ?_
     refine Gs.seq ?_
     refine Gsr ?_
     refine Lmv rfl rfl ?_
     refine Lpu rfl rfl trivial (pu_lenS Tryz.underlying9 rfl) ?_
     refine Lpu rfl rfl trivial (pu_gt rfl rfl) ?_
     refine Lnt ?_
     refine Gs.cond_ff rfl (by first | exact decide_eq_false (by omega) | exact decide_eq_false (by have h9 := hfin; omega)) ?_
     refine Gs.skip ?_
     refine Gs.then_n ?_
     refine Gsr ?_
     refine Lmv rfl rfl ?_
     refine Las rfl rfl ?_
     refine Las rfl rfl ?_
     refine Lnt ?_
     refine Gs.ret ?_
     exact Gs.fin2 Tryz.results110 rfl rfl _ (⟨⟨_, 0, rfl, by rw [hyes]; rfl⟩, rfl⟩) (by repeat constructor)
   ·
    refine Gs.skip ?_
    refine Gs.then_n ?_
    refine Gs.seq ?_
    refine Gsr ?_
    refine Lmv rfl rfl ?_
    refine Lpu rfl rfl trivial (pu_lenS Tryz.underlying9 rfl) ?_
    refine Lpu rfl rfl trivial (pu_gt rfl rfl) ?_
    refine Lnt ?_
    refine Gs.cond_ff rfl (by first | exact decide_eq_false (by omega) | exact decide_eq_false (by have h9 := hfin; omega)) ?_
    refine Gs.skip ?_
    refine Gs.then_n ?_
    refine Gsr ?_
    refine Lmv rfl rfl ?_
    refine Las rfl rfl ?_
    refine Las rfl rfl ?_
    refine Lnt ?_
    refine Gs.ret ?_
    exact Gs.fin2 Tryz.results110 rfl rfl _ (⟨⟨_, 0, rfl, by rw [hyes]; rfl⟩, rfl⟩) (by repeat constructor)
theorem smay_spec {S : HProp} (hT : TabW S) {d : Nat} {x : AskV} (hA : ARd S x) (hF : FewA d x) (hz : sizeA d x ≤ 1000) (hd : d ≤ 1000) (lim : Int) (z : Rec) :
    Ct Tryz.prog 63 [quV x lim z] [S] (fun v hs => v = .bool (mayA d x && okQ lim z) ∧ hs = [S]) := by
  obtain ⟨v0, hv0⟩ : ∃ v0, v0 = (mayA d x && okQ lim z) := ⟨_, rfl⟩
  rw [← hv0]
  refine Ct.intro Tryz.func63 rfl (by kernel_rfl) 22 Tryz.ntmps63 (Nat.le_of_ble_eq_true rfl) fun w0 R => ?_
  refine Gsr ?_
  refine Lac rfl rfl trivial (ac_box rfl rfl) ?_
  rintro _ _ ⟨qb, rfl, rfl⟩
  refine Las rfl rfl ?_
  refine Lnt ?_
  refine Gsr ?_
  refine Lpu rfl rfl trivial (pu_build bd_26 (by repeat constructor) rfl) ?_
  refine Lpu rfl rfl trivial (pu_fa fa_34_1 rfl) ?_
  refine Lrd rfl rfl trivial (rd_ld na_3 rfl (Rdc.cl1 (by repeat constructor) rfl)) ?_
  refine Lpu rfl rfl trivial (pu_fa fa_34_2 rfl) ?_
  refine Lrd rfl rfl trivial (rd_lda ag_32 rfl (Rdc.cl 5 (by repeat constructor) rfl) rfl) ?_
  refine Lpu rfl rfl trivial (pu_build bd_34 (by repeat constructor) rfl) ?_
  refine Lac rfl rfl trivial (as_call (write_spec hT lim z) (by repeat constructor) (by repeat constructor)) ?_
  rintro _ _ ⟨_, ⟨⟨s, e, rfl, he⟩, rfl⟩, rfl⟩
  refine Lmv rfl rfl ?_
  refine Lpu rfl rfl trivial (pu_extract rfl rfl) ?_
  refine Lpu rfl rfl trivial (pu_extract rfl rfl) ?_
  refine Las rfl rfl ?_
  refine Las rfl rfl ?_
  refine Lnt ?_
  refine Gsr ?_
  refine Lmv rfl rfl ?_
  refine Lpu rfl rfl trivial (pu_eq rfl rfl) ?_
  refine LpuB rfl rfl trivial (pu_move rfl) (fun hg2 => ?_) (fun hg2 => ?_)
  ·
   have e2 : okQ lim z = true := by rw [← he]; exact hg2
   refine Lpu rfl rfl ⟨_, rfl, rfl⟩ (pu_fa fa_34_0 rfl) ?_
   refine Lrd rfl rfl ⟨_, rfl, rfl⟩ (rd_lda ag_26 rfl (Rdc.cl 4 (by repeat constructor) rfl) rfl) ?_
   refine Lac rfl rfl ⟨_, rfl, rfl⟩ (as_call (mayA_spec hT.u hA hF hz hd) (by repeat constructor) (by repeat constructor)) ?_
   rintro _ _ ⟨_, ⟨rfl, rfl⟩, rfl⟩
   refine Lpu rfl rfl trivial (by first | exact pu_pick_t rfl rfl | exact pu_pick_f rfl rfl) ?_
   refine Las rfl rfl ?_
   refine Lnt ?_
   refine Gs.ret ?_
   exact Gs.fin1 Tryz.results63 rfl _ (⟨by
     first
       | rw [hv0, e2, Bool.and_true]
       | rw [hv0, e2, Bool.and_false], rfl⟩) (by repeat constructor)
  ·
   have e2 : okQ lim z = false := by rw [← he]; exact hg2
   refine Loff rfl rfl rfl rfl rfl rfl ?_
   refine Loff rfl rfl rfl rfl rfl rfl ?_
   refine Loff rfl rfl rfl rfl rfl rfl ?_
   refine Lpu rfl rfl trivial (by first | exact pu_pick_t rfl rfl | exact pu_pick_f rfl rfl) ?_
   refine Las rfl rfl ?_
   refine Lnt ?_
   refine Gs.ret ?_
   exact Gs.fin1 Tryz.results63 rfl _ (⟨by
     first
       | rw [hv0, e2, Bool.and_true]
       | rw [hv0, e2, Bool.and_false], rfl⟩) (by repeat constructor)
end YtklgiidfompdpaaGreatDoor
end Go.Proofs
