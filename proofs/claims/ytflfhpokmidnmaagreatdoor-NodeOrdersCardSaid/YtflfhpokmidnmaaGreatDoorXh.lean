/- What the closing leans on: part 8. -/
import Derived.Test.YtflfhpokmidnmaaGreatDoorXg
import Derived.Test.YtflfhpokmidnmaaGreatDoorXd
import Derived.Test.YtflfhpokmidnmaaGreatDoorXc
import Derived.Test.YtflfhpokmidnmaaGreatDoorXe
import Derived.Sort.Grow
import Derived.WalkMore
import Derived.Shelf.SlSortCmp.NoneTotal
import Derived.Test.YtflfhpokmidnmaaGreatDoorXf
import Derived.Test.YtflfhpokmidnmaaGreatDoorXb
namespace Go.Proofs.YtflfhpokmidnmaaGreatDoor
open Go Go.Sl Go.Gv Go.Kv Go.Po Go.Ix Go.Qu Go.Shelf
set_option maxRecDepth 100000
abbrev stCells (va wa : Option Addr) (vc wc m : Nat) (V W : List Int) : List Value := [.slice va V.length vc, .slice wa W.length wc, .map (some m)]
structure StQ where
 va : Option Addr
 vc : Nat
 wa : Option Addr
 wc : Nat
 m : Nat
 M : List (Key × Rec)
def stA (b : Nat) (V W : List Int) (rs : List Rec) : HProp := fun h => ∃ q : StQ, RecM rs q.M ∧ two (cl b 112 (stCells q.va q.wa q.vc q.wc q.m V W)) (two (sl 3 1 intC q.va q.vc V) (two (sl 3 1 intC q.wa q.wc W) (mp keyV recV q.m q.M))) h
section
variable {w0 : World} {n : Nat} {env : Env} {H : List HProp} {X : Act → World → Prop} {b : Nat} {V W : List Int} {rs : List Rec}
theorem Gs.st (g : ∀ q : StQ, RecM rs q.M → Gs w0 n env (cl b 112 (stCells q.va q.wa q.vc q.wc q.m V W) :: sl 3 1 intC q.va q.vc V :: sl 3 1 intC q.wa q.wc W :: mp keyV recV q.m q.M :: H) X) : Gs w0 n env (stA b V W rs :: H) X :=
 Gs.ex (A := fun q : StQ => fun h => RecM rs q.M ∧ two (cl b 112 (stCells q.va q.wa q.vc q.wc q.m V W)) (two (sl 3 1 intC q.va q.vc V) (two (sl 3 1 intC q.wa q.wc W) (mp keyV recV q.m q.M))) h)
   fun q => Gs.pure fun hq => fun a w e s => g q hq a w e (by
     have s1 := Sat.two.1 s
     have s2 := Sat.two.1 (s1.take (.tl .hd))
     have s3 := Sat.two.1 (s2.take (.tl .hd))
     exact Ent.sat (by repeat constructor) s3)
theorem Gs.stc (q : StQ) (h : RecM rs q.M) (g : Gs w0 n env (stA b V W rs :: H) X) : Gs w0 n env (cl b 112 (stCells q.va q.wa q.vc q.wc q.m V W) :: sl 3 1 intC q.va q.vc V :: sl 3 1 intC q.wa q.wc W :: mp keyV recV q.m q.M :: H) X := fun a w e s => g a w e (by
 have s1 : Sat w0 w (sl 3 1 intC q.wa q.wc W :: mp keyV recV q.m q.M :: sl 3 1 intC q.va q.vc V :: cl b 112 (stCells q.va q.wa q.vc q.wc q.m V W) :: H) := Ent.sat (by repeat constructor) s
 have s2 := (Sat.two.2 s1).take (A := sl 3 1 intC q.va q.vc V) (.tl .hd)
 have s3 := (Sat.two.2 s2).take (A := cl b 112 (stCells q.va q.wa q.vc q.wc q.m V W)) (.tl .hd)
 exact (Sat.two.2 s3).ent fun h' hh => ⟨q, h, hh⟩)
end
theorem snewSt_spec (n : Nat) (h1 : 1 ≤ n) (h8 : n ≤ 8) :
   Ct Tryz.prog 54 [int n] [] (fun v hs => ∃ b, v = ptr b ∧ hs = [stA b (List.replicate n 0) (List.replicate n 0) []]) := by
 refine Cti Tryz.func54 (by kernel_rfl) 16 Tryz.ntmps54 rfl rfl fun w0 R => ?_
 refine Gsr (Las rfl rfl (Lnt (Gs.seq (Gsr (Lmv rfl rfl (Lq rfl (pu_lt rfl rfl) (LpuBf rfl rfl trivial (pu_move rfl) (decide_eq_false (by omega)) (Lpu rfl rfl ⟨_, rfl, rfl⟩ (pu_move rfl) (Lpu rfl rfl ⟨_, rfl, rfl⟩ (pu_gt rfl rfl) (Lpk rfl rfl rfl (Lnt ?_)))))))))))
 refine Gs.cond_ff rfl (decide_eq_false (by omega)) (Gs.skip (Gn (Gsr (Lmv rfl rfl (La rfl (asC (vzero_spec n h1 h8)) ?_)))))
 rintro _ _ ⟨_, ⟨za, rfl, rfl⟩, rfl⟩
 refine Lmv rfl rfl (La rfl (asC (vzero_spec n h1 h8)) ?_)
 rintro _ _ ⟨_, ⟨zb, rfl, rfl⟩, rfl⟩
 refine La rfl (ac_mkmap enck_35 encv_50) ?_
 rintro _ _ ⟨m, rfl, rfl⟩
 refine Lq rfl (pu_build bd_112 (by repeat constructor) rfl) ?_
 refine La rfl (ac_box rfl rfl) ?_
 rintro _ _ ⟨sb, rfl, rfl⟩
 refine Las rfl rfl (Lnt (Gs.ret ?_))
 rw [show ([Value.slice za n n, .slice zb n n, .map (some m)] : List Value) = stCells za zb n n m (List.replicate n 0) (List.replicate n 0) by simp only [stCells, List.length_replicate]]
 refine Gs.takes (As := [cl sb 112 (stCells za zb n n m (List.replicate n 0) (List.replicate n 0)), sl 3 1 intC za n (List.replicate n 0), sl 3 1 intC zb n (List.replicate n 0), mp keyV recV m ([] : List (Key × Rec))]) (by repeat constructor) ?_
 refine Gs.stc (b := sb) (V := List.replicate n 0) (W := List.replicate n 0) (rs := []) ⟨za, n, zb, n, m, []⟩ RecM.nil ?_
 exact Gs.fin1 Tryz.results54 rfl _ (⟨sb, rfl, rfl⟩) (by repeat constructor)
theorem sV_spec (b : Nat) (V W : List Int) (rs : List Rec) (hl : V.length ≤ 1000) :
   Ct Tryz.prog 32 [ptr b] [stA b V W rs] (fun v hs => ∃ a c, v = .slice a V.length c ∧ hs = [stA b V W rs, sl 3 1 intC a c V]) := by
 refine Cti Tryz.func32 (by kernel_rfl) 10 Tryz.ntmps32 rfl rfl fun w0 R => ?_
 refine Gs.st fun q hq => ?_
 refine Gsr (Las rfl rfl (Lnt (Gs.seq (Gsr (Lmv rfl rfl (Lq rfl (pu_eqN Tryz.underlying67 rfl rfl) (Lnt (Gs.cond_ff rfl rfl (Gs.skip (Gn (Gsr ?_)))))))))))
 refine Lmv rfl rfl (Lq rfl (by first | exact pu_nil rfl | exact pu_nilF rfl) ?_)
 refine Lq rfl (pu_fa fa_112_0 rfl) (Lr rfl (rd_ld na_30 rfl (Rdc.cl1 (by repeat constructor) rfl)) ?_)
 refine La rfl (asC (cloneI_spec (S := sl 3 1 intC q.va q.vc V) Srd.own (by omega))) ?_
 rintro _ _ ⟨_, ⟨va', vc', rfl, rfl⟩, rfl⟩
 refine Las rfl rfl (Lnt (Gs.ret (Gs.takes (As := [cl b 112 (stCells q.va q.wa q.vc q.wc q.m V W), sl 3 1 intC q.va q.vc V, sl 3 1 intC q.wa q.wc W, mp keyV recV q.m q.M]) (by repeat constructor) (Gs.stc q hq ?_))))
 exact Gs.fin1 Tryz.results32 rfl _ (⟨va', vc', rfl, rfl⟩) (by repeat constructor)
theorem sW_spec (b : Nat) (V W : List Int) (rs : List Rec) (hl : W.length ≤ 1000) :
   Ct Tryz.prog 65 [ptr b] [stA b V W rs] (fun v hs => ∃ a c, v = .slice a W.length c ∧ hs = [stA b V W rs, sl 3 1 intC a c W]) := by
 refine Cti Tryz.func65 (by kernel_rfl) 10 Tryz.ntmps65 rfl rfl fun w0 R => ?_
 refine Gs.st fun q hq => ?_
 refine Gsr (Las rfl rfl (Lnt (Gs.seq (Gsr (Lmv rfl rfl (Lq rfl (pu_eqN Tryz.underlying67 rfl rfl) (Lnt (Gs.cond_ff rfl rfl (Gs.skip (Gn (Gsr ?_)))))))))))
 refine Lmv rfl rfl (Lq rfl (by first | exact pu_nil rfl | exact pu_nilF rfl) ?_)
 refine Lq rfl (pu_fa fa_112_1 rfl) (Lr rfl (rd_ld na_30 rfl (Rdc.cl1 (by repeat constructor) rfl)) ?_)
 refine La rfl (asC (cloneI_spec (S := sl 3 1 intC q.wa q.wc W) Srd.own (by omega))) ?_
 rintro _ _ ⟨_, ⟨va', vc', rfl, rfl⟩, rfl⟩
 refine Las rfl rfl (Lnt (Gs.ret (Gs.takes (As := [cl b 112 (stCells q.va q.wa q.vc q.wc q.m V W), sl 3 1 intC q.va q.vc V, sl 3 1 intC q.wa q.wc W, mp keyV recV q.m q.M]) (by repeat constructor) (Gs.stc q hq ?_))))
 exact Gs.fin1 Tryz.results65 rfl _ (⟨va', vc', rfl, rfl⟩) (by repeat constructor)
def keysSp (s : SpanV) : List Key := (List.range s.m.toNat).map fun i : Nat => (⟨s.o, s.q + (i : Int)⟩ : Key)
theorem keysSp_take {s : SpanV} {i : Nat} (h : i < s.m.toNat) : (keysSp s).take (i + 1) = (keysSp s).take i ++ [⟨s.o, s.q + (i : Int)⟩] := by
 rw [List.take_add_one]
 congr 1
 unfold keysSp
 rw [List.getElem?_map, List.getElem?_range h]; rfl
theorem keysSp_all (s : SpanV) : (keysSp s).take s.m.toNat = keysSp s := List.take_of_length_le (by unfold keysSp; rw [List.length_map, List.length_range]; exact Nat.le_refl _)
theorem ofR_app (rs : List Rec) (a b : List Key) : ofR rs (a ++ b) = ofR rs a ++ ofR rs b := List.map_append ..
theorem ofR_len (rs : List Rec) (a : List Key) : (ofR rs a).length = a.length := List.length_map ..
theorem flatMap_le {α β : Type} (f : α → List β) (xs : List α) (j : Nat) : ((xs.take j).flatMap f).length ≤ (xs.flatMap f).length := by
 conv => rhs; rw [← List.take_append_drop j xs]
 rw [List.flatMap_append, List.length_append]; omega
theorem flat_step {α β : Type} (f : α → List β) {xs : List α} {j : Nat} {x : α} (h : xs[j]? = some x) : (xs.take (j + 1)).flatMap f = (xs.take j).flatMap f ++ f x := by
 rw [List.take_add_one, h, List.flatMap_append]; simp
theorem lackN_len {V U W : List Int} {k : Nat} : ∀ m, (∀ o, o < m → at0 V o - topAt U W o ≤ (k : Int)) → (lackN V U W m).length ≤ k * m
 | 0, _ => by simp [lackN]
 | m + 1, h => by
   rw [lackN_succ, List.length_append, Nat.mul_succ]
   have h1 := lackN_len m fun o ho => h o (by omega)
   have h2 : (spanAt V U W m).length ≤ k := by
     unfold spanAt; rw [List.length_map, List.length_range]; have := h m (by omega); omega
   omega
theorem above_spec {S : HProp} {n : Nat} (b : Nat) {V W U : List Int} {rs : List Rec} (h : StOk n V W rs) (h8 : n ≤ 8) {fa : Option Addr} {fc : Nat} (hS : Srd S 1 intC fa U) (hu : U.length = n) (hU : ∀ o, o < n → 0 ≤ at0 U o ∧ at0 U o ≤ 1023) :
   Ct Tryz.prog 64 [ptr b, .slice fa U.length fc] [stA b V W rs, S]
     (fun v hs => ∃ a c, v = .slice a (ofR rs (lackK V U W)).length c ∧ hs = [stA b V W rs, S, sl 50 5 recC a c (ofR rs (lackK V U W))]) := by
 have hv := h.v
 have hw := h.w
 obtain ⟨sp, hsp⟩ : ∃ sp, sp = spansN V U W V.length := ⟨_, rfl⟩
 have hkeys : sp.flatMap keysSp = lackK V U W := by rw [hsp]; exact spans_keys V U W V.length
 have hspl : sp.length ≤ 8 := by rw [hsp]; have := spansN_len V U W V.length; omega
 have htop : ∀ o, o < V.length → -10000 ≤ at0 V o ∧ at0 V o ≤ 10000 ∧ -10000 ≤ topAt U W o ∧ topAt U W o ≤ 10000 := fun o ho => by
   have h1 := h.le o (by omega)
   have h2 := hU o (by omega)
   unfold topAt; omega
 have htot : (lackK V U W).length ≤ 100000 := by
   have := lackN_len (V := V) (U := U) (W := W) (k := 1023) V.length fun o ho => by
     have h1 := h.le o (by omega)
     unfold topAt; omega
   unfold lackK; omega
 have hpre : ∀ j, ((sp.take j).flatMap keysSp).length ≤ 100000 := fun j => by have := flatMap_le keysSp sp j; rw [hkeys] at this; omega
 have hmem : ∀ s ∈ sp, -10000 ≤ s.q ∧ s.q ≤ 20000 ∧ s.m ≤ 20000 := fun s hs => by
   rw [hsp] at hs
   unfold spansN at hs
   obtain ⟨o, ho, hs⟩ := List.mem_flatMap.1 hs
   have := htop o (List.mem_range.1 ho)
   split at hs
   · rw [List.mem_singleton.1 hs]; dsimp only; omega
   · cases hs
 refine Cti Tryz.func64 (by kernel_rfl) 43 Tryz.ntmps64 rfl rfl fun w0 R => ?_
 refine Gsr (Las rfl rfl (Lnt (Gsr (Las rfl rfl (Lnt (Gs.seq (Gsr (Lmv rfl rfl (La rfl (asC (sV_spec b V W rs (by omega))) ?_)))))))))
 rintro _ _ ⟨_, ⟨ya, yc, rfl, rfl⟩, rfl⟩
 refine Lmv rfl rfl (Lmv rfl rfl (La rfl (asC (sW_spec b V W rs (by omega))) ?_))
 rintro _ _ ⟨_, ⟨xa, xc, rfl, rfl⟩, rfl⟩
 refine La rfl (asC (lack3_spec (A := sl 3 1 intC ya yc V) (B := S) (D := sl 3 1 intC xa xc W) (V := V) (U := U) (W := W) Srd.own hS Srd.own (by omega) (by omega) (by omega) htop)) ?_
 rintro _ _ ⟨_, ⟨d, e, rfl, rfl⟩, rfl⟩
 rw [← hsp]
 refine Gs.st (b := b) (V := V) (W := W) (rs := rs) ?_ |> Gs.takes (As := [stA b V W rs]) (by repeat constructor)
 intro q hq
 refine Gs.slAddr (xs := sp) (SlH.own (E := 174) (enc := spC) (a := d) (c := e) (by repeat constructor)) fun db do' hda => ?_
 refine Gs.slNil 50 5 recC (Lq rfl (pu_len Tryz.underlying171 rfl) (Lmv rfl rfl (Lnt (Gs.block (Gs.loop1 (fun s : Nat × (Option Addr × Nat) => s.1 ≤ sp.length) (fun s => [(0, ptr b), (5, .slice s.2.1 (ofR rs ((sp.take s.1).flatMap keysSp)).length s.2.2), (14, .slice d sp.length e), (15, int sp.length), (16, int s.1)]) (fun s => [cl b 112 (stCells q.va q.wa q.vc q.wc q.m V W), sl 3 1 intC q.va q.vc V, sl 3 1 intC q.wa q.wc W, mp keyV recV q.m q.M, S, sl 174 3 spC d e sp, sl 50 5 recC s.2.1 s.2.2 (ofR rs ((sp.take s.1).flatMap keysSp))] ++ R) (fun s => sp.length - s.1) (0, (none, 0)) (Nat.zero_le _) (by repeat constructor) (by repeat constructor) (fun s hs => ?_))))))
 obtain ⟨j, oa, oc⟩ := s
 dsimp only at hs ⊢
 refine Gsr (Lq rfl (pu_lt rfl rfl) (Lnt (Gs.seq (Gs.cond rfl (fun hc0 => ?_) (fun hc0 => ?_)))))
 ·
  have hlt : j < sp.length := by have := of_decide_eq_true hc0; omega
  obtain ⟨x, hx⟩ : ∃ x, sp[j]? = some x := ⟨sp[j], by simp [hlt]⟩
  obtain rfl := hda (by rintro e; rw [e] at hlt; simp at hlt)
  have hm := hmem x (List.mem_of_getElem? hx)
  obtain ⟨pre, hpr⟩ : ∃ l, l = (sp.take j).flatMap keysSp := ⟨_, rfl⟩
  have hstep := flat_step keysSp hx
  have hp1 := hpre j
  have hp2 := hpre (j + 1)
  rw [hstep] at hp2
  rw [← hpr] at hp1 hp2 hstep ⊢
  rw [List.length_append] at hp2
  rw [← show pre ++ (keysSp x).take 0 = pre from List.append_nil pre]
  refine Gs.skip (Gn (Gs.seq (Gs.block (Gsr (Lq rfl (pu_ia se_171 rfl rfl (by omega) (by omega)) (Lr rfl (rd_lda ag_174 rfl (Rdc.el0 (SlH.own (by repeat constructor)) hx rfl rfl) rfl) ?_))))))
  refine La rfl (ac_alloc zv_174 rfl) ?_
  rintro _ _ ⟨sb, rfl, rfl⟩
  refine Lac0 rfl trivial (ac_st sz_174 rfl rfl (by repeat constructor) rfl rfl rfl rfl) ?_
  rintro _ _ rfl
  refine Lnt (Gsr (Lq rfl (pu_fa fa_174_2 rfl) (Lr rfl (rd_ld na_3 rfl (Rdc.cl1 (by repeat constructor) rfl)) ?_)))
  refine Lmv rfl rfl (Lnt (Gs.block (Gs.loop1 (fun s : Nat × (Option Addr × Nat) => (s.1 : Int) ≤ max 0 x.m) (fun s => [(0, ptr b), (5, .slice s.2.1 (ofR rs (pre ++ (keysSp x).take s.1)).length s.2.2), (7, ptr sb), (14, .slice (some ⟨db, do', none⟩) sp.length e), (15, int sp.length), (16, int j), (21, int x.m), (22, int s.1)]) (fun s => [cl b 112 (stCells q.va q.wa q.vc q.wc q.m V W), sl 3 1 intC q.va q.vc V, sl 3 1 intC q.wa q.wc W, mp keyV recV q.m q.M, S, sl 174 3 spC (some ⟨db, do', none⟩) e sp, cl sb 174 (spC x), sl 50 5 recC s.2.1 s.2.2 (ofR rs (pre ++ (keysSp x).take s.1))] ++ R) (fun s => x.m.toNat - s.1) (0, (oa, oc)) (by show ((0 : Nat) : Int) ≤ max 0 x.m; omega) (by repeat constructor) (by repeat constructor) (fun s hs2 => ?_))))
  obtain ⟨i, ia, ic⟩ := s
  dsimp only at hs2 ⊢
  have hil : (ofR rs (pre ++ (keysSp x).take i)).length ≤ 200000 := by
    rw [ofR_len, List.length_append, List.length_take]; omega
  refine Gsr (Lq rfl (pu_lt rfl rfl) (Lnt (Gs.seq (Gs.cond rfl (fun hc1 => ?_) (fun hc1 => ?_)))))
  ·
   have hlt2 : i < x.m.toNat := by have := of_decide_eq_true hc1; omega
   have hget := hq.get h.nd (⟨x.o, x.q + (i : Int)⟩ : Key)
   have hsn : ofR rs (pre ++ (keysSp x).take (i + 1)) = ofR rs (pre ++ (keysSp x).take i) ++ [(lookR rs ⟨x.o, x.q + (i : Int)⟩).getD Rec.zero] := by
     rw [keysSp_take hlt2, ← List.append_assoc, ofR_app]; rfl
   refine Gs.skip (Gn (Gs.seq (Gs.block (Gsr (Lmv rfl rfl (Las rfl rfl (Lnt (Gs.regD mixed (by kernel_rfl) (Rmv 0 rfl (by kernel_rfl) rfl (Rmv 1 rfl (by kernel_rfl) rfl (Rq 2 rfl (by kernel_rfl) (by first | exact pu_nil rfl | exact pu_nilF rfl) ?_)))))))))))
   refine Rq 3 rfl (by kernel_rfl) (pu_fa fa_112_2 rfl) (Rr 4 rfl (by kernel_rfl) (rd_ld na_110 rfl (Rdc.cl1 (by repeat constructor) rfl)) ?_)
   refine Rq 5 rfl (by kernel_rfl) (pu_fa fa_174_0 rfl) (Rr 6 rfl (by kernel_rfl) (rd_ld na_3 rfl (Rdc.cl1 (by repeat constructor) rfl)) ?_)
   refine Rq 7 rfl (by kernel_rfl) (pu_fa fa_174_1 rfl) (Rr 8 rfl (by kernel_rfl) (rd_ld na_3 rfl (Rdc.cl1 (by repeat constructor) rfl)) ?_)
   refine Rmv 9 rfl (by kernel_rfl) rfl (Rq 10 rfl (by kernel_rfl) (by first | exact pu_addI rfl rfl rfl (by omega) (by omega) | exact pu_add rfl rfl) ?_)
   refine Rq 11 rfl (by kernel_rfl) (pu_build bd_35 (by repeat constructor) rfl) ?_
   refine Rr 12 rfl (by kernel_rfl) (rd_look1 (k := (⟨x.o, x.q + (i : Int)⟩ : Key)) (encv := recV) Tryz.underlying110 kt_35 zvk_50 rfl rfl (by repeat constructor)) ?_
   rw [hget]
   refine Rg.one (by kernel_rfl) (Stp.ac 13 rfl rfl (by kernel_rfl) trivial (ac_lit encC_50 ([(lookR rs (⟨x.o, x.q + (i : Int)⟩ : Key)).getD Rec.zero]) et_32 ek_50 rfl (by repeat constructor) rfl rfl (by decide))  ?_)
   rintro _ _ ⟨a38, rfl, rfl⟩
   refine Rg.one (by kernel_rfl) (Stp.ac 14 rfl rfl (by kernel_rfl) trivial (ac_append (xs := ofR rs (pre ++ (keysSp x).take i)) (ys := [(lookR rs (⟨x.o, x.q + (i : Int)⟩ : Key)).getD Rec.zero]) et_32 ek_50 rfl rfl (by repeat constructor) (SrcH.sl Tryz.underlying32 ek_50 (SlH.own (by repeat constructor))) (by first | omega | (simp; omega)) (by first | omega | (simp; omega)))  ?_)
   rintro _ _ ⟨a39, c39, rfl, rfl⟩
   refine Rq 15 rfl (by kernel_rfl) (pu_assign rfl) (Rg.end (by kernel_rfl) ?_)
   rw [← hsn]
   refine Gs.blk_n (Gn (Gs.reg (Lq rfl (by first | exact pu_addI rfl rfl rfl (by omega) (by omega) | exact pu_add rfl rfl) ?_)))
   refine Lmv rfl rfl (Lnt ?_)
   exact Ag (i + 1, (a39, c39)) (by show ((i + 1 : Nat) : Int) ≤ max 0 x.m; omega) (by show x.m.toNat - (i + 1) < x.m.toNat - i; omega)
  have hge2 : i = x.m.toNat := by have := of_decide_eq_false hc1; omega
  rw [hge2, keysSp_all, ← hstep]
  refine Gs.exit (Gx (Gx (Gs.blk_hit (Gs.blk_n (Gn (Gs.reg (Lq rfl (by first | exact pu_addI rfl rfl rfl (by omega) (by omega) | exact pu_add rfl rfl) ?_)))))))
  refine Lmv rfl rfl (Lnt ?_)
  exact Ag (j + 1, (ia, ic)) hlt (by show sp.length - (j + 1) < sp.length - j; omega)
 have hge : j = sp.length := by have := of_decide_eq_false hc0; omega
 rw [hge, List.take_length, hkeys]
 refine Gs.exit (Gx (Gx (Gs.blk_hit (Gn (Gsr (Lmv rfl rfl (Las rfl rfl (Lnt (Gs.ret (Gs.takes (As := [cl b 112 (stCells q.va q.wa q.vc q.wc q.m V W), sl 3 1 intC q.va q.vc V, sl 3 1 intC q.wa q.wc W, mp keyV recV q.m q.M]) (by repeat constructor) (Gs.stc q hq ?_)))))))))))
 exact Gs.fin1 Tryz.results64 rfl _ (⟨oa, oc, rfl, rfl⟩) (by repeat constructor)
theorem srecords_spec {n : Nat} (b : Nat) {V W : List Int} {rs : List Rec} (h : StOk n V W rs) (h8 : n ≤ 8) :
   Ct Tryz.prog 33 [ptr b] [stA b V W rs]
     (fun v hs => ∃ a c, v = .slice a (ofR rs (lackK V W W)).length c ∧ hs = [stA b V W rs, sl 50 5 recC a c (ofR rs (lackK V W W))]) := by
 refine Cti Tryz.func33 (by kernel_rfl) 7 Tryz.ntmps33 rfl rfl fun w0 R => ?_
 refine Gsr (Las rfl rfl (Lnt (Gsr (Lmv rfl rfl (Lmv rfl rfl (La rfl (asC (sW_spec b V W rs (by have := h.w; omega))) ?_))))))
 rintro _ _ ⟨_, ⟨xa, xc, rfl, rfl⟩, rfl⟩
 refine La rfl (asC (above_spec (S := sl 3 1 intC xa xc W) b h h8 Srd.own h.w (fun o ho => by have := h.le o ho; omega))) ?_
 rintro _ _ ⟨_, ⟨ra, rc, rfl, rfl⟩, rfl⟩
 refine Las rfl rfl (Lnt (Gs.ret ?_))
 exact Gs.fin1 Tryz.results33 rfl _ (⟨ra, rc, rfl, rfl⟩) (by repeat constructor)
theorem accM_no {s : StM} {r : Rec} (h : ¬ (recB r = true ∧ r.o < (s.v.length : Int) ∧ r.q = at0 s.v r.o.toNat + 1)) : accM s r = s := by
 unfold accM
 refine if_neg fun hc => h ?_
 simp only [Bool.and_eq_true, decide_eq_true_eq] at hc
 exact ⟨hc.1.1, hc.1.2, hc.2⟩
theorem accM_yes {s : StM} {r : Rec} (h1 : recB r = true) (h2 : r.o < (s.v.length : Int)) (h3 : r.q = at0 s.v r.o.toNat + 1) : accM s r = ⟨s.v.set r.o.toNat r.q, s.w, s.rs ++ [r]⟩ := by
 unfold accM
 rw [if_pos (by rw [h1, decide_eq_true h2, decide_eq_true h3]; rfl)]
theorem accept_spec {h0 : Hp} (T : Tabs h0) {n : Nat} (b : Nat) (s : StM) (h : OkM n s) (h8 : n ≤ 8) (r : Rec) :
   Ct Tryz.prog 59 [ptr b, recV r] [stA b s.v s.w s.rs, ro h0] (fun v hs => (∃ e, v = int e) ∧ hs = [stA b (accM s r).v (accM s r).w (accM s r).rs, ro h0]) := by
 have hv := StOk.v h
 obtain ⟨V, W, rs⟩ := s
 dsimp only at hv ⊢
 refine Cti Tryz.func59 (by kernel_rfl) 70 Tryz.ntmps59 rfl rfl fun w0 R => ?_
 refine Gs.st fun q hq => ?_
 refine Gs.slAddr (xs := V) (SlH.own (E := 3) (enc := intC) (a := q.va) (c := q.vc) (by repeat constructor)) fun vb vo hva => ?_
 obtain ⟨qva, qvc, qwa, qwc, qm, qM⟩ := q
 dsimp only at hq hva ⊢
 refine Gsr (La rfl (ac_box rfl rfl) ?_)
 rintro _ _ ⟨rb, rfl, rfl⟩
 refine Las rfl rfl (Lnt (Gs.seq (Gs.block (Gsr (Lmv rfl rfl (Lq rfl (pu_eqN Tryz.underlying67 rfl rfl) (Las rfl rfl (Lnt (Gs.cond_ff rfl rfl (Gs.seq (Gs.regD mixed (by kernel_rfl) ?_)))))))))))
 refine Rr 0 rfl (by kernel_rfl) (rd_lda ag_50 rfl (Rdc.cl 5 (by repeat constructor) rfl) rfl) ?_
 refine Rg.one (by kernel_rfl) (Stp.ac 1 rfl rfl (by kernel_rfl) trivial (asC (recMay_spec T r))  ?_)
 rintro _ _ ⟨_, ⟨rfl, rfl⟩, rfl⟩
 refine Rq 2 rfl (by kernel_rfl) (pu_not rfl) (Rg.puB 3 rfl rfl (by kernel_rfl) trivial (pu_move rfl) (fun hg3 => ?_) (fun hg3 => ?_))
 ·
  have hst : accM ⟨V, W, rs⟩ r = ⟨V, W, rs⟩ := accM_no fun hc => by rw [hc.1] at hg3; cases hg3
  refine Rof 4 rfl (by kernel_rfl) rfl (Rof 5 rfl (by kernel_rfl) rfl (Rof 6 rfl (by kernel_rfl) rfl (Rof 7 rfl (by kernel_rfl) rfl (Rof 8 rfl (by kernel_rfl) rfl (Rof 9 rfl (by kernel_rfl) rfl (Rof 10 rfl (by kernel_rfl) rfl (Rof 11 rfl (by kernel_rfl) rfl (Rof 12 rfl (by kernel_rfl) rfl (Rpk 13 rfl (by kernel_rfl) rfl rfl (Rq 14 rfl (by kernel_rfl) (pu_assign rfl) (Rg.end (by kernel_rfl) ?_)))))))))))
  refine Gn (Gs.cond_t rfl (Gsr (Las rfl rfl (Lnt (Gs.ret (Gs.blk_r (Gr (Gs.takes (As := [cl b 112 (stCells qva qwa qvc qwc qm V W), sl 3 1 intC qva qvc V, sl 3 1 intC qwa qwc W, mp keyV recV qm qM]) (by repeat constructor) (Gs.stc ⟨qva, qvc, qwa, qwc, qm, qM⟩ hq ?_)))))))))
  exact Gs.fin1 Tryz.results59 rfl _ (⟨⟨_, rfl⟩, by rw [hst]⟩) (by repeat constructor)
 have hrb : recB r = true := not_f hg3
 have hp := recB_parts hrb
 refine Rg.pu 4 rfl rfl (by kernel_rfl) ⟨_, rfl, rfl⟩ (pu_fa fa_50_0 rfl) (Rg.pu 5 rfl rfl (by kernel_rfl) ⟨_, rfl, rfl⟩ (pu_fa fa_35_0 rfl) (Rg.rd 6 rfl rfl (by kernel_rfl) ⟨_, rfl, rfl⟩ (rd_ld na_3 rfl (Rdc.cl1 (by repeat constructor) rfl)) ?_))
 refine Rg.pu 7 rfl rfl (by kernel_rfl) ⟨_, rfl, rfl⟩ (pu_move rfl) (Rg.pu 8 rfl rfl (by kernel_rfl) ⟨_, rfl, rfl⟩ (by first | exact pu_nil rfl | exact pu_nilF rfl) ?_)
 refine Rg.pu 9 rfl rfl (by kernel_rfl) ⟨_, rfl, rfl⟩ (pu_fa fa_112_0 rfl) (Rg.rd 10 rfl rfl (by kernel_rfl) ⟨_, rfl, rfl⟩ (rd_ld na_30 rfl (Rdc.cl1 (by repeat constructor) rfl)) ?_)
 refine Rg.pu 11 rfl rfl (by kernel_rfl) ⟨_, rfl, rfl⟩ (pu_len Tryz.underlying30 rfl) (Rg.pu 12 rfl rfl (by kernel_rfl) ⟨_, rfl, rfl⟩ (pu_ge rfl rfl) (Rpk 13 rfl (by kernel_rfl) rfl rfl (Rq 14 rfl (by kernel_rfl) (pu_assign rfl) (Rg.end (by kernel_rfl) (Gn (Gs.cond rfl (fun hc1 => ?_) (fun hc1 => ?_)))))))
 ·
  have hst : accM ⟨V, W, rs⟩ r = ⟨V, W, rs⟩ := accM_no fun hc => by have := of_decide_eq_true hc1; have := hc.2.1; dsimp only at this; omega
  refine Gsr (Las rfl rfl (Lnt (Gs.ret (Gs.blk_r (Gr (Gs.takes (As := [cl b 112 (stCells qva qwa qvc qwc qm V W), sl 3 1 intC qva qvc V, sl 3 1 intC qwa qwc W, mp keyV recV qm qM]) (by repeat constructor) (Gs.stc ⟨qva, qvc, qwa, qwc, qm, qM⟩ hq ?_)))))))
  exact Gs.fin1 Tryz.results59 rfl _ (⟨⟨_, rfl⟩, by rw [hst]⟩) (by repeat constructor)
 have hro : r.o < (V.length : Int) := by have := of_decide_eq_false hc1; omega
 have hoi : r.o.toNat < V.length := by omega
 obtain rfl := hva (by intro e; rw [e] at hoi; simp at hoi)
 have gV := at0_get (v := V) hoi
 have hle := StOk.le h r.o.toNat (by omega)
 dsimp only at hle
 refine Gs.seq (Gs.regD mixed (by kernel_rfl) (Rq 0 rfl (by kernel_rfl) (pu_fa fa_50_0 rfl) (Rq 1 rfl (by kernel_rfl) (pu_fa fa_35_1 rfl) (Rr 2 rfl (by kernel_rfl) (rd_ld na_3 rfl (Rdc.cl1 (by repeat constructor) rfl)) ?_))))
 refine Rmv 3 rfl (by kernel_rfl) rfl (Rq 4 rfl (by kernel_rfl) (by first | exact pu_nil rfl | exact pu_nilF rfl) ?_)
 refine Rq 5 rfl (by kernel_rfl) (pu_fa fa_112_0 rfl) (Rr 6 rfl (by kernel_rfl) (rd_ld na_30 rfl (Rdc.cl1 (by repeat constructor) rfl)) ?_)
 refine Rq 7 rfl (by kernel_rfl) (pu_fa fa_50_0 rfl) (Rq 8 rfl (by kernel_rfl) (pu_fa fa_35_0 rfl) (Rr 9 rfl (by kernel_rfl) (rd_ld na_3 rfl (Rdc.cl1 (by repeat constructor) rfl)) ?_))
 refine Rq 10 rfl (by kernel_rfl) (pu_ia se_30 rfl rfl (by omega) (by omega)) (Rr 11 rfl (by kernel_rfl) (rd_ld na_3 rfl (Rdc.el0 (SlH.own (by repeat constructor)) gV rfl rfl)) ?_)
 refine Rq 12 rfl (by kernel_rfl) (pu_le rfl rfl) (Rq 13 rfl (by kernel_rfl) (pu_assign rfl) (Rg.end (by kernel_rfl) (Gn (Gs.cond rfl (fun hc2 => ?_) (fun hc2 => ?_)))))
 ·
  have hst : accM ⟨V, W, rs⟩ r = ⟨V, W, rs⟩ := accM_no fun hc => by have := of_decide_eq_true hc2; have := hc.2.2; dsimp only at this; omega
  refine Gsr (Las rfl rfl (Lnt (Gs.ret (Gs.blk_r (Gr (Gs.takes (As := [cl b 112 (stCells (some ⟨vb, vo, none⟩) qwa qvc qwc qm V W), sl 3 1 intC (some ⟨vb, vo, none⟩) qvc V, sl 3 1 intC qwa qwc W, mp keyV recV qm qM]) (by repeat constructor) (Gs.stc ⟨some ⟨vb, vo, none⟩, qvc, qwa, qwc, qm, qM⟩ hq ?_)))))))
  exact Gs.fin1 Tryz.results59 rfl _ (⟨⟨_, rfl⟩, by rw [hst]⟩) (by repeat constructor)
 refine Gs.seq (Gs.regD mixed (by kernel_rfl) (Rq 0 rfl (by kernel_rfl) (pu_fa fa_50_0 rfl) (Rq 1 rfl (by kernel_rfl) (pu_fa fa_35_1 rfl) (Rr 2 rfl (by kernel_rfl) (rd_ld na_3 rfl (Rdc.cl1 (by repeat constructor) rfl)) ?_))))
 refine Rmv 3 rfl (by kernel_rfl) rfl (Rq 4 rfl (by kernel_rfl) (by first | exact pu_nil rfl | exact pu_nilF rfl) ?_)
 refine Rq 5 rfl (by kernel_rfl) (pu_fa fa_112_0 rfl) (Rr 6 rfl (by kernel_rfl) (rd_ld na_30 rfl (Rdc.cl1 (by repeat constructor) rfl)) ?_)
 refine Rq 7 rfl (by kernel_rfl) (pu_fa fa_50_0 rfl) (Rq 8 rfl (by kernel_rfl) (pu_fa fa_35_0 rfl) (Rr 9 rfl (by kernel_rfl) (rd_ld na_3 rfl (Rdc.cl1 (by repeat constructor) rfl)) ?_))
 refine Rq 10 rfl (by kernel_rfl) (pu_ia se_30 rfl rfl (by omega) (by omega)) (Rr 11 rfl (by kernel_rfl) (rd_ld na_3 rfl (Rdc.el0 (SlH.own (by repeat constructor)) gV rfl rfl)) ?_)
 refine Rq 12 rfl (by kernel_rfl) (by first | exact pu_addI rfl rfl rfl (by omega) (by omega) | exact pu_add rfl rfl) ?_
 refine Rq 13 rfl (by kernel_rfl) (pu_gt rfl rfl) (Rq 14 rfl (by kernel_rfl) (pu_assign rfl) (Rg.end (by kernel_rfl) (Gn (Gs.cond rfl (fun hc3 => ?_) (fun hc3 => ?_)))))
 ·
  have hst : accM ⟨V, W, rs⟩ r = ⟨V, W, rs⟩ := accM_no fun hc => by have := of_decide_eq_true hc3; have := hc.2.2; dsimp only at this; omega
  refine Gsr (Las rfl rfl (Lnt (Gs.ret (Gs.blk_r (Gr (Gs.takes (As := [cl b 112 (stCells (some ⟨vb, vo, none⟩) qwa qvc qwc qm V W), sl 3 1 intC (some ⟨vb, vo, none⟩) qvc V, sl 3 1 intC qwa qwc W, mp keyV recV qm qM]) (by repeat constructor) (Gs.stc ⟨some ⟨vb, vo, none⟩, qvc, qwa, qwc, qm, qM⟩ hq ?_)))))))
  exact Gs.fin1 Tryz.results59 rfl _ (⟨⟨_, rfl⟩, by rw [hst]⟩) (by repeat constructor)
 have heq : r.q = at0 V r.o.toNat + 1 := by have := of_decide_eq_false hc2; have := of_decide_eq_false hc3; omega
 have hst : accM ⟨V, W, rs⟩ r = ⟨V.set r.o.toNat r.q, W, rs ++ [r]⟩ := accM_yes hrb hro heq
 obtain ⟨hok', hni⟩ := StOk.acc h hrb (o := r.o.toNat) (by omega) (by omega) heq hp.2.2.2
 refine Gs.skip (Gs.blk_n (Gn (Gs.seq (Gs.regD mixed (by kernel_rfl) (Rmv 0 rfl (by kernel_rfl) rfl (Rq 1 rfl (by kernel_rfl) (by first | exact pu_nil rfl | exact pu_nilF rfl) ?_))))))
 refine Rq 2 rfl (by kernel_rfl) (pu_fa fa_112_2 rfl) (Rr 3 rfl (by kernel_rfl) (rd_ld na_110 rfl (Rdc.cl1 (by repeat constructor) rfl)) ?_)
 refine Rq 4 rfl (by kernel_rfl) (pu_fa fa_50_0 rfl) (Rr 5 rfl (by kernel_rfl) (rd_lda ag_35 rfl (Rdc.cl 2 (by repeat constructor) rfl) rfl) ?_)
 refine Rr 6 rfl (by kernel_rfl) (rd_lda ag_50 rfl (Rdc.cl 5 (by repeat constructor) rfl) rfl) ?_
 refine Rg.one (by kernel_rfl) (Stp.ac0 7 rfl rfl (by kernel_rfl) trivial (ac_put (encv := recV) (k := r.key) (v := r) Tryz.underlying110 kt_35 rfl rfl rfl (by repeat constructor))  ?_)
 rintro _ _ rfl
 refine Rg.end (by kernel_rfl) (Gn (Gs.seq (Gs.regD mixed (by kernel_rfl) (Rmv 0 rfl (by kernel_rfl) rfl (Rq 1 rfl (by kernel_rfl) (by first | exact pu_nil rfl | exact pu_nilF rfl) ?_)))))
 refine Rq 2 rfl (by kernel_rfl) (pu_fa fa_112_0 rfl) (Rr 3 rfl (by kernel_rfl) (rd_ld na_30 rfl (Rdc.cl1 (by repeat constructor) rfl)) ?_)
 refine Rq 4 rfl (by kernel_rfl) (pu_fa fa_50_0 rfl) (Rq 5 rfl (by kernel_rfl) (pu_fa fa_35_0 rfl) (Rr 6 rfl (by kernel_rfl) (rd_ld na_3 rfl (Rdc.cl1 (by repeat constructor) rfl)) ?_))
 refine Rq 7 rfl (by kernel_rfl) (pu_fa fa_50_0 rfl) (Rq 8 rfl (by kernel_rfl) (pu_fa fa_35_1 rfl) (Rr 9 rfl (by kernel_rfl) (rd_ld na_3 rfl (Rdc.cl1 (by repeat constructor) rfl)) ?_))
 refine Rq 10 rfl (by kernel_rfl) (pu_ia se_30 rfl rfl (by omega) (by omega)) (Rg.one (by kernel_rfl) (Stp.ac0 11 rfl rfl (by kernel_rfl) trivial (ac_stE (i := r.o.toNat) (fo := 0) (y0 := r.q) sz_3 ek_3 rfl rfl (by repeat constructor) rfl rfl rfl gV rfl rfl)  ?_))
 rintro _ _ rfl
 refine Rg.end (by kernel_rfl) (Gn (Gsr (Las rfl rfl (Lnt (Gs.ret ?_)))))
 rw [show stCells (some ⟨vb, vo, none⟩) qwa qvc qwc qm V W = stCells (some ⟨vb, vo, none⟩) qwa qvc qwc qm (V.set r.o.toNat r.q) W by show [_, _, _] = [_, _, _]; rw [List.length_set]]
 refine Gs.takes (As := [cl b 112 (stCells (some ⟨vb, vo, none⟩) qwa qvc qwc qm (V.set r.o.toNat r.q) W), sl 3 1 intC (some ⟨vb, vo, none⟩) qvc (V.set r.o.toNat r.q), sl 3 1 intC qwa qwc W, mp keyV recV qm (mput qM r.key r)]) (by repeat constructor) (Gs.stc (V := V.set r.o.toNat r.q) (rs := rs ++ [r]) ⟨some ⟨vb, vo, none⟩, qvc, qwa, qwc, qm, mput qM r.key r⟩ (hq.put hni) ?_)
 exact Gs.fin1 Tryz.results59 rfl _ (⟨⟨_, rfl⟩, by rw [hst]⟩) (by repeat constructor)
end Go.Proofs.YtflfhpokmidnmaaGreatDoor
namespace Go.Sl
open Go
theorem Gs.openTwo {w0 : World} {n : Nat} {env : Env} {H H' : List HProp} {X : Act → World → Prop} {A B : HProp} (t : Take (Sl.two A B) H H') (g : Gs w0 n env (A :: B :: H') X) : Gs w0 n env H X := fun ac w e s => g ac w e (Sat.two.1 (s.take t))
end Go.Sl
namespace Go.Proofs.YtflfhpokmidnmaaGreatDoor
open Go Go.Sl Go.Gv Go.Kv Go.Po Go.Ix Go.Qu Go.Shelf
set_option maxRecDepth 100000
theorem erase_mem {α : Type} {l : List α} {i : Nat} {p : α} (h : l[i]? = some p) (x : α) : x ∈ l ↔ x = p ∨ x ∈ l.eraseIdx i := by
 induction l generalizing i with
 | nil => simp at h
 | cons a l ih =>
   cases i with
   | zero => simp at h; subst h; simp
   | succ i =>
     have := ih (i := i) (by simpa using h)
     simp only [List.eraseIdx_cons_succ, List.mem_cons, this]
     constructor
     · rintro (h | h | h)
       · exact .inr (.inl h)
       · exact .inl h
       · exact .inr (.inr h)
     · rintro (h | h | h)
       · exact .inr (.inl h)
       · exact .inl h
       · exact .inr (.inr h)
theorem erase_ne {l : List (Key × Rec)} (hn : (mkeys l).Nodup) {i : Nat} {p : Key × Rec} (h : l[i]? = some p) : ∀ x ∈ l.eraseIdx i, x.1 ≠ p.1 := by
 induction l generalizing i with
 | nil => simp at h
 | cons a l ih =>
   have hn' := List.nodup_cons.1 hn
   cases i with
   | zero =>
     simp at h; subst h
     intro x hx e
     exact hn'.1 (by show a.1 ∈ _; rw [← e]; exact List.mem_map.2 ⟨x, by simpa using hx, rfl⟩)
   | succ i =>
     intro x hx e
     have hp : p ∈ l := List.mem_of_getElem? (by simpa using h)
     simp only [List.eraseIdx_cons_succ, List.mem_cons] at hx
     rcases hx with rfl | hx
     · exact hn'.1 (by show x.1 ∈ _; rw [e]; exact List.mem_map.2 ⟨p, hp, rfl⟩)
     · exact ih hn'.2 (i := i) (by simpa using h) x hx e
theorem delf_spec {F : HProp} {g : FuncId} {c1 : Value} {q : Key × Rec → Bool} {b : Nat} {M : List (Key × Rec)} (hg : ∀ p ∈ M, Ct Tryz.prog g ([] ++ [keyV p.1, recV p.2] ++ [c1]) [F] (fun v hs => v = .bool (q p) ∧ hs = [F])) :
   Ct Tryz.prog 97 [.map (some b), .func (.func g) #[] #[c1]] [mp keyV recV b M, F]
     (fun v hs => ∃ M' : List (Key × Rec), v = .tuple #[] ∧ (∀ k r, mget M' k = some r ↔ mget M k = some r ∧ q (k, r) = false) ∧ hs = [mp keyV recV b M', F]) := by
 refine Cti Tryz.func97 (by kernel_rfl) 19 Tryz.ntmps97 rfl rfl fun w0 R => ?_
 refine Gs.mpNodup (enck := keyV) (encv := recV) (b := b) (m := M) (by repeat constructor) fun hmn => ?_
 refine Gsr (Lmv rfl rfl (La rfl (ac_range (enck := keyV) (encv := recV) Tryz.underlying110 rfl (by repeat constructor)) ?_))
 rintro _ _ ⟨ri, rfl, rfl⟩
 refine Lnt (Gs.block (Gs.loop1 (fun s : List (Key × Rec) × List (Key × Rec) × Option (Key × Rec) => (mkeys s.2.1).Nodup ∧ (∀ p ∈ s.2.1, p ∈ M) ∧ (∀ k r, mget s.1 k = some r ↔ mget M k = some r ∧ ((k, r) ∈ s.2.1 ∨ q (k, r) = false))) (fun s => [(0, .map (some b)), (1, .func (.func g) #[] #[c1]), (7, ptr ri)]) (fun s => [itr keyV recV ri b s.1 s.2.1 s.2.2, F] ++ R) (fun s => s.2.1.length) (M, M, none) (⟨hmn, fun _ h => h, fun k r => ⟨fun h => ⟨h, .inl (mget_mem h)⟩, fun h => h.1⟩⟩) (by repeat constructor) (by repeat constructor) (fun s hs => ?_)))
 obtain ⟨M1, left, last⟩ := s
 obtain ⟨hn, hsub, hM1⟩ := hs
 dsimp only at hn hsub hM1 ⊢
 refine Gs.itrNodup (enck := keyV) (encv := recV) (r := ri) (b := b) (m := M1) (left := left) (last := last) (by repeat constructor) fun hn1 => ?_
 refine Gsr (La rfl (ac_next rfl (by repeat constructor)) ?_)
 rintro _ _ (⟨hl, rfl, rfl⟩ | ⟨i, p, hp, rfl, rfl⟩)
 ·
  have hl' : left = [] := hl
  subst hl'
  have hfin : ∀ k r, mget M1 k = some r ↔ mget M k = some r ∧ q (k, r) = false := fun k r => by
    rw [hM1]
    exact ⟨fun ⟨h1, h2⟩ => ⟨h1, h2.resolve_left (by simp)⟩, fun ⟨h1, h2⟩ => ⟨h1, .inr h2⟩⟩
  refine Gs.itrEnd (by repeat constructor) ?_
  refine Lq rfl (pu_extract rfl rfl) (Lnt (Gs.seq (Gs.cond_f rfl (Gs.exit (Gx (Gx (Gs.blk_hit (Gs.fin_n ?_))))))))
  exact Gs.fin0 Tryz.results97 _ (⟨M1, rfl, hfin, rfl⟩) (by repeat constructor)
 have hil := (List.getElem?_eq_some_iff.1 hp).1
 have hlt : (left.eraseIdx i).length < left.length := by rw [List.length_eraseIdx_of_lt hil]; omega
 have hpM := hsub p (List.mem_of_getElem? hp)
 have hpg : mget M p.1 = some p.2 := mget_of_mem hmn hpM
 have hne := erase_ne hn hp
 have hmem := erase_mem hp
 have hn2 : (mkeys (left.eraseIdx i)).Nodup := List.Nodup.sublist (List.Sublist.map _ (List.eraseIdx_sublist ..)) hn
 have hsub2 : ∀ x ∈ left.eraseIdx i, x ∈ M := fun x hx => hsub x ((List.eraseIdx_sublist ..).subset hx)
 refine Lq rfl (pu_extract rfl rfl) (Lnt (Gs.seq (Gs.cond_t rfl (Gs.skip (Gn (Gs.block (Gsr (Lr rfl (ac_entry rfl (by repeat constructor)) ?_))))))))
 refine Lq rfl (pu_extract rfl rfl) (Lq rfl (pu_extract rfl rfl) (La rfl (ac_alloc zv_35 rfl) ?_))
 rintro _ _ ⟨kb, rfl, rfl⟩
 refine La rfl (ac_alloc zv_50 rfl) ?_
 rintro _ _ ⟨vb, rfl, rfl⟩
 refine Lac0 rfl trivial (ac_st sz_35 rfl rfl (by repeat constructor) rfl rfl rfl rfl) ?_
 rintro _ _ rfl
 refine Lac0 rfl trivial (ac_st sz_50 rfl rfl (by repeat constructor) rfl rfl rfl rfl) ?_
 rintro _ _ rfl
 refine Lnt (Gsr (Lmv rfl rfl (Lr rfl (rd_lda ag_35 rfl (Rdc.cl 2 (by repeat constructor) rfl) rfl) ?_)))
 refine Lr rfl (rd_lda ag_50 rfl (Rdc.cl 5 (by repeat constructor) rfl) rfl) ?_
 refine La rfl (as_callV rfl (hg p hpM) (by repeat constructor) (by repeat constructor)) ?_
 rintro _ _ ⟨_, ⟨rfl, rfl⟩, rfl⟩
 refine Lnt (Gs.cond rfl (fun hc1 => ?_) (fun hc1 => ?_))
 ·
  have hM2 : ∀ k r, mget (mdel M1 p.1) k = some r ↔ mget M k = some r ∧ ((k, r) ∈ left.eraseIdx i ∨ q (k, r) = false) := fun k r => by
    rw [mget_del hn1]
    by_cases e : k = p.1
    · rw [if_pos e]
      refine ⟨fun h => (by cases h), fun ⟨h1, h2⟩ => ?_⟩
      rw [e, hpg] at h1
      cases h1
      rcases h2 with h2 | h2
      · exact (hne _ h2 e).elim
      · rw [show ((k, p.2) : Key × Rec) = p by rw [e], hc1] at h2; cases h2
    · rw [if_neg e, hM1, hmem]
      constructor
      · rintro ⟨h1, (h2 | h2) | h2⟩
        · exact (e (congrArg Prod.fst h2)).elim
        · exact ⟨h1, .inl h2⟩
        · exact ⟨h1, .inr h2⟩
      · rintro ⟨h1, h2 | h2⟩
        · exact ⟨h1, .inl (.inr h2)⟩
        · exact ⟨h1, .inr h2⟩
  refine Gs.reg (Lmv rfl rfl (Lr rfl (rd_lda ag_35 rfl (Rdc.cl 2 (by repeat constructor) rfl) rfl) ?_))
  refine Lac0 rfl trivial (ac_delI (encv := recV) (p := p) Tryz.underlying110 kt_35 rfl rfl rfl (by repeat constructor)) ?_
  rintro _ _ rfl
  refine Lnil (Gs.blk_n (Gn ?_))
  first | exact Ag (mdel M1 p.1, left.eraseIdx i, none) ⟨hn2, hsub2, hM2⟩ hlt | exact Ag (M1, left.eraseIdx i, some p) ⟨hn2, hsub2, hM2⟩ hlt
 have hM2 : ∀ k r, mget M1 k = some r ↔ mget M k = some r ∧ ((k, r) ∈ left.eraseIdx i ∨ q (k, r) = false) := fun k r => by
   rw [hM1, hmem]
   constructor
   · rintro ⟨h1, (h2 | h2) | h2⟩
     · exact ⟨h1, .inr (by rw [h2]; exact hc1)⟩
     · exact ⟨h1, .inl h2⟩
     · exact ⟨h1, .inr h2⟩
   · rintro ⟨h1, h2 | h2⟩
     · exact ⟨h1, .inl (.inr h2)⟩
     · exact ⟨h1, .inr h2⟩
 refine Gs.skip (Gs.blk_n (Gn ?_))
 first | exact Ag (mdel M1 p.1, left.eraseIdx i, none) ⟨hn2, hsub2, hM2⟩ hlt | exact Ag (M1, left.eraseIdx i, some p) ⟨hn2, hsub2, hM2⟩ hlt
abbrev raiF (qb b : Nat) (va wa : Option Addr) (vc wc m : Nat) (V W : List Int) : HProp := two (cl qb 67 [ptr b]) (two (cl b 112 (stCells va wa vc wc m V W)) (sl 3 1 intC wa wc W))
theorem raiC_spec {qb b : Nat} {va wa : Option Addr} {vc wc m : Nat} {V W : List Int} (k : Key) (r : Rec) (h0 : 0 ≤ k.o) (h1 : k.o < (W.length : Int)) :
   Ct Tryz.prog 98 ([] ++ [keyV k, recV r] ++ [ptr qb]) [raiF qb b va wa vc wc m V W] (fun v hs => v = .bool (decide (k.q ≤ at0 W k.o.toNat)) ∧ hs = [raiF qb b va wa vc wc m V W]) := by
 refine Cti Tryz.func98 (by kernel_rfl) 17 Tryz.ntmps98 rfl rfl fun w0 R => ?_
 refine Gs.openTwo (A := cl qb 67 [ptr b]) (B := two (cl b 112 (stCells va wa vc wc m V W)) (sl 3 1 intC wa wc W)) (by repeat constructor) ?_
 refine Gs.openTwo (A := cl b 112 (stCells va wa vc wc m V W)) (B := sl 3 1 intC wa wc W) (by repeat constructor) ?_
 refine Gs.slAddr (xs := W) (SlH.own (E := 3) (enc := intC) (a := wa) (c := wc) (by repeat constructor)) fun wb wo hwa => ?_
 have hoi : k.o.toNat < W.length := by omega
 obtain rfl := hwa (by intro e; rw [e] at hoi; simp at hoi)
 have gW := at0_get hoi
 refine Gsr (La rfl (ac_box rfl rfl) ?_)
 rintro _ _ ⟨kb, rfl, rfl⟩
 refine La rfl (ac_box rfl rfl) ?_
 rintro _ _ ⟨vb, rfl, rfl⟩
 refine Las rfl rfl (Lnt (Gs.seq (Gs.regD mixed (by kernel_rfl) (Rq 0 rfl (by kernel_rfl) (pu_fa fa_35_1 rfl) (Rr 1 rfl (by kernel_rfl) (rd_ld na_3 rfl (Rdc.cl1 (by repeat constructor) rfl)) ?_)))))
 refine Rr 2 rfl (by kernel_rfl) (rd_ld na_67 rfl (Rdc.cl1 (by repeat constructor) rfl)) ?_
 refine Rq 3 rfl (by kernel_rfl) (by first | exact pu_nil rfl | exact pu_nilF rfl) ?_
 refine Rq 4 rfl (by kernel_rfl) (pu_fa fa_112_1 rfl) (Rr 5 rfl (by kernel_rfl) (rd_ld na_30 rfl (Rdc.cl1 (by repeat constructor) rfl)) ?_)
 refine Rq 6 rfl (by kernel_rfl) (pu_fa fa_35_0 rfl) (Rr 7 rfl (by kernel_rfl) (rd_ld na_3 rfl (Rdc.cl1 (by repeat constructor) rfl)) ?_)
 refine Rq 8 rfl (by kernel_rfl) (pu_ia se_30 rfl rfl (by omega) (by omega)) (Rr 9 rfl (by kernel_rfl) (rd_ld na_3 rfl (Rdc.el0 (SlH.own (by repeat constructor)) gW rfl rfl)) ?_)
 refine Rq 10 rfl (by kernel_rfl) (pu_le rfl rfl) (Rq 11 rfl (by kernel_rfl) (pu_assign rfl) (Rg.end (by kernel_rfl) (Gn (Gs.ret (Gs.takes (As := [cl b 112 (stCells va (some ⟨wb, wo, none⟩) vc wc m V W), sl 3 1 intC (some ⟨wb, wo, none⟩) wc W]) (by repeat constructor) (Gs.toTwo ?_))))))
 refine Gs.takes (As := [cl qb 67 [ptr b], two (cl b 112 (stCells va (some ⟨wb, wo, none⟩) vc wc m V W)) (sl 3 1 intC (some ⟨wb, wo, none⟩) wc W)]) (by repeat constructor) (Gs.toTwo ?_)
 exact Gs.fin1 Tryz.results98 rfl _ (⟨rfl, rfl⟩) (by repeat constructor)
theorem raise_spec {S : HProp} {n : Nat} (b : Nat) (s : StM) (h : OkM n s) (h1 : 1 ≤ n) (h8 : n ≤ 8) {wa : Option Addr} {wc : Nat} {w : List Int} (hS : Srd S 1 intC wa w) :
   Ct Tryz.prog 58 [ptr b, .slice wa w.length wc] [stA b s.v s.w s.rs, S] (fun v hs => (∃ e, v = int e) ∧ hs = [stA b (raiM s w).v (raiM s w).w (raiM s w).rs, S]) := by
 have hv := StOk.v h
 have hw := StOk.w h
 have hrec := fun r (hr : r ∈ s.rs) => OkM.rec h (r := r) hr
 obtain ⟨V, W, rs⟩ := s
 dsimp only at hv hw hrec ⊢
 refine Cti Tryz.func58 (by kernel_rfl) 57 Tryz.ntmps58 rfl rfl fun w0 R => ?_
 refine Gs.st fun q hq => ?_
 obtain ⟨qva, qvc, qwa, qwc, qm, qM⟩ := q
 dsimp only at hq ⊢
 refine Gs.mpNodup (enck := keyV) (encv := recV) (b := qm) (m := qM) (by repeat constructor) fun hmn => ?_
 have hpo0 : ∀ p ∈ qM, 0 ≤ p.1.o ∧ p.1.o < (W.length : Int) := fun p hp => by
   obtain ⟨h1, h2⟩ := (hq p.1 p.2).1 (mget_of_mem hmn hp)
   obtain ⟨o, h3, h4, -⟩ := hrec p.2 h1
   have e : p.1.o = p.2.o := by rw [← h2]; rfl
   omega
 have hrecM : ∀ (W' : List Int) (M' : List (Key × Rec)), (∀ k r, mget M' k = some r ↔ mget qM k = some r ∧ decide (k.q ≤ at0 W' k.o.toNat) = false) → RecM (leftR W' rs) M' := fun W' M' hM' k r => by
   rw [hM', hq]
   unfold leftR
   rw [List.mem_filter, decide_eq_false_iff_not, decide_eq_true_eq]
   constructor
   · rintro ⟨⟨h1, h2⟩, h3⟩
     refine ⟨⟨h1, ?_⟩, h2⟩
     rw [← h2] at h3
     have e1 : r.key.q = r.q := rfl
     have e2 : r.key.o = r.o := rfl
     rw [e1, e2] at h3; omega
   · rintro ⟨⟨h1, h2⟩, h3⟩
     refine ⟨⟨h1, h3⟩, ?_⟩
     rw [← h3]
     show ¬ (r.q ≤ at0 W' r.o.toNat); omega
 refine Gsr (La rfl (ac_box rfl rfl) ?_)
 rintro _ _ ⟨qb, rfl, rfl⟩
 refine Las rfl rfl (Lnt (Gs.seq (Gsr (Lr rfl (rd_ld na_67 rfl (Rdc.cl1 (by repeat constructor) rfl)) ?_))))
 refine Lq rfl (pu_eqN Tryz.underlying67 rfl rfl) (Lnt (Gs.cond_ff rfl rfl (Gs.skip (Gn (Gs.seq (Gsr (Lmv rfl rfl (Lr rfl (rd_ld na_67 rfl (Rdc.cl1 (by repeat constructor) rfl)) ?_))))))))
 refine Lq rfl (by first | exact pu_nil rfl | exact pu_nilF rfl) ?_
 refine Lq rfl (pu_fa fa_112_0 rfl) (Lr rfl (rd_ld na_30 rfl (Rdc.cl1 (by repeat constructor) rfl)) ?_)
 refine Lq rfl (pu_len Tryz.underlying30 rfl) (La rfl (asC (vecMay_spec hS (V.length : Int))) ?_)
 rintro _ _ ⟨_, ⟨rfl, rfl⟩, rfl⟩
 refine Lq rfl (pu_not rfl) (Lnt (Gs.cond rfl (fun hc1 => ?_) (fun hc1 => ?_)))
 ·
  have hst : raiM ⟨V, W, rs⟩ w = ⟨V, W, rs⟩ := by unfold raiM; rw [if_neg (by rw [not_t hc1]; decide)]
  refine Gsr (Las rfl rfl (Lnt (Gs.ret (Gr (Gs.takes (As := [cl b 112 (stCells qva qwa qvc qwc qm V W), sl 3 1 intC qva qvc V, sl 3 1 intC qwa qwc W, mp keyV recV qm qM]) (by repeat constructor) (Gs.stc ⟨qva, qvc, qwa, qwc, qm, qM⟩ hq ?_))))))
  exact Gs.fin1 Tryz.results58 rfl _ (⟨⟨_, rfl⟩, by rw [hst]⟩) (by repeat constructor)
 have hb : vecB w (V.length : Int) = true := not_f hc1
 have hst : raiM ⟨V, W, rs⟩ w = ⟨joinV V (joinV W w), joinV W w, leftR (joinV W w) rs⟩ := by unfold raiM; rw [if_pos hb]
 obtain ⟨-, -, hwl, -⟩ := vecB_iff.1 hb
 have hjl : (joinV W w).length = W.length := joinV_len (by omega)
 have hjl2 : (joinV V (joinV W w)).length = V.length := joinV_len (by omega)
 have hpo : ∀ p ∈ qM, 0 ≤ p.1.o ∧ p.1.o < ((joinV W w).length : Int) := fun p hp => by have := hpo0 p hp; omega
 refine Gs.skip (Gn (Gs.seq (Gs.regD mixed (by kernel_rfl) (Rr 0 rfl (by kernel_rfl) (rd_ld na_67 rfl (Rdc.cl1 (by repeat constructor) rfl)) ?_))))
 refine Rr 1 rfl (by kernel_rfl) (rd_ld na_67 rfl (Rdc.cl1 (by repeat constructor) rfl)) ?_
 refine Rq 2 rfl (by kernel_rfl) (by first | exact pu_nil rfl | exact pu_nilF rfl) ?_
 refine Rq 3 rfl (by kernel_rfl) (pu_fa fa_112_1 rfl) (Rr 4 rfl (by kernel_rfl) (rd_ld na_30 rfl (Rdc.cl1 (by repeat constructor) rfl)) ?_)
 refine Rmv 5 rfl (by kernel_rfl) rfl (Rg.one (by kernel_rfl) (Stp.acK 6 rfl rfl (by kernel_rfl) trivial (ac_lit encC_30 ([(⟨qwa, W, qwc⟩ : SlV Int), ⟨wa, w, wc⟩]) et_207 ek_30 rfl (by repeat constructor) rfl rfl (by decide)) (by rintro _ _ ⟨a22, rfl, rfl⟩ w s; first | exact s.drop | exact s | exact Ent.sat (by repeat constructor) s) ?_))
 rintro _ _ ⟨a22, rfl, rfl⟩
 refine Rg.one (by kernel_rfl) (Stp.acR 7 [0] rfl rfl (by kernel_rfl) trivial (asC (join_spec (S := sl 30 1 slC (some ⟨a22, 0, none⟩) 2 [(⟨qwa, W, qwc⟩ : SlV Int), ⟨wa, w, wc⟩]) (U := sl 3 1 intC qwa qwc W) (V := S) (p := ⟨qwa, W, qwc⟩) (q := ⟨wa, w, wc⟩) Srd.own Srd.own hS (by show W.length = w.length; omega) (by show W.length ≤ 1000; omega))) (by rintro _ _ ⟨_, ⟨ja, jc, rfl, rfl⟩, rfl⟩; exact (Reads.cons rfl rfl rfl trivial rfl (rd_ld na_67 rfl (Rdc.cl1 (by repeat constructor) rfl)) Reads.nil)) ?_)
 rintro _ _ ⟨_, ⟨ja, jc, rfl, rfl⟩, rfl⟩
 refine Rq 8 rfl (by kernel_rfl) (by first | exact pu_nil rfl | exact pu_nilF rfl) ?_
 refine Rq 9 rfl (by kernel_rfl) (pu_fa fa_112_1 rfl) (Rg.one (by kernel_rfl) (Stp.ac0 10 rfl rfl (by kernel_rfl) trivial (ac_st sz_30 rfl rfl (by repeat constructor) rfl rfl rfl rfl)  ?_))
 rintro _ _ rfl
 refine Rg.end (by kernel_rfl) (Gn (Gs.seq (Gs.regD mixed (by kernel_rfl) (Rr 0 rfl (by kernel_rfl) (rd_ld na_67 rfl (Rdc.cl1 (by repeat constructor) rfl)) ?_))))
 refine Rr 1 rfl (by kernel_rfl) (rd_ld na_67 rfl (Rdc.cl1 (by repeat constructor) rfl)) ?_
 refine Rq 2 rfl (by kernel_rfl) (by first | exact pu_nil rfl | exact pu_nilF rfl) ?_
 refine Rq 3 rfl (by kernel_rfl) (pu_fa fa_112_0 rfl) (Rr 4 rfl (by kernel_rfl) (rd_ld na_30 rfl (Rdc.cl1 (by repeat constructor) rfl)) ?_)
 refine Rr 5 rfl (by kernel_rfl) (rd_ld na_67 rfl (Rdc.cl1 (by repeat constructor) rfl)) ?_
 refine Rq 6 rfl (by kernel_rfl) (by first | exact pu_nil rfl | exact pu_nilF rfl) ?_
 refine Rq 7 rfl (by kernel_rfl) (pu_fa fa_112_1 rfl) (Rr 8 rfl (by kernel_rfl) (rd_ld na_30 rfl (Rdc.cl1 (by repeat constructor) rfl)) ?_)
 refine Rg.one (by kernel_rfl) (Stp.acK 9 rfl rfl (by kernel_rfl) trivial (ac_lit encC_30 ([(⟨qva, V, qvc⟩ : SlV Int), ⟨ja, joinV W w, jc⟩]) et_207 ek_30 rfl (by repeat constructor) rfl rfl (by decide)) (by rintro _ _ ⟨a35, rfl, rfl⟩ w s; first | exact s.drop | exact s | exact Ent.sat (by repeat constructor) s) ?_)
 rintro _ _ ⟨a35, rfl, rfl⟩
 refine Rg.one (by kernel_rfl) (Stp.acR 10 [0] rfl rfl (by kernel_rfl) trivial (asC (join_spec (S := sl 30 1 slC (some ⟨a35, 0, none⟩) 2 [(⟨qva, V, qvc⟩ : SlV Int), ⟨ja, joinV W w, jc⟩]) (U := sl 3 1 intC qva qvc V) (V := sl 3 1 intC ja jc (joinV W w)) (p := ⟨qva, V, qvc⟩) (q := ⟨ja, joinV W w, jc⟩) Srd.own Srd.own Srd.own (by show V.length = (joinV W w).length; omega) (by show V.length ≤ 1000; omega))) (by rintro _ _ ⟨_, ⟨ka, kc, rfl, rfl⟩, rfl⟩; exact (Reads.cons rfl rfl rfl trivial rfl (rd_ld na_67 rfl (Rdc.cl1 (by repeat constructor) rfl)) Reads.nil)) ?_)
 rintro _ _ ⟨_, ⟨ka, kc, rfl, rfl⟩, rfl⟩
 refine Rq 11 rfl (by kernel_rfl) (by first | exact pu_nil rfl | exact pu_nilF rfl) ?_
 refine Rq 12 rfl (by kernel_rfl) (pu_fa fa_112_0 rfl) (Rg.one (by kernel_rfl) (Stp.ac0 13 rfl rfl (by kernel_rfl) trivial (ac_st sz_30 rfl rfl (by repeat constructor) rfl rfl rfl rfl)  ?_))
 rintro _ _ rfl
 refine Rg.end (by kernel_rfl) (Gn (Gsr (Lr rfl (rd_ld na_67 rfl (Rdc.cl1 (by repeat constructor) rfl)) ?_)))
 refine Lq rfl (by first | exact pu_nil rfl | exact pu_nilF rfl) ?_
 refine Lq rfl (pu_fa fa_112_2 rfl) (Lr rfl (rd_ld na_110 rfl (Rdc.cl1 (by repeat constructor) rfl)) ?_)
 refine Lr rfl (rd_lenM Tryz.underlying110 rfl (by repeat constructor)) ?_
 refine Las rfl rfl (Lnt (Gsr (Lr rfl (rd_ld na_67 rfl (Rdc.cl1 (by repeat constructor) rfl)) ?_)))
 refine Lq rfl (by first | exact pu_nil rfl | exact pu_nilF rfl) ?_
 refine Lq rfl (pu_fa fa_112_2 rfl) (Lr rfl (rd_ld na_110 rfl (Rdc.cl1 (by repeat constructor) rfl)) ?_)
 refine Lq rfl (pu_func (by repeat constructor) (by repeat constructor)) ?_
 refine Gs.takes (As := [cl b 112 (stCells ka ja kc jc qm (joinV V (joinV W w)) (joinV W w)), sl 3 1 intC ja jc (joinV W w)]) (by repeat constructor) (Gs.toTwo ?_)
 refine Gs.takes (As := [cl qb 67 [ptr b], two (cl b 112 (stCells ka ja kc jc qm (joinV V (joinV W w)) (joinV W w))) (sl 3 1 intC ja jc (joinV W w))]) (by repeat constructor) (Gs.toTwo ?_)
 refine La rfl (asC (delf_spec (F := raiF qb b ka ja kc jc qm (joinV V (joinV W w)) (joinV W w)) (q := fun p => decide (p.1.q ≤ at0 (joinV W w) p.1.o.toNat)) (b := qm) (M := qM) (fun p hp => raiC_spec p.1 p.2 (hpo p hp).1 (hpo p hp).2))) ?_
 rintro _ _ ⟨_, ⟨M', rfl, hM', rfl⟩, rfl⟩
 refine Gs.openTwo (A := cl qb 67 [ptr b]) (B := two (cl b 112 (stCells ka ja kc jc qm (joinV V (joinV W w)) (joinV W w))) (sl 3 1 intC ja jc (joinV W w))) (by repeat constructor) ?_
 refine Gs.openTwo (A := cl b 112 (stCells ka ja kc jc qm (joinV V (joinV W w)) (joinV W w))) (B := sl 3 1 intC ja jc (joinV W w)) (by repeat constructor) ?_
 refine Lnt (Gsr (Lmv rfl rfl (Lr rfl (rd_ld na_67 rfl (Rdc.cl1 (by repeat constructor) rfl)) ?_)))
 refine Lq rfl (by first | exact pu_nil rfl | exact pu_nilF rfl) ?_
 refine Lq rfl (pu_fa fa_112_2 rfl) (Lr rfl (rd_ld na_110 rfl (Rdc.cl1 (by repeat constructor) rfl)) ?_)
 refine Lr rfl (rd_lenM Tryz.underlying110 rfl (by repeat constructor)) ?_
 refine Lq rfl (by first | exact pu_subI rfl rfl rfl (by omega) (by omega) | exact pu_sub rfl rfl) ?_
 refine Las rfl rfl (Lnt (Gs.ret (Gs.takes (As := [cl b 112 (stCells ka ja kc jc qm (joinV V (joinV W w)) (joinV W w)), sl 3 1 intC ka kc (joinV V (joinV W w)), sl 3 1 intC ja jc (joinV W w), mp keyV recV qm M']) (by repeat constructor) (Gs.stc (V := joinV V (joinV W w)) (W := joinV W w) (rs := leftR (joinV W w) rs) ⟨ka, kc, ja, jc, qm, M'⟩ (hrecM _ M' hM') ?_))))
 exact Gs.fin1 Tryz.results58 rfl _ (⟨⟨_, rfl⟩, by rw [hst]⟩) (by repeat constructor)
end Go.Proofs.YtflfhpokmidnmaaGreatDoor
namespace Go.Proofs.YtflfhpokmidnmaaGreatDoor
open Go Go.Sl Go.Gv Go.Kv
set_option maxRecDepth 100000
def ents (L : List Rec) : List (Key × Rec) := L.map fun r => (r.key, r)
def look (L : List Rec) (k : Key) : Option Rec := L.find? fun r => r.key = k
def putE (most : Int) (L : List Rec) (r : Rec) : Int := if recB r then if (look L r.key).isSome then 6 else if most ≤ L.length then 9 else 0 else 2
def putL (most : Int) (L : List Rec) (r : Rec) : List Rec := if putE most L r = 0 then L ++ [r] else L
def delL (L : List Rec) (k : Key) : List Rec := L.filter fun r => r.key ≠ k
theorem mget_ents (L : List Rec) (k : Key) : mget (ents L) k = look L k := by
 induction L with
 | nil => rfl
 | cons r L ih =>
   simp only [ents, List.map_cons, mget, look, List.find?_cons]
   by_cases h : k = r.key
   · simp [h]
   · have h' : ¬ r.key = k := fun e => h e.symm
     simp only [h, h', if_false, decide_false]; exact ih
theorem mput_ents (L : List Rec) (r : Rec) (h : (look L r.key).isSome = false) : mput (ents L) r.key r = ents (L ++ [r]) := by
 induction L with
 | nil => rfl
 | cons x L ih =>
   simp only [look, List.find?_cons] at h
   simp only [ents, List.map_cons, mput, List.cons_append]
   by_cases hx : x.key = r.key
   · simp [hx] at h
   · have hx' : ¬ r.key = x.key := fun e => hx e.symm
     simp only [hx, decide_false] at h
     simp only [hx', if_false]
     have := ih (by simpa [look] using h)
     simp only [ents] at this; rw [this]
theorem mkeys_ents (L : List Rec) : mkeys (ents L) = L.map Rec.key := by simp [mkeys, ents, Function.comp_def]
theorem mdel_ents (L : List Rec) (k : Key) (hn : (mkeys (ents L)).Nodup) : mdel (ents L) k = ents (delL L k) := by
 induction L with
 | nil => rfl
 | cons x L ih =>
   simp only [mkeys_ents, List.map_cons, List.nodup_cons] at hn
   simp only [ents, List.map_cons, mdel, delL, List.filter_cons]
   by_cases hx : k = x.key
   · subst hx
     have : L.filter (fun r => !decide (r.key = x.key)) = L := List.filter_eq_self.2 fun r hr => by
       have : r.key ≠ x.key := fun e => hn.1 (e ▸ List.mem_map_of_mem hr)
       simpa using this
     simp [this]
   · have hx' : ¬ x.key = k := fun e => hx e.symm
     have := ih (by rw [mkeys_ents]; exact hn.2)
     simp only [ents, delL] at this
     simp [hx, hx', this]
theorem length_ents (L : List Rec) : (ents L).length = L.length := by simp [ents]
abbrev heldC (most : Int) (m : Nat) : List Value := [int most, .map (some m)]
theorem new_specH (most : Int) : Ct Tryz.prog 57 [int most] [] (fun v hs => ((most < 0 ∨ 12 < most) ∧ v = .pointer none ∧ hs = []) ∨
   (0 ≤ most ∧ most ≤ 12 ∧ ∃ b m, v = ptr b ∧ hs = [cl b 136 (heldC most m), mp keyV recV m (ents [])])) := by
 refine Cti Tryz.func57 (by kernel_rfl) 13 Tryz.ntmps57 rfl rfl fun w0 R => ?_
 refine Gsr (Las rfl rfl (Lnt (Gs.seq (Gsr (Lmv rfl rfl (Lq rfl (pu_lt rfl rfl) (LpuB rfl rfl trivial (pu_move rfl) (fun hg2 => ?_) (fun hg2 => ?_))))))))
 ·
  have hg2' := of_decide_eq_true hg2
  refine Lof rfl (Lof rfl (Lpk rfl rfl rfl (Lnt (Gs.cond_t rfl (Gsr (Las rfl rfl (Lnt (Gs.ret (Gr ?_)))))))))
  exact Gs.fin1 Tryz.results57 rfl _ (.inl ⟨by omega, rfl, rfl⟩) (by repeat constructor)
 have hg2' := of_decide_eq_false hg2
 refine Lpu rfl rfl ⟨_, rfl, rfl⟩ (pu_move rfl) (Lpu rfl rfl ⟨_, rfl, rfl⟩ (pu_gt rfl rfl) (Lpk rfl rfl rfl (Lnt (Gs.cond rfl (fun hc => ?_) (fun hc => ?_)))))
 ·
  have hc' := of_decide_eq_true hc
  refine Gsr (Las rfl rfl (Lnt (Gs.ret (Gr ?_))))
  exact Gs.fin1 Tryz.results57 rfl _ (.inl ⟨by omega, rfl, rfl⟩) (by repeat constructor)
 have hc' := of_decide_eq_false hc
 refine Gs.skip (Gn (Gsr (Lmv rfl rfl (La rfl (ac_mkmap enck_35 encv_50) ?_))))
 rintro _ _ ⟨m, rfl, rfl⟩
 refine Lq rfl (pu_build bd_136 (by repeat constructor) rfl) ?_
 refine La rfl (ac_box rfl rfl) ?_
 rintro _ _ ⟨b, rfl, rfl⟩
 refine Las rfl rfl (Lnt (Gs.ret ?_))
 exact Gs.fin1 Tryz.results57 rfl _ (.inr ⟨by omega, by omega, b, m, rfl, rfl⟩) (by repeat constructor)
theorem len_spec (b m : Nat) (most : Int) (L : List Rec) : Ct Tryz.prog 110 [ptr b] [cl b 136 (heldC most m), mp keyV recV m (ents L)]
   (fun v hs => v = int L.length ∧ hs = [cl b 136 (heldC most m), mp keyV recV m (ents L)]) := by
 refine Cti Tryz.func110 (by kernel_rfl) 10 Tryz.ntmps110 rfl rfl fun w0 R => ?_
 refine Gsr (Las rfl rfl (Lnt (Gs.seq (Gsr (Lmv rfl rfl (Lq rfl (pu_eqN Tryz.underlying71 rfl rfl) (Lnt (Gs.cond_f rfl (Gs.skip (Gn (Gsr ?_)))))))))))
 refine Lmv rfl rfl (Lq rfl (by first | exact pu_nil rfl | exact pu_nilF rfl) ?_)
 refine Lq rfl (pu_fa fa_136_1 rfl) (Lr rfl (rd_ld na_110 rfl (Rdc.cl1 (by repeat constructor) rfl)) ?_)
 refine Lr rfl (rd_lenM Tryz.underlying110 rfl (by repeat constructor)) ?_
 refine Las rfl rfl (Lnt (Gs.ret ?_))
 exact Gs.fin1 Tryz.results110 rfl _ (⟨by rw [length_ents], rfl⟩) (by repeat constructor)
theorem put_specH {h0 : Hp} (T : Tabs h0) (b m : Nat) (most : Int) (L : List Rec) (r : Rec) :
   Ct Tryz.prog 81 [ptr b, recV r] [ro h0, cl b 136 (heldC most m), mp keyV recV m (ents L)]
     (fun v hs => v = int (putE most L r) ∧ hs = [ro h0, cl b 136 (heldC most m), mp keyV recV m (ents (putL most L r))]) := by
 refine Cti Tryz.func81 (by kernel_rfl) 43 Tryz.ntmps81 rfl rfl fun w0 R => ?_
 refine Gsr (La rfl (ac_box rfl rfl) ?_)
 rintro _ _ ⟨b3, rfl, rfl⟩
 refine Las rfl rfl (Lnt (Gs.seq (Gsr (Lmv rfl rfl (Lq rfl (pu_eqN Tryz.underlying71 rfl rfl) (Lnt (Gs.cond_f rfl (Gs.skip (Gn (Gs.seq (Gs.regD mixed (by kernel_rfl) ?_)))))))))))
 refine Rmv 0 rfl (by kernel_rfl) rfl (Rq 1 rfl (by kernel_rfl) (by first | exact pu_nil rfl | exact pu_nilF rfl) ?_)
 refine Rq 2 rfl (by kernel_rfl) (pu_fa fa_136_1 rfl) (Rr 3 rfl (by kernel_rfl) (rd_ld na_110 rfl (Rdc.cl1 (by repeat constructor) rfl)) ?_)
 refine Rq 4 rfl (by kernel_rfl) (pu_fa fa_50_0 rfl) (Rr 5 rfl (by kernel_rfl) (rd_lda ag_35 rfl (Rdc.cl 2 (by repeat constructor) rfl) rfl) ?_)
 refine Rr 6 rfl (by kernel_rfl) (rd_look2 (k := r.key) Tryz.underlying110 kt_35 zvk_50 rfl rfl (by repeat constructor)) ?_
 rw [mget_ents]
 refine Rmv 7 rfl (by kernel_rfl) rfl (Rq 8 rfl (by kernel_rfl) (pu_extract rfl rfl) (Rq 9 rfl (by kernel_rfl) (pu_extract rfl rfl) (Rg.one (by kernel_rfl) (Stp.acK 10 rfl rfl (by kernel_rfl) trivial (ac_alloc zv_50 rfl) (by rintro _ _ ⟨b5, rfl, rfl⟩ w s; first | exact s.drop | exact s | exact Ent.sat (by repeat constructor) s) ?_))))
 rintro _ _ ⟨b5, rfl, rfl⟩
 refine Rg.one (by kernel_rfl) (Stp.ac0 11 rfl rfl (by kernel_rfl) trivial (ac_st sz_50 rfl rfl (by repeat constructor) rfl rfl rfl rfl)  ?_)
 rintro _ _ rfl
 refine Rq 12 rfl (by kernel_rfl) (pu_assign rfl) (Rg.end (by kernel_rfl) (Gn (Gs.seq (Gs.block (Gsr (Lr rfl (rd_lda ag_50 rfl (Rdc.cl 5 (by repeat constructor) rfl) rfl) ?_))))))
 refine La rfl (asC (recMay_spec T r)) ?_
 rintro _ _ ⟨_, ⟨rfl, rfl⟩, rfl⟩
 refine Lq rfl (pu_not rfl) (Las rfl rfl (Lnt (Gs.cond rfl (fun hc1 => ?_) (fun hc1 => ?_))))
 ·
  refine Gsr (Las rfl rfl (Lnt (Gs.ret (Gs.blk_r (Gr ?_)))))
  exact Gs.fin1 Tryz.results81 rfl _ (⟨by simp [putE]; simp at hc1; simp [hc1], by simp at hc1; simp [putL, putE, hc1]; rfl⟩) (by repeat constructor)
 have hc1' : recB r = true := by simpa using hc1
 refine Gsr (Lmv rfl rfl (Las rfl rfl (Lnt (Gs.cond rfl (fun hc2 => ?_) (fun hc2 => ?_)))))
 ·
  refine Gsr (Las rfl rfl (Lnt (Gs.ret (Gs.blk_r (Gr ?_)))))
  exact Gs.fin1 Tryz.results81 rfl _ (⟨by simp [putE, hc1', hc2], by simp [putL, putE, hc1', hc2]; rfl⟩) (by repeat constructor)
 have hc2' : (look L r.key).isSome = false := by simpa using hc2
 refine Gs.seq (Gs.regD mixed (by kernel_rfl) (Rmv 0 rfl (by kernel_rfl) rfl (Rq 1 rfl (by kernel_rfl) (by first | exact pu_nil rfl | exact pu_nilF rfl) ?_)))
 refine Rq 2 rfl (by kernel_rfl) (pu_fa fa_136_1 rfl) (Rr 3 rfl (by kernel_rfl) (rd_ld na_110 rfl (Rdc.cl1 (by repeat constructor) rfl)) ?_)
 refine Rr 4 rfl (by kernel_rfl) (rd_lenM Tryz.underlying110 rfl (by repeat constructor)) ?_
 refine Rmv 5 rfl (by kernel_rfl) rfl (Rq 6 rfl (by kernel_rfl) (by first | exact pu_nil rfl | exact pu_nilF rfl) ?_)
 refine Rq 7 rfl (by kernel_rfl) (pu_fa fa_136_0 rfl) (Rr 8 rfl (by kernel_rfl) (rd_ld na_3 rfl (Rdc.cl1 (by repeat constructor) rfl)) ?_)
 refine Rq 9 rfl (by kernel_rfl) (pu_ge rfl rfl) (Rq 10 rfl (by kernel_rfl) (pu_assign rfl) (Rg.end (by kernel_rfl) (Gn (Gs.cond rfl (fun hc3 => ?_) (fun hc3 => ?_)))))
 ·
  have hc3' : most ≤ L.length := by simpa [length_ents] using hc3
  refine Gsr (Las rfl rfl (Lnt (Gs.ret (Gs.blk_r (Gr ?_)))))
  exact Gs.fin1 Tryz.results81 rfl _ (⟨by simp [putE, hc1', hc2', hc3'], by simp [putL, putE, hc1', hc2', hc3']; rfl⟩) (by repeat constructor)
 have hc3' : ¬ most ≤ L.length := by simpa [length_ents] using hc3
 refine Gs.skip (Gs.blk_n (Gn (Gs.seq (Gs.regD mixed (by kernel_rfl) (Rmv 0 rfl (by kernel_rfl) rfl (Rq 1 rfl (by kernel_rfl) (by first | exact pu_nil rfl | exact pu_nilF rfl) ?_))))))
 refine Rq 2 rfl (by kernel_rfl) (pu_fa fa_136_1 rfl) (Rr 3 rfl (by kernel_rfl) (rd_ld na_110 rfl (Rdc.cl1 (by repeat constructor) rfl)) ?_)
 refine Rq 4 rfl (by kernel_rfl) (pu_fa fa_50_0 rfl) (Rr 5 rfl (by kernel_rfl) (rd_lda ag_35 rfl (Rdc.cl 2 (by repeat constructor) rfl) rfl) ?_)
 refine Rr 6 rfl (by kernel_rfl) (rd_lda ag_50 rfl (Rdc.cl 5 (by repeat constructor) rfl) rfl) ?_
 refine Rg.one (by kernel_rfl) (Stp.ac0 7 rfl rfl (by kernel_rfl) trivial (ac_put (k := r.key) (v := r) (encv := encv_50) Tryz.underlying110 kt_35 rfl rfl rfl (by repeat constructor))  ?_)
 rintro _ _ rfl
 rw [mput_ents L r hc2']
 refine Rg.end (by kernel_rfl) (Gn (Gsr (Las rfl rfl (Lnt (Gs.ret ?_)))))
 exact Gs.fin1 Tryz.results81 rfl _ (⟨by simp [putE, hc1', hc2', hc3'], by simp [putL, putE, hc1', hc2', hc3']; rfl⟩) (by repeat constructor)
theorem next_specH (b m : Nat) (most : Int) (L : List Rec) (k : Key) :
   Ct Tryz.prog 111 [ptr b, keyV k] [cl b 136 (heldC most m), mp keyV recV m (ents L)]
     (fun v hs => v = .tuple #[recV ((look L k).getD Rec.zero), .bool (look L k).isSome] ∧ hs = [cl b 136 (heldC most m), mp keyV recV m (ents (delL L k))]) := by
 refine Cti Tryz.func111 (by kernel_rfl) 27 Tryz.ntmps111 rfl rfl fun w0 R => ?_
 refine Gs.mpNodup (by repeat constructor) fun hnd => ?_
 refine Gsr (La rfl (ac_box rfl rfl) ?_)
 rintro _ _ ⟨b3, rfl, rfl⟩
 refine La rfl (ac_alloc zv_50 rfl) ?_
 rintro _ _ ⟨b4, rfl, rfl⟩
 refine Las rfl rfl (Lnt (Gs.seq (Gsr (Lmv rfl rfl (Lq rfl (pu_eqN Tryz.underlying71 rfl rfl) (Lnt (Gs.cond_f rfl (Gs.skip (Gn (Gs.seq (Gs.regD mixed (by kernel_rfl) ?_)))))))))))
 refine Rmv 0 rfl (by kernel_rfl) rfl (Rq 1 rfl (by kernel_rfl) (by first | exact pu_nil rfl | exact pu_nilF rfl) ?_)
 refine Rq 2 rfl (by kernel_rfl) (pu_fa fa_136_1 rfl) (Rr 3 rfl (by kernel_rfl) (rd_ld na_110 rfl (Rdc.cl1 (by repeat constructor) rfl)) ?_)
 refine Rr 4 rfl (by kernel_rfl) (rd_lda ag_35 rfl (Rdc.cl 2 (by repeat constructor) rfl) rfl) ?_
 refine Rr 5 rfl (by kernel_rfl) (rd_look2 (k := k) Tryz.underlying110 kt_35 zvk_50 rfl rfl (by repeat constructor)) ?_
 rw [mget_ents]
 refine Rmv 6 rfl (by kernel_rfl) rfl (Rq 7 rfl (by kernel_rfl) (pu_extract rfl rfl) (Rq 8 rfl (by kernel_rfl) (pu_extract rfl rfl) (Rg.one (by kernel_rfl) (Stp.acK 9 rfl rfl (by kernel_rfl) trivial (ac_alloc zv_50 rfl) (by rintro _ _ ⟨b6, rfl, rfl⟩ w s; first | exact s.drop | exact s | exact Ent.sat (by repeat constructor) s) ?_))))
 rintro _ _ ⟨b6, rfl, rfl⟩
 refine Rg.one (by kernel_rfl) (Stp.ac0 10 rfl rfl (by kernel_rfl) trivial (ac_st sz_50 rfl rfl (by repeat constructor) rfl rfl rfl rfl)  ?_)
 rintro _ _ rfl
 refine Rq 11 rfl (by kernel_rfl) (pu_assign rfl) (Rg.end (by kernel_rfl) (Gn (Gs.seq (Gs.regD mixed (by kernel_rfl) (Rmv 0 rfl (by kernel_rfl) rfl (Rq 1 rfl (by kernel_rfl) (by first | exact pu_nil rfl | exact pu_nilF rfl) ?_))))))
 refine Rq 2 rfl (by kernel_rfl) (pu_fa fa_136_1 rfl) (Rr 3 rfl (by kernel_rfl) (rd_ld na_110 rfl (Rdc.cl1 (by repeat constructor) rfl)) ?_)
 refine Rr 4 rfl (by kernel_rfl) (rd_lda ag_35 rfl (Rdc.cl 2 (by repeat constructor) rfl) rfl) ?_
 refine Rg.one (by kernel_rfl) (Stp.ac0 5 rfl rfl (by kernel_rfl) trivial (ac_del (k := k) (encv := encv_50) Tryz.underlying110 kt_35 rfl rfl rfl (by repeat constructor))  ?_)
 rintro _ _ rfl
 rw [mdel_ents L k hnd]
 refine Rg.end (by kernel_rfl) (Gn (Gsr (Lr rfl (rd_lda ag_50 rfl (Rdc.cl 5 (by repeat constructor) rfl) rfl) ?_)))
 refine Lmv rfl rfl (Lac0 rfl trivial (ac_st sz_50 rfl rfl (by repeat constructor) rfl rfl rfl rfl) ?_)
 rintro _ _ rfl
 refine Las rfl rfl (Lnt (Gs.ret ?_))
 exact Gs.finc2 Tryz.results111 ag_50 rfl (Rdc.cl 5 (by repeat constructor) rfl) rfl rfl _ (⟨rfl, rfl⟩) (by repeat constructor)
end Go.Proofs.YtflfhpokmidnmaaGreatDoor
namespace Go.Proofs.YtflfhpokmidnmaaGreatDoor
open Go Go.Sl Go.Gv Go.Kv
set_option maxRecDepth 100000
def YOk (P : Program) (l : Nat) (J : List Key → HProp) : Prop := ∀ (pre : List Key) (x : Key) (w0 w : World) (R : List HProp), pre.length < 1000 → Sat w0 w (J pre :: R) → ∃ f tmps assign body, (Instr.yield l #[keyV x]).run P w = .ok (.round l f tmps assign body) w ∧
 ∀ m, RoundIn Fence.wide m P l f tmps assign body w fun e w' => e = .returned (.bool true) ∧ Sat w0 w' (J (pre ++ [x]) :: R)
theorem erase_perm {α : Type} : ∀ {l : List α} {i : Nat} {x : α}, l[i]? = some x → List.Perm (x :: l.eraseIdx i) l
 | [], _, _, h => by simp at h
 | a :: l, 0, x, h => by simp at h; subst h; exact List.Perm.refl _
 | a :: l, i + 1, x, h => by
   have := erase_perm (l := l) (i := i) (x := x) (by simpa using h)
   exact (List.Perm.swap a x _).trans (this.cons a)
theorem Gs.yieldAt {l : Nat} {J : List Key → HProp} (hY : YOk Tryz.prog l J) {w0 : World} {n m k dd : Nat} {env : Env} {H : List HProp} {Q : Exit → Act → World → Prop} {ops : Array Oper} {rest : List Nat} {x y : Operand} {ts : Array TypeId} {ty : TypeId} {pos : String} {af : Array Edge} {pre : List Key} (z : Key)
   (hpl : pre.length < 1000) (ho : ops[k]? = some ⟨some dd, .call ⟨.value x, #[y], ts⟩, ty, pos, af, none⟩) (hdn : Nat.blt dd n = true) (hx : ev env x = some (.func (.yield l) #[] #[])) (hy : ev env y = some (keyV z))
   (g : Gs w0 n ((dd, .bool true) :: env) (J (pre ++ [z]) :: H) (wpOpsIn Fence.wide m Tryz.prog ops Q rest)) : Gs w0 n env (J pre :: H) (wpOpsIn Fence.wide m Tryz.prog ops Q (k :: rest)) := fun a w e t => by
 obtain ⟨f, tmps, assign, body, h1, h2⟩ := hY pre z w0 w H hpl t
 have hw : Region.wanted ⟨some dd, .call ⟨.value x, #[y], ts⟩, ty, pos, af, none⟩ (yielded ops a.tmps) = true := by simp [Region.wanted]
 have hr : (execOp a.eval ⟨some dd, .call ⟨.value x, #[y], ts⟩, ty, pos, af, none⟩).run Tryz.prog w = .ok (.round l f tmps assign body) w := by
   show (do let d ← resolve a.eval ⟨.value x, #[y], ts⟩ ty; invoke d.target d.args : Sem Next).run Tryz.prog w = _
   have hr1 : resolve a.eval ⟨.value x, #[y], ts⟩ ty = (pure ⟨.fn (.yield l) #[], #[keyV z]⟩ : Sem Deferred) := by
     simp only [resolve, e.eval hx, Deferred.ofValue]
     simp [e.eval hy]
   rw [hr1]
   simp only [Sem.run_bind, Sem.run_pure, Result.andThen_ok, invoke]
   exact h1
 simp only [wpOpsIn, ho, hw, if_true]
 unfold Oper.wpIn
 refine ⟨fun _ _ => trivial, ?_⟩
 rw [show Fence.wide.round = none from rfl, Oper.semAt_none, hr]
 refine ⟨(fun hs => by cases hs), (h2 (m - 1)).mono ?_⟩
 rintro e' w' ⟨rfl, t'⟩
 exact g _ _ (e.put (by simpa [Nat.blt_eq] using hdn) _) t'
theorem keysFn_spec (m : Nat) : Ct Tryz.prog 83 [.map (some m)] []
   (fun v hs => ∃ b, v = .func (.func 122) #[] #[.pointer (some ⟨b, 0, none⟩)] ∧ hs = [cl b 110 [.map (some m)]]) := by
 refine Cti Tryz.func83 (by kernel_rfl) 4 Tryz.ntmps83 rfl rfl fun w0 R => ?_
 refine Gsr (La rfl (ac_box rfl rfl) ?_)
 rintro _ _ ⟨b, rfl, rfl⟩
 refine Las rfl rfl (Lnt (Gsr (Lq rfl (pu_func (by repeat constructor) (by repeat constructor)) ?_)))
 refine Las rfl rfl (Lnt (Gs.ret ?_))
 exact Gs.fin1 Tryz.results83 rfl _ (⟨b, rfl, rfl⟩) (by repeat constructor)
theorem iter_spec {l : Nat} {J : List Key → HProp} (hY : YOk Tryz.prog l J) (b m : Nat) (es : List (Key × Rec)) (hes : es.length ≤ 1000) :
   Ct Tryz.prog 122 [.func (.yield l) #[] #[], .pointer (some ⟨b, 0, none⟩)] [J [], cl b 110 [.map (some m)], mp keyV recV m es]
     (fun _ hs => ∃ xs, List.Perm xs (mkeys es) ∧ hs = [J xs, cl b 110 [.map (some m)], mp keyV recV m es]) := by
 refine Cti Tryz.func122 (by kernel_rfl) 14 Tryz.ntmps122 rfl rfl fun w0 R => ?_
 refine Gsr (Lr rfl (rd_ld na_110 rfl (Rdc.cl1 (by repeat constructor) rfl)) ?_)
 refine La rfl (ac_range (enck := keyV) (encv := recV) Tryz.underlying110 rfl (by repeat constructor)) ?_
 rintro _ _ ⟨r, rfl, rfl⟩
 refine Lnt (Gs.block (Gs.loop1 (fun s : List Key × List (Key × Rec) × Option (Key × Rec) => List.Perm (s.1 ++ mkeys s.2.1) (mkeys es)) (fun s => [(0, .func (.yield l) #[] #[]), (5, .pointer (some ⟨r, 0, none⟩))]) (fun s => [itr keyV recV r m es s.2.1 s.2.2, J s.1, cl b 110 [.map (some m)]] ++ R) (fun s => s.2.1.length) ([], es, none) (List.Perm.refl _) (by repeat constructor) (by repeat constructor) (fun s hs => ?_)))
 obtain ⟨pre, left, last⟩ := s
 dsimp only at hs ⊢
 refine Gsr (La rfl (ac_next rfl (by repeat constructor)) ?_)
 rintro _ _ (⟨hl, rfl, rfl⟩ | ⟨i, p, hp, rfl, rfl⟩)
 ·
  have hl' : left = [] := hl
  subst hl'
  refine Gs.itrEnd (by repeat constructor) ?_
  refine Lq rfl (pu_extract rfl rfl) (Lnt (Gs.seq (Gs.cond_f rfl (Gs.exit (Gx (Gx (Gs.blk_hit (Gs.fin_n ?_))))))))
  exact Gs.fin0 Tryz.results122 _ (⟨pre, by simpa [mkeys] using hs, rfl⟩) (by repeat constructor)
 have hperm : List.Perm ((pre ++ [p.1]) ++ mkeys (left.eraseIdx i)) (mkeys es) := by
   refine List.Perm.trans ?_ hs
   rw [List.append_assoc]
   refine List.Perm.append_left pre ?_
   have h1 : List.Perm (p :: left.eraseIdx i) left := erase_perm hp
   exact h1.map Prod.fst
 have hlt : (left.eraseIdx i).length < left.length := by
   have := (List.getElem?_eq_some_iff.1 hp).1
   rw [List.length_eraseIdx_of_lt this]; omega
 have hpl : pre.length < 1000 := by
   have h1 := hs.length_eq
   have h2 := (List.getElem?_eq_some_iff.1 hp).1
   simp [mkeys] at h1; omega
 refine Lq rfl (pu_extract rfl rfl) (Lnt (Gs.seq (Gs.cond_t rfl (Gs.skip (Gn (Gs.block (Gsr (Lr rfl (ac_entry rfl (by repeat constructor)) ?_))))))))
 refine Lq rfl (pu_extract rfl rfl) (La rfl (ac_alloc zv_35 rfl) ?_)
 rintro _ _ ⟨b3, rfl, rfl⟩
 refine Lac0 rfl trivial (ac_st sz_35 rfl rfl (by repeat constructor) rfl rfl rfl rfl) ?_
 rintro _ _ rfl
 refine Lnt (Gs.seq (Gs.wide (m := 0) ?_))
 refine GI.reg [0, 1, 2, 3] rfl (GI.rd Fw.wide rfl rfl rfl rfl rfl (Pu.rd (pu_move rfl)) (GI.rd Fw.wide rfl rfl rfl rfl rfl (rd_lda ag_35 rfl (Rdc.cl 2 (by repeat constructor) rfl) rfl) ?_))
 refine Gs.take (A := J pre) (by repeat constructor) ?_
 refine Gs.yieldAt hY p.1 hpl rfl rfl rfl rfl (GI.rd Fw.wide rfl rfl rfl rfl rfl (Pu.rd (pu_not rfl)) (GI.nil (Gn (Gs.cond_f rfl (Gs.skip (Gs.blk_n (Gn ?_)))))))
 exact Ag (pre ++ [p.1], left.eraseIdx i, some p) hperm hlt
def colJ (l b2 : Nat) (r : Loop) (pre : List Key) : HProp := fun h => ∃ p : Option Addr × Nat, two (pt l (.loop r)) (two (cl b2 54 [.slice p.1 pre.length p.2]) (sl 35 2 keyC p.1 p.2 pre)) h
theorem colJ_fold {l b2 n : Nat} {r : Loop} {pre : List Key} {a : Option Addr} {c : Nat} {w0 w : World} {L : List HProp} (hn : n = pre.length) (s : Sat w0 w (pt l (.loop r) :: cl b2 54 [.slice a n c] :: sl 35 2 keyC a c pre :: L)) : Sat w0 w (colJ l b2 r pre :: L) := by
 subst hn
 have s1 : Sat w0 w (cl b2 54 [.slice a pre.length c] :: sl 35 2 keyC a c pre :: pt l (.loop r) :: L) := (s.take (.tl (.tl .hd))).take (.tl (.tl .hd))
 exact (Sat.two.2 ((Sat.two.2 s1).take (.tl .hd))).ent fun h x => ⟨(a, c), x⟩
theorem colJ_open {l b2 : Nat} {r : Loop} {pre : List Key} {w0 w : World} {L : List HProp} (s : Sat w0 w (colJ l b2 r pre :: L)) : ∃ a c, Sat w0 w (pt l (.loop r) :: cl b2 54 [.slice a pre.length c] :: sl 35 2 keyC a c pre :: L) := by
 obtain ⟨p, s1⟩ := s.ex
 have s2 := Sat.two.1 ((Sat.two.1 s1).take (.tl .hd))
 exact ⟨p.1, p.2, s2.take (.tl (.tl .hd))⟩
theorem collect_seq (b m : Nat) (es : List (Key × Rec)) (hl : es.length ≤ 1000) :
   Ct Tryz.prog 145 [.slice none 0 0, .func (.func 122) #[] #[.pointer (some ⟨b, 0, none⟩)]]
     [cl b 110 [.map (some m)], mp keyV recV m es] (fun v hs => ∃ xs a c, List.Perm xs (mkeys es) ∧ v = .slice a xs.length c ∧ hs = [sl 35 2 keyC a c xs, mp keyV recV m es]) := by
 refine Ct.introM Tryz.func145 rfl (by kernel_rfl) 13 Tryz.ntmps145 (Nat.le_of_ble_eq_true rfl) fun w0 R => ?_
 refine Gsr (La rfl (ac_box rfl rfl) ?_)
 rintro _ _ ⟨b2, rfl, rfl⟩
 refine Las rfl rfl (Lnt (Gs.seq (Gsr (Lmv rfl rfl (Lnt (Gs.block (Gs.slNil 35 2 keyC ?_)))))))
 intro a w e s
 have hen : ∀ args w, (callFunc 122 args).run Tryz.prog w = .ok (.enter 122 args) w := Go.Proofs.enters_of Tryz.func122 (by kernel_rfl) rfl
 have he : a.eval (.tmp 6) = .func (.func 122) #[] #[.pointer (some ⟨b, 0, none⟩)] := e.eval rfl
 refine wp_rangeCall he hen fun fn r hr => ?_
 have sat1 := s.alloc2 (.deferred (some [])) (.loop r)
 have hY : YOk Tryz.prog (w.heap.size + 1) (colJ (w.heap.size + 1) b2 r) := by
   intro pre x w1 w' R' hpl hs
   obtain ⟨a', c', s1⟩ := colJ_open hs
   refine ⟨r.fn, _, r.assign, r.body, run_yield s1.pt (by rw [hr]; rfl), fun m => roundIn_of_wpIn trivial ?_⟩
   have ht : (r.params.zip #[keyV x]).foldl (fun tmps (t, a) => tmps.setIfInBounds t a) r.tmps = (a.put (some 7) (keyV x)).tmps := by rw [hr]; simp [Act.put]
   have e7 : EnvOk 13 [(7, keyV x), (2, .pointer (some ⟨b2, 0, none⟩))] ⟨(r.params.zip #[keyV x]).foldl (fun tmps (t, a) => tmps.setIfInBounds t a) r.tmps, []⟩ := by
     rw [ht]
     have e8 := (e.put (d := 7) (by decide) (keyV x)).sub (e := [(7, keyV x), (2, .pointer (some ⟨b2, 0, none⟩))]) (by repeat constructor)
     exact ⟨e8.size, rfl, e8.slots⟩
   refine (?_ : Gs w1 13 [(7, keyV x), (2, .pointer (some ⟨b2, 0, none⟩))] _ _) _ _ e7 s1
   subst hr
   refine GI.reg [0, 1] rfl (GI.ac (Fw.round _) rfl rfl rfl rfl rfl (ac_alloc zv_35 rfl) ?_)
   rintro _ _ ⟨b5, rfl, rfl⟩
   refine GI.ac0 (Fw.round _) rfl rfl rfl rfl (ac_st sz_35 rfl rfl (by repeat constructor) rfl rfl rfl rfl) ?_
   rintro _ _ rfl
   refine GI.nil (Gn (Gs.take (.tl .hd) (Gs.begin rfl (GI.block (GI.reg [0, 1, 2, 3, 4] rfl (GI.rd (Fw.round _) rfl rfl rfl rfl rfl (rd_ld na_54 rfl (Rdc.cl1 (by repeat constructor) rfl)) ?_))))))
   refine GI.rd (Fw.round _) rfl rfl rfl rfl rfl (rd_lda ag_35 rfl (Rdc.cl 2 (by repeat constructor) rfl) rfl) ?_
   refine GI.ac (Fw.round _) rfl rfl rfl rfl rfl (ac_lit keyC [x] et_54 ek_35 rfl (by repeat constructor) rfl rfl (by decide)) ?_
   rintro _ _ ⟨lb, rfl, rfl⟩
   refine GI.ac (Fw.round _) rfl rfl rfl rfl rfl (ac_append (xs := pre) et_54 ek_35 rfl rfl (by repeat constructor) (SrcH.sl Tryz.underlying54 ek_35 (SlH.own (by repeat constructor))) (by simp; omega) (by simp; omega)) ?_
   rintro _ _ ⟨a2, c2, rfl, rfl⟩
   refine GI.ac0 (Fw.round _) rfl rfl rfl rfl (ac_st sz_54 rfl rfl (by repeat constructor) rfl rfl rfl rfl) ?_
   rintro _ _ rfl
   refine GI.nil (Gs.blk_n (Gs.take (A := pt (w.heap.size + 1) (.loop _)) (by repeat constructor) ?_))
   refine Gs.endRound fun w'' s'' => ⟨rfl, colJ_fold (a := a2) (c := c2) rfl (Ent.sat (by repeat constructor) s'')⟩
 have satJ : Sat w0 ((w.alloc (.deferred (some []))).alloc (.loop r)) ([colJ (w.heap.size + 1) b2 r [], cl b 110 [.map (some m)], mp keyV recV m es] ++ (pt w.heap.size (.deferred (some [])) :: R)) := by
   have := sat1.takes (As := [pt (w.heap.size + 1) (.loop r), cl b2 54 [.slice none 0 0], sl 35 2 keyC none 0 [], cl b 110 [.map (some m)], mp keyV recV m es]) (by repeat constructor)
   exact colJ_fold rfl this
 refine ((iter_spec hY b m es hl).calls w0 _ _ satJ).mono ?_
 rintro e' w' ⟨v, hs, rfl, ⟨xs, hp, rfl⟩, sat2⟩
 obtain ⟨a', c', s3⟩ := colJ_open sat2
 have hend := run_endLoop (P := Tryz.prog) s3.pt (by rw [hr]; simp)
 rw [show r.pending = none by rw [hr]] at hend
 refine ⟨v, _, rfl, hend, ?_⟩
 have s4 : Sat w0 (w'.putObj (w.heap.size + 1) (.loop { r with state := .exhausted, pending := none })) _ := s3.setMap
 have rho : Rho [(2, .pointer (some ⟨b2, 0, none⟩))] a.eval := (e.sub (e := [(2, .pointer (some ⟨b2, 0, none⟩))]) (by repeat constructor)).rho
 refine wp_seq (wp_region_lit ?_)
 refine tail_rd rfl rfl (rd_ld na_54 rfl (Rdc.cl1 (by repeat constructor) rfl)) rho s4 fun w5 s5 => ?_
 have e5 := (e.put (d := 12) (by decide) (.slice a' xs.length c'))
 have rho5 : Rho [(12, .slice a' xs.length c')] (({ a with defers := [{ target := .collected w.heap.size, args := #[] }] ++ a.defers } : Act).put (some 12) (.slice a' xs.length c')).eval :=
   (e5.sub (e := [(12, .slice a' xs.length c')]) (by repeat constructor)).rho
 refine tail_rd rfl rfl (Pu.rd (pu_assign rfl)) rho5 s5 fun w6 s6 => ?_
 have e6 := (e5.put (d := 4) (by decide) (.slice a' xs.length c'))
 refine wp_ret ?_
 have s7 := s6.take (A := pt w.heap.size (.deferred (some []))) (by repeat constructor)
 have hds : a.defers = [] := e.defers
 show LeavesInM Fence.wide 0 _ _ _ _ ({ target := .collected w.heap.size, args := #[] } :: a.defers) .returning w6
 rw [hds]
 refine ⟨by simp, .inl ⟨w.heap.size, _, rfl, run_takeDeferred s7.pt, ?_⟩⟩
 have s8 : Sat w0 (w6.putObj w.heap.size (.deferred none)) _ := s7.setMap (o' := .deferred none)
 refine ⟨_, results_tmp Tryz.results145 _ _ _, _, _, rfl, ⟨xs, a', c', hp, ?_, rfl⟩, Ent.sat (by repeat constructor) s8⟩
 exact e6.slots 4 _ rfl
theorem collect_spec (b m : Nat) (es : List (Key × Rec)) (hl : es.length ≤ 1000) :
   Ct Tryz.prog 120 [.func (.func 122) #[] #[.pointer (some ⟨b, 0, none⟩)]]
     [cl b 110 [.map (some m)], mp keyV recV m es] (fun v hs => ∃ xs a c, List.Perm xs (mkeys es) ∧ v = .slice a xs.length c ∧ hs = [sl 35 2 keyC a c xs, mp keyV recV m es]) := by
 refine Cti Tryz.func120 (by kernel_rfl) 5 Tryz.ntmps120 rfl rfl fun w0 R => ?_
 refine Gsr (Las rfl rfl (Lnt (Gsr (Lmv rfl rfl (La rfl (asC (collect_seq b m es hl)) ?_)))))
 rintro _ _ ⟨_, ⟨xs, a, c, hp, rfl, rfl⟩, rfl⟩
 refine Las rfl rfl (Lnt (Gs.ret ?_))
 exact Gs.fin1 Tryz.results120 rfl _ (⟨xs, a, c, hp, rfl, rfl⟩) (by repeat constructor)
end Go.Proofs.YtflfhpokmidnmaaGreatDoor
namespace Go.Proofs.YtflfhpokmidnmaaGreatDoor
open Go Go.Sl Go.Gv Go.Sort
set_option maxRecDepth 100000
def cfK (a b : Key) : Int := if before a b then -1 else 1
theorem cmp_exact (a1 a2 b1 b2 : Int) (w : World) : Calls Tryz.prog 84 #[.agg #[.int .i64 a1, .int .i64 a2], .agg #[.int .i64 b1, .int .i64 b2]] w fun e w' => e = .returned (.int .i64 (cfK ⟨a1, a2⟩ ⟨b1, b2⟩)) ∧ ∃ os, w' = grow w os := by
 have hB := fun W => before_exact a1 a2 b1 b2 W
 unfold cfK
 generalize before ⟨a1, a2⟩ ⟨b1, b2⟩ = B at hB ⊢
 go_enter Tryz.func84, Tryz.ntmps84
 cases B
 · go_wp2_with (go_at_call 85; refine (hB _).mono ?_; rintro e w' ⟨rfl, os, rfl⟩)
   go_ret
   exact ⟨by simp, _, by rw [grow2, grow_grow]⟩
 · go_wp2_with (go_at_call 85; refine (hB _).mono ?_; rintro e w' ⟨rfl, os, rfl⟩)
   go_ret
   exact ⟨by simp, _, by rw [grow2, grow_grow]⟩
end Go.Proofs.YtflfhpokmidnmaaGreatDoor
namespace Go.Proofs
open Go.Shelf
namespace YtflfhpokmidnmaaGreatDoor
open Go Go.Sl Go.Gv Go.Kv Go.Sort
set_option maxRecDepth 100000
instance inhKeyS : Inhabited Key := ⟨⟨0, 0⟩⟩
theorem ltOf_cfK (x y : Key) : ltOf cfK x y = before x y := by
 unfold ltOf cfK; cases before x y <;> simp
theorem swo_key : SWO (ltOf cfK) where
 irrefl x := by rw [ltOf_cfK]; exact before_irr
 trans x y z h1 h2 := by rw [ltOf_cfK] at *; exact before_trans h1 h2
 ntrans x y z h1 h2 := by rw [ltOf_cfK] at *; rw [before_not] at *; omega
theorem tot_key (x y : Key) (h1 : ltOf cfK x y = false) (h2 : ltOf cfK y x = false) : x = y := by
 rw [ltOf_cfK] at *; rw [before_not] at *
 cases x; cases y; simp at *; omega
theorem sort_spec (a : Option Addr) (c : Nat) (xs : List Key) (hn : xs.Nodup) (hl : xs.length ≤ 1000) : Ct Tryz.prog 121 [.slice a xs.length c, .func (.func 84) #[] #[]] [sl 35 2 keyC a c xs]
   (fun v hs => v = .tuple #[] ∧ hs = [sl 35 2 keyC a c (sortK xs)]) := by
 refine ⟨enters_of Tryz.func121 (by kernel_rfl) rfl _, fun w0 w R s => ?_⟩
 by_cases he : xs = []
 · subst he
   refine (AnyF.slices_SortFunc_none { Tryz.sortKeys with } a c (.func (.func 84) #[] #[]) w).mono ?_
   rintro e w' ⟨rfl, rfl⟩
   exact ⟨_, _, rfl, ⟨rfl, rfl⟩, s⟩
 · obtain ⟨b, off, ha, -⟩ := (SlH.own .hd : SlH w0 ([sl 35 2 keyC a c xs] ++ R) 2 keyC a xs) w s he
   subst ha
   obtain ⟨hH, hb⟩ := sl_holds ek_35 s
   have eg : ∀ args w, (callFunc 84 args).run Tryz.prog w = .ok (.enter 84 args) w := enters_of Tryz.func84 (by kernel_rfl) rfl
   have hS := AnyQ.slices_SortFunc_total (P := Tryz.prog) { Tryz.sortKeys with } 2 Tryz.isAgg35 Tryz.sizeOf35 keyC (fun _ => rfl) ek_35.one cfK swo_key 84 #[] b off c xs.toArray w eg
     (fun m os dk _ x y => (cmp_exact x.o x.q y.o y.q _).mono fun e w' ⟨h1, os', h2⟩ => ⟨h1, 0, os', h2⟩) hH hb (by simp; omega) tot_key
   refine hS.mono ?_
   rintro e w' ⟨rfl, n, os, rfl⟩
   refine ⟨_, _, rfl, ⟨rfl, rfl⟩, ?_⟩
   have hm : (xs.toArray.toList.mergeSort fun x y => !(ltOf cfK) y x) = sortK xs := by
     have e : (fun x y : Key => !(ltOf cfK) y x) = fun x y => !before y x := by funext x y; rw [ltOf_cfK]
     rw [e]; exact sort_merge xs hn
   rw [hm]
   exact sl_sorted ek_35 sortK_length s
end YtflfhpokmidnmaaGreatDoor
end Go.Proofs
namespace Go.Proofs.YtflfhpokmidnmaaGreatDoor
open Go Go.Sl Go.Gv Go.Kv
set_option maxRecDepth 100000
theorem sortedFunc_spec (b m : Nat) (es : List (Key × Rec)) (hl : es.length ≤ 1000) :
   Ct Tryz.prog 82 [.func (.func 122) #[] #[.pointer (some ⟨b, 0, none⟩)], .func (.func 84) #[] #[]]
     [cl b 110 [.map (some m)], mp keyV recV m es] (fun v hs => ∃ a c, v = .slice a (sortK (mkeys es)).length c ∧ hs = [sl 35 2 keyC a c (sortK (mkeys es)), mp keyV recV m es]) := by
 refine Cti Tryz.func82 (by kernel_rfl) 12 Tryz.ntmps82 rfl rfl fun w0 R => ?_
 refine Gs.mpNodup (enck := keyV) (encv := recV) (b := m) (m := es) (by repeat constructor) fun hnd => ?_
 refine Gsr (Las rfl rfl (Lnt (Gsr (Lmv rfl rfl (La rfl (asC (collect_spec b m es hl)) ?_)))))
 rintro _ _ ⟨_, ⟨xs, a, c, hp, rfl, rfl⟩, rfl⟩
 refine Las rfl rfl (Lnil ?_)
 have hxn : xs.Nodup := hp.nodup_iff.2 hnd
 have hxl : xs.length ≤ 1000 := by rw [hp.length_eq]; simp [mkeys]; exact hl
 have hss : sortK xs = sortK (mkeys es) := asc_uniq (sortK_asc hxn) (sortK_asc hnd) ((sortK_perm xs).trans (hp.trans (sortK_perm _).symm))
 refine Gn (Gsr (Lmv rfl rfl (Lmv rfl rfl (La rfl (asC (sort_spec a c xs hxn hxl)) ?_))))
 rintro _ _ ⟨_, ⟨rfl, rfl⟩, rfl⟩
 refine Lnil ?_
 rw [hss]
 refine Gn (Gsr (Lmv rfl rfl (Las rfl rfl (Lnt (Gs.ret ?_)))))
 exact Gs.fin1 Tryz.results82 rfl _ (⟨a, c, by rw [← hss, sortK_length], rfl⟩) (by repeat constructor)
theorem keys_specH (b m : Nat) (most : Int) (L : List Rec) (hL : L.length ≤ 1000) : Ct Tryz.prog 48 [ptr b] [cl b 136 (heldC most m), mp keyV recV m (ents L)]
   (fun v hs => ∃ a c, v = .slice a (sortK (L.map Rec.key)).length c ∧ hs = [cl b 136 (heldC most m), mp keyV recV m (ents L), sl 35 2 keyC a c (sortK (L.map Rec.key))]) := by
 refine Cti Tryz.func48 (by kernel_rfl) 11 Tryz.ntmps48 rfl rfl fun w0 R => ?_
 refine Gsr (Las rfl rfl (Lnt (Gs.seq (Gsr (Lmv rfl rfl (Lq rfl (pu_eqN Tryz.underlying71 rfl rfl) (Lnt (Gs.cond_f rfl (Gs.skip (Gn (Gsr ?_)))))))))))
 refine Lmv rfl rfl (Lq rfl (by first | exact pu_nil rfl | exact pu_nilF rfl) ?_)
 refine Lq rfl (pu_fa fa_136_1 rfl) (Lr rfl (rd_ld na_110 rfl (Rdc.cl1 (by repeat constructor) rfl)) ?_)
 refine La rfl (asC (keysFn_spec m)) ?_
 rintro _ _ ⟨_, ⟨kb, rfl, rfl⟩, rfl⟩
 refine La rfl (asC (sortedFunc_spec kb m (ents L) (by rw [length_ents]; exact hL))) ?_
 rintro _ _ ⟨_, ⟨a, c, rfl, rfl⟩, rfl⟩
 rw [mkeys_ents]
 refine Las rfl rfl (Lnt (Gs.ret ?_))
 exact Gs.fin1 Tryz.results48 rfl _ (⟨a, c, rfl, rfl⟩) (by repeat constructor)
end Go.Proofs.YtflfhpokmidnmaaGreatDoor
namespace Go.Proofs.YtflfhpokmidnmaaGreatDoor
open Go Go.Sl Go.Gv Go.Kv
set_option maxRecDepth 100000
def dropB (ws : List Int) (k : Key) : Bool := match ws[k.o.toNat]? with
 | some x => decide (k.q ≤ x)
 | none => false
def remL (ws : List Int) (ks : List Key) (i : Nat) (L : List Rec) : List Rec := L.filter fun r => !(decide (r.key ∈ ks.take i) && dropB ws r.key)
def dropL (ws : List Int) (L : List Rec) : List Rec := L.filter fun r => !dropB ws r.key
theorem remL_zero (ws : List Int) (ks : List Key) (L : List Rec) : remL ws ks 0 L = L := by simp [remL]
theorem remL_all (ws : List Int) (ks : List Key) (L : List Rec) (h : ∀ r ∈ L, r.key ∈ ks) : remL ws ks ks.length L = dropL ws L := by
 unfold remL dropL
 apply List.filter_congr
 intro r hr
 simp [h r hr]
theorem remL_off {ws : List Int} {ks : List Key} {i : Nat} {k : Key} {L : List Rec} (hk : ks[i]? = some k) (hd : dropB ws k = false) : remL ws ks (i + 1) L = remL ws ks i L := by
 unfold remL
 apply List.filter_congr
 intro r _
 have hlt := (List.getElem?_eq_some_iff.1 hk).1
 rw [List.take_add_one, hk]
 by_cases h : r.key = k
 · rw [h, hd]; simp
 · simp [h]
theorem remL_on {ws : List Int} {ks : List Key} {i : Nat} {k : Key} {L : List Rec} (hk : ks[i]? = some k) (hd : dropB ws k = true) : remL ws ks (i + 1) L = delL (remL ws ks i L) k := by
 unfold remL delL
 rw [List.filter_filter]
 apply List.filter_congr
 intro r _
 rw [List.take_add_one, hk]
 by_cases h : r.key = k
 · rw [h, hd]; simp
 · simp [h]
theorem drop_specH (b m : Nat) (most : Int) (L : List Rec) (hL : L.length ≤ 1000) (hK : ∀ r ∈ L, 0 ≤ r.o) {S : HProp} {a : Option Addr} {c : Nat} {ws : List Int} (hS : Srd S 1 intC a ws) :
   Ct Tryz.prog 70 [ptr b, .slice a ws.length c] [cl b 136 (heldC most m), mp keyV recV m (ents L), S]
     (fun v hs => v = int (L.length - (dropL ws L).length) ∧ hs = [cl b 136 (heldC most m), mp keyV recV m (ents (dropL ws L)), S]) := by
 obtain ⟨ks, hks⟩ : ∃ ks, ks = sortK (L.map Rec.key) := ⟨_, rfl⟩
 have hmem : ∀ r ∈ L, r.key ∈ ks := fun r hr => by rw [hks, sortK_mem]; exact List.mem_map_of_mem hr
 have hpos : ∀ k ∈ ks, 0 ≤ k.o := fun k hk => by
   rw [hks, sortK_mem] at hk
   obtain ⟨r, hr, rfl⟩ := List.mem_map.1 hk
   exact hK r hr
 have hkl : ks.length = L.length := by rw [hks, sortK_length, List.length_map]
 have hlen : (dropL ws L).length ≤ L.length := List.length_filter_le ..
 refine Cti Tryz.func70 (by kernel_rfl) 40 Tryz.ntmps70 rfl rfl fun w0 R => ?_
 refine Gs.slAddr (hS.h (by repeat constructor)) fun ab ao ha => ?_
 refine Gsr (Las rfl rfl (Lnt (Gsr (Lmv rfl rfl (La rfl (asC (len_spec b m most L)) ?_)))))
 rintro _ _ ⟨_, ⟨rfl, rfl⟩, rfl⟩
 refine Las rfl rfl (Lnt (Gs.seq (Gsr (Lmv rfl rfl (La rfl (asC (keys_specH b m most L hL)) ?_)))))
 rintro _ _ ⟨_, ⟨a2, c2, rfl, rfl⟩, rfl⟩
 rw [← hks]
 refine Gs.slAddr (SlH.own (by repeat constructor) : SlH _ _ 2 keyC a2 ks) fun kb ko hka => ?_
 refine Lq rfl (pu_len Tryz.underlying54 rfl) (Lmv rfl rfl ?_)
 rw [show ents L = ents (remL ws ks 0 L) by rw [remL_zero]]
 refine Lnt (Gs.block (Gs.loop1 (fun i : Nat => i ≤ ks.length) (fun i => [(0, ptr b), (1, .slice a ws.length c), (5, int L.length), (11, .slice a2 ks.length c2), (12, int ks.length), (13, int i)]) (fun i => [cl b 136 (heldC most m), mp keyV recV m (ents (remL ws ks i L)), S, sl 35 2 keyC a2 c2 ks] ++ R) (fun i => ks.length - i) 0 (Nat.zero_le _) (by repeat constructor) (by repeat constructor) (fun i hi => ?_)))
 refine Gsr (Lq rfl (pu_lt rfl rfl) (Lnt (Gs.seq (Gs.cond rfl (fun hc0 => ?_) (fun hc0 => ?_)))))
 ·
  have hlt : i < ks.length := by have := of_decide_eq_true hc0; omega
  obtain ⟨k, hk⟩ : ∃ k, ks[i]? = some k := ⟨ks[i], by simp [hlt]⟩
  obtain rfl := hka (by rintro rfl; simp at hlt)
  refine Gs.skip (Gn (Gs.seq (Gs.block (Gsr (Lq rfl (pu_ia se_54 rfl rfl (by omega) (by omega)) (Lr rfl (rd_lda ag_35 rfl (Rdc.el0 (SlH.own (by repeat constructor)) hk rfl rfl) rfl) ?_))))))
  refine La rfl (ac_alloc zv_35 rfl) ?_
  rintro _ _ ⟨b7, rfl, rfl⟩
  refine Lac0 rfl trivial (ac_st sz_35 rfl rfl (by repeat constructor) rfl rfl rfl rfl) ?_
  rintro _ _ rfl
  refine Lnt (Gs.seq (Gs.regD mixed (by kernel_rfl) (Rq 0 rfl (by kernel_rfl) (pu_fa fa_35_0 rfl) (Rr 1 rfl (by kernel_rfl) (rd_ld na_3 rfl (Rdc.cl1 (by repeat constructor) rfl)) ?_))))
  refine Rmv 2 rfl (by kernel_rfl) rfl (Rq 3 rfl (by kernel_rfl) (pu_len Tryz.underlying30 rfl) (Rq 4 rfl (by kernel_rfl) (pu_lt rfl rfl) (Rg.puB 5 rfl rfl (by kernel_rfl) trivial (pu_move rfl) (fun hg5 => ?_) (fun hg5 => ?_))))
  ·
   have hg5' := of_decide_eq_true hg5
   have h0k := hpos k (List.mem_of_getElem? hk)
   obtain ⟨x, hx⟩ : ∃ x, ws[k.o.toNat]? = some x := ⟨ws[k.o.toNat]'(by omega), by simp⟩
   obtain rfl := ha (by rintro rfl; simp at hg5'; omega)
   refine Rg.pu 6 rfl rfl (by kernel_rfl) ⟨_, rfl, rfl⟩ (pu_fa fa_35_1 rfl) (Rg.rd 7 rfl rfl (by kernel_rfl) ⟨_, rfl, rfl⟩ (rd_ld na_3 rfl (Rdc.cl1 (by repeat constructor) rfl)) ?_)
   refine Rg.pu 8 rfl rfl (by kernel_rfl) ⟨_, rfl, rfl⟩ (pu_move rfl) (Rg.pu 9 rfl rfl (by kernel_rfl) ⟨_, rfl, rfl⟩ (pu_fa fa_35_0 rfl) (Rg.rd 10 rfl rfl (by kernel_rfl) ⟨_, rfl, rfl⟩ (rd_ld na_3 rfl (Rdc.cl1 (by repeat constructor) rfl)) ?_))
   refine Rg.pu 11 rfl rfl (by kernel_rfl) ⟨_, rfl, rfl⟩ (pu_ia se_30 rfl rfl (by omega) (by omega)) (Rg.rd 12 rfl rfl (by kernel_rfl) ⟨_, rfl, rfl⟩ (rd_ld na_3 rfl (Rdc.el0 (hS.h (by repeat constructor)) hx rfl rfl)) ?_)
   refine Rg.pu 13 rfl rfl (by kernel_rfl) ⟨_, rfl, rfl⟩ (pu_le rfl rfl) (Rpk 14 rfl (by kernel_rfl) rfl rfl (Rg.end (by kernel_rfl) (Gn (Gs.cond rfl (fun hc1 => ?_) (fun hc1 => ?_)))))
   ·
    have hd : dropB ws k = true := by simpa [dropB, hx] using hc1
    refine Gs.reg (Lmv rfl rfl (Lr rfl (rd_lda ag_35 rfl (Rdc.cl 2 (by repeat constructor) rfl) rfl) ?_))
    refine La rfl (asC (next_specH b m most _ k)) ?_
    rintro _ _ ⟨_, ⟨rfl, rfl⟩, rfl⟩
    rw [← remL_on hk hd]
    refine Lnil (Gs.blk_n (Gn (Gs.reg (Lq rfl (by first | exact pu_addI rfl rfl rfl (by omega) (by omega) | exact pu_add rfl rfl) ?_))))
    refine Lmv rfl rfl (Lnt ?_)
    exact Ag (i + 1) (by omega) (by omega)
   have hd : dropB ws k = false := by simpa [dropB, hx] using hc1
   rw [← remL_off hk hd]
   refine Gs.skip (Gs.blk_n (Gn (Gs.reg (Lq rfl (by first | exact pu_addI rfl rfl rfl (by omega) (by omega) | exact pu_add rfl rfl) ?_))))
   refine Lmv rfl rfl (Lnt ?_)
   exact Ag (i + 1) (by omega) (by omega)
  have hg5' := of_decide_eq_false hg5
  have h0k := hpos k (List.mem_of_getElem? hk)
  have hd : dropB ws k = false := by unfold dropB; rw [List.getElem?_eq_none (by omega)]
  rw [← remL_off hk hd]
  refine Rof 6 rfl (by kernel_rfl) rfl (Rof 7 rfl (by kernel_rfl) rfl (Rof 8 rfl (by kernel_rfl) rfl (Rof 9 rfl (by kernel_rfl) rfl (Rof 10 rfl (by kernel_rfl) rfl (Rof 11 rfl (by kernel_rfl) rfl (Rof 12 rfl (by kernel_rfl) rfl (Rof 13 rfl (by kernel_rfl) rfl (Rpk 14 rfl (by kernel_rfl) rfl rfl (Rg.end (by kernel_rfl) (Gn (Gs.cond_f rfl ?_)))))))))))
  refine Gs.skip (Gs.blk_n (Gn (Gs.reg (Lq rfl (by first | exact pu_addI rfl rfl rfl (by omega) (by omega) | exact pu_add rfl rfl) ?_))))
  refine Lmv rfl rfl (Lnt ?_)
  exact Ag (i + 1) (by omega) (by omega)
 have hge : i = ks.length := by have := of_decide_eq_false hc0; omega
 subst hge
 rw [remL_all ws ks L hmem]
 refine Gs.exit (Gx (Gx (Gs.blk_hit (Gn (Gsr (Lmv rfl rfl (Lmv rfl rfl (La rfl (asC (len_spec b m most _)) ?_))))))))
 rintro _ _ ⟨_, ⟨rfl, rfl⟩, rfl⟩
 refine Lq rfl (by first | exact pu_subI rfl rfl rfl (by omega) (by omega) | exact pu_sub rfl rfl) ?_
 refine Las rfl rfl (Lnt (Gs.ret ?_))
 exact Gs.fin1 Tryz.results70 rfl _ (⟨rfl, rfl⟩) (by repeat constructor)
end Go.Proofs.YtflfhpokmidnmaaGreatDoor
namespace Go.Proofs.YtflfhpokmidnmaaGreatDoor
open Go Go.Gv Go.Kv
structure Part where
 o : Int
 l : Int
 i : Int
 deriving DecidableEq
def inR (o : Int) (k : Nat) (i : Int) (r : Rec) : Bool := decide (r.o = o) && decide (r.q / 4 ^ k = i)
def cnt (L : List Rec) (o : Int) (k : Nat) (i : Int) : Nat := (L.filter (inR o k i)).length
def hashR (r : Rec) : Int := hashB (layB r)
def putOk (L : List Rec) (r : Rec) : Bool := recB r && (lookR L r.key).isNone
def putOne (L : List Rec) (r : Rec) : List Rec := if putOk L r then L ++ [r] else L
def putAll (L : List Rec) (rs : List Rec) : List Rec := rs.foldl putOne L
theorem putAll_snoc (L rs : List Rec) (r : Rec) : putAll L (rs ++ [r]) = putOne (putAll L rs) r := by simp [putAll]
theorem putAll_take {L rs : List Rec} {i : Nat} {r : Rec} (h : rs[i]? = some r) : putAll L (rs.take (i + 1)) = putOne (putAll L (rs.take i)) r := by
 rw [List.take_add_one, h]; exact putAll_snoc ..
structure TOk (L : List Rec) : Prop where
 nd : (L.map Rec.key).Nodup
 may : ∀ r ∈ L, recB r = true
theorem TOk.nil : TOk [] := ⟨List.nodup_nil, fun _ h => by cases h⟩
theorem lookR_none {L : List Rec} {k : Key} : lookR L k = none ↔ k ∉ L.map Rec.key := by
 simp only [lookR, List.find?_eq_none, List.mem_map, decide_eq_true_eq]
 constructor
 · rintro h ⟨f, hf, e⟩; exact h f hf e
 · intro h f hf e; exact h ⟨f, hf, e⟩
theorem TOk.put {L : List Rec} (h : TOk L) (r : Rec) : TOk (putOne L r) := by
 unfold putOne; split
 · rename_i hp
   simp only [putOk, Bool.and_eq_true, Option.isNone_iff_eq_none] at hp
   refine ⟨?_, fun x hx => ?_⟩
   · simp only [List.map_append, List.map_cons, List.map_nil, List.nodup_append]
     exact ⟨h.nd, by simp, fun a ha b hb e => by simp at hb; subst hb; subst e; exact lookR_none.1 hp.2 ha⟩
   · rcases List.mem_append.1 hx with hx | hx
     · exact h.may x hx
     · simp at hx; subst hx; exact hp.1
 · exact h
theorem putOne_length (L : List Rec) (r : Rec) : (putOne L r).length = L.length + if putOk L r then 1 else 0 := by
 unfold putOne; split <;> simp
theorem putAll_length (L rs : List Rec) : L.length ≤ (putAll L rs).length ∧ (putAll L rs).length ≤ L.length + rs.length := by
 induction rs generalizing L with
 | nil => simp [putAll]
 | cons r rs ih =>
   have h1 := ih (L := putOne L r)
   have h2 := putOne_length L r
   have e : Go.Proofs.YtflfhpokmidnmaaGreatDoor.putAll L (r :: rs) = Go.Proofs.YtflfhpokmidnmaaGreatDoor.putAll (putOne L r) rs := rfl
   rw [e]; simp only [List.length_cons]; split at h2 <;> omega
theorem rec_q {r : Rec} (h : recB r = true) : 0 ≤ r.o ∧ r.o < 8 ∧ 1 ≤ r.q ∧ r.q ≤ 1023 := by
 simp only [recB, Bool.and_eq_true] at h
 have h1 := h.1.1
 simp only [keyB, Bool.and_eq_true, decide_eq_true_eq] at h1
 exact ⟨h1.1.1.1, h1.1.1.2, h1.1.2, h1.2⟩
def onP (k : Key) (p : Part) : Bool := decide (p.o = k.o) && decide (0 ≤ p.l) && decide (p.l ≤ 5) && decide (p.i = k.q / 4 ^ (5 - p.l).toNat)
theorem onP_in {r : Rec} {o i : Int} {k : Nat} (hk : k ≤ 5) : onP r.key ⟨o, 5 - (k : Int), i⟩ = inR o k i r := by
 have h1 : (5 - (5 - (k : Int))).toNat = k := by omega
 have h2 : decide (0 ≤ 5 - (k : Int)) = true := decide_eq_true (by omega)
 have h3 : decide (5 - (k : Int) ≤ 5) = true := decide_eq_true (by omega)
 simp only [onP, inR, Rec.key, h1, h2, h3, Bool.and_true]
 congr 1
 · exact decide_eq_decide.2 ⟨fun h => h.symm, fun h => h.symm⟩
 · exact decide_eq_decide.2 ⟨fun h => h.symm, fun h => h.symm⟩
def cv (C : List (Part × Int)) (p : Part) : Int := (mget C p).getD 0
def COk (C : List (Part × Int)) (L : List Rec) : Prop := ∀ (o i : Int) (k : Nat), k ≤ 5 → cv C ⟨o, 5 - (k : Int), i⟩ = cnt L o k i
theorem COk.nil : COk [] [] := fun _ _ _ _ => rfl
theorem COk.put {C C' : List (Part × Int)} {L : List Rec} {r : Rec} (h : COk C L) (h' : ∀ p, cv C' p = cv C p + if onP r.key p then 1 else 0) : COk C' (L ++ [r]) := fun o i k hk => by
 rw [h', h o i k hk, onP_in hk]
 unfold cnt
 rw [List.filter_append, List.length_append]
 by_cases hr : inR o k i r = true <;> simp [hr]
theorem cnt_le (L : List Rec) (o : Int) (k : Nat) (i : Int) : cnt L o k i ≤ L.length := List.length_filter_le ..
def lents (L : List Rec) : List (Key × (Rec × Int)) := L.map fun r => (r.key, (r, hashR r))
theorem mget_lents (L : List Rec) (k : Key) : mget (lents L) k = (lookR L k).map fun r => (r, hashR r) := by
 induction L with
 | nil => rfl
 | cons r L ih =>
   simp only [lents, List.map_cons, mget, lookR, List.find?_cons]
   by_cases h : k = r.key
   · simp [h]
   · have h' : ¬ r.key = k := fun e => h e.symm
     simp only [h, h', if_false, decide_false]; exact ih
theorem mput_lents (L : List Rec) (r : Rec) (h : lookR L r.key = none) : mput (lents L) r.key (r, hashR r) = lents (L ++ [r]) := by
 have : mget (lents L) r.key = none := by rw [mget_lents, h]; rfl
 rw [Go.Sl.mput_none _ this]; simp [lents]
end Go.Proofs.YtflfhpokmidnmaaGreatDoor
namespace Go.Proofs.YtflfhpokmidnmaaGreatDoor
open Go Go.Sl Go.Gv Go.Kv
set_option maxRecDepth 100000
abbrev partC (p : Part) : List Value := [int p.o, int p.l, int p.i]
abbrev partV (p : Part) : Value := .agg (partC p).toArray
abbrev leafC (x : Rec × Int) : List Value := [.int .i64 x.1.o, .int .i64 x.1.q, .int .i64 x.1.w, .int .i64 x.1.c, .string x.1.t, .int .u64 x.2]
abbrev leafV (x : Rec × Int) : Value := .agg (leafC x).toArray
theorem cmp_223 : CmpT Tryz.prog 223 partV 2 :=
 CmpT.of (fun k : Part => (k.o, k.l, k.i)) (fun a b => by cases a; cases b; simp) (fun _ => rfl)
   (cmp_iii Tryz.underlying223 Tryz.stoodInHeld223 ⟨by decide, by decide, by decide⟩ ⟨⟨rfl, rfl, rfl⟩, rfl, rfl, rfl⟩ Tryz.underlying3 na_3)
theorem kt_223 : KeyT Tryz.prog 223 partV :=
 KeyT.struct Tryz.underlying223 cmp_223 (by decide) (fun e k w => check_struct Tryz.underlying223 (by
   intro f hf
   simp only [List.mem_cons, List.not_mem_nil, or_false] at hf
   rcases hf with rfl | rfl | rfl
   · exact ⟨_, part_na na_3 rfl, check_int Tryz.underlying3⟩
   · exact ⟨_, part_na na_3 rfl, check_int Tryz.underlying3⟩
   · exact ⟨_, part_na na_3 rfl, check_int Tryz.underlying3⟩)) (fun k => by simp [Instr.sameBits])
abbrev enck_223 : Part → Value := partV
abbrev encv_3 : Int → Value := int
abbrev encv_167 : Rec × Int → Value := leafV
theorem zvk_3 : ZV Tryz.prog 3 (int 0) := zv_3
theorem zvk_167 : ZV Tryz.prog 167 (leafV (Rec.zero, 0)) := zv_167
abbrev treeC (m1 m2 : Nat) : List Value := [.map (some m1), .map (some m2)]
def tre (b : Nat) (L : List Rec) : HProp := fun h => ∃ y : Nat × Nat × List (Part × Int), (TOk L ∧ COk y.2.2 L) ∧ two (cl b 158 (treeC y.1 y.2.1)) (two (mp keyV leafV y.1 (lents L)) (mp partV int y.2.1 y.2.2)) h
section
variable {w0 : World} {n : Nat} {env : Env} {H : List HProp} {X : Act → World → Prop}
theorem Gs.treOpen {b : Nat} {L : List Rec} {H' : List HProp} (t : Take (tre b L) H H')
   (g : ∀ m1 m2 C, TOk L → COk C L → Gs w0 n env (cl b 158 (treeC m1 m2) :: mp keyV leafV m1 (lents L) :: mp partV int m2 C :: H') X) : Gs w0 n env H X := fun a w e s => by
 obtain ⟨⟨m1, m2, C⟩, s1⟩ := (s.take t).ex
 obtain ⟨⟨h1, h2⟩, s2⟩ := s1.pure
 have s3 := (Sat.two.1 s2).take (.tl .hd)
 exact g m1 m2 C h1 h2 a w e ((Sat.two.1 s3).takes (As := [cl b 158 (treeC m1 m2), mp keyV leafV m1 (lents L), mp partV int m2 C]) (by repeat constructor))
theorem Gs.treClose {b m1 m2 : Nat} {L : List Rec} {C : List (Part × Int)} {H' : List HProp} (t : Takes [cl b 158 (treeC m1 m2), mp keyV leafV m1 (lents L), mp partV int m2 C] H H') (h1 : TOk L) (h2 : COk C L)
   (g : Gs w0 n env (tre b L :: H') X) : Gs w0 n env H X := fun a w e s => by
 have s1 := s.takes t
 have s2 : Sat w0 w (two (mp keyV leafV m1 (lents L)) (mp partV int m2 C) :: cl b 158 (treeC m1 m2) :: H') := Sat.two.2 (s1.takes (As := [mp keyV leafV m1 (lents L), mp partV int m2 C, cl b 158 (treeC m1 m2)]) (by repeat constructor))
 have s3 := Sat.two.2 (s2.take (.tl .hd))
 exact g a w e (s3.ent fun h x => ⟨(m1, m2, C), ⟨h1, h2⟩, x⟩)
end
theorem treNew_spec : Ct Tryz.prog 56 [] [] (fun v hs => ∃ b, v = ptr b ∧ hs = [tre b []]) := by
 refine Cti Tryz.func56 (by kernel_rfl) 5 Tryz.ntmps56 rfl rfl fun w0 R => ?_
 refine Gsr (Las rfl rfl (Lnt (Gsr (La rfl (ac_mkmap enck_35 encv_167) ?_))))
 rintro _ _ ⟨m1, rfl, rfl⟩
 refine La rfl (ac_mkmap enck_223 encv_3) ?_
 rintro _ _ ⟨m2, rfl, rfl⟩
 refine Lq rfl (pu_build bd_158 (by repeat constructor) rfl) ?_
 refine La rfl (ac_box rfl rfl) ?_
 rintro _ _ ⟨b, rfl, rfl⟩
 refine Las rfl rfl (Lnt (Gs.ret (Gs.treClose (L := []) (by repeat constructor) TOk.nil COk.nil ?_)))
 exact Gs.fin1 Tryz.results56 rfl _ (⟨b, rfl, rfl⟩) (by repeat constructor)
theorem COk.bound {C : List (Part × Int)} {L : List Rec} (h : COk C L) (hl : L.length ≤ 300000) (key : Key) : ∀ p, onP key p = true → -1000000 ≤ cv C p ∧ cv C p ≤ 1000000 := fun p hp => by
 obtain ⟨o, l, i⟩ := p
 simp only [onP, Bool.and_eq_true, decide_eq_true_eq] at hp
 have h1 := h o i (5 - l).toNat (by omega)
 rw [show (5 - ((5 - l).toNat : Int)) = l by omega] at h1
 have h2 := cnt_le L o (5 - l).toNat i
 rw [h1]; omega
theorem cv_put (D : List (Part × Int)) (k : Part) (v : Int) (p : Part) : cv (mput D k v) p = if p = k then v else cv D p := by
 unfold cv; rw [mget_put]; split <;> rfl
theorem count_step {C D : List (Part × Int)} {key : Key} {by' i : Int} {j : Nat} (hj : j ≤ 6) (hlt : j < 6) (hi : i = key.q / 4 ^ j) (hD : ∀ p, cv D p = cv C p + if onP key p ∧ 5 - p.l < (j : Int) then by' else 0)
   (hnow : cv D ⟨key.o, 5 - (j : Int), i⟩ = cv C ⟨key.o, 5 - (j : Int), i⟩) : ∀ p, cv (mput D ⟨key.o, 5 - (j : Int), i⟩ ((mget D ⟨key.o, 5 - (j : Int), i⟩).getD 0 + by')) p = cv C p + if onP key p ∧ 5 - p.l < ((j + 1 : Nat) : Int) then by' else 0 := by
 intro p
 rw [cv_put]
 have h5 : (5 - (5 - (j : Int))).toNat = j := by omega
 by_cases hp : p = ⟨key.o, 5 - (j : Int), i⟩
 · subst hp
   rw [if_pos rfl, if_pos]
   · show cv D ⟨key.o, 5 - (j : Int), i⟩ + by' = _
     rw [hnow]
   · refine ⟨?_, by dsimp only; omega⟩
     simp only [onP, h5, Bool.and_eq_true, decide_eq_true_eq]
     exact ⟨⟨⟨trivial, by omega⟩, by omega⟩, hi⟩
 · rw [if_neg hp, hD p]
   congr 1
   by_cases h : onP key p = true ∧ 5 - p.l < (j : Int)
   · rw [if_pos h, if_pos ⟨h.1, by have := h.2; omega⟩]
   · rw [if_neg h, if_neg]
     rintro ⟨h1, h2⟩
     apply h
     refine ⟨h1, ?_⟩
     apply Classical.byContradiction
     intro h3
     apply hp
     obtain ⟨po, pl, pi⟩ := p
     simp only [onP, Bool.and_eq_true, decide_eq_true_eq] at h1
     dsimp only at h1 h2 h3
     have e1 : pl = 5 - (j : Int) := by omega
     subst e1
     rw [h5] at h1
     rw [h1.1.1.1, h1.2, hi]
theorem count_spec (b m1 m2 : Nat) (C : List (Part × Int)) (key : Key) (by' : Int) (hq : 0 ≤ key.q) (hq2 : key.q ≤ 100000) (hb : by' = 1 ∨ by' = -1) (hC : ∀ p, onP key p = true → -1000000 ≤ cv C p ∧ cv C p ≤ 1000000) :
   Ct Tryz.prog 103 [ptr b, keyV key, int by'] [cl b 158 (treeC m1 m2), mp partV int m2 C]
     (fun v hs => ∃ C', v = .tuple #[] ∧ hs = [cl b 158 (treeC m1 m2), mp partV int m2 C'] ∧ ∀ p, cv C' p = cv C p + if onP key p then by' else 0) := by
 refine Cti Tryz.func103 (by kernel_rfl) 30 Tryz.ntmps103 rfl rfl fun w0 R => ?_
 refine Gsr (La rfl (ac_box rfl rfl) ?_)
 rintro _ _ ⟨kb, rfl, rfl⟩
 refine Lnt (Gsr (Lq rfl (pu_fa fa_35_1 rfl) (Lr rfl (rd_ld na_3 rfl (Rdc.cl1 (by repeat constructor) rfl)) ?_)))
 refine Las rfl rfl (Lnt (Gsr (Las rfl rfl (Lnt (Gs.block (Gs.loop1 (fun s : Nat × Int × List (Part × Int) => s.1 ≤ 6 ∧ s.2.1 = key.q / 4 ^ s.1 ∧ ∀ p, cv s.2.2 p = cv C p + if onP key p ∧ 5 - p.l < s.1 then by' else 0) (fun s => [(0, ptr b), (2, int by'), (4, ptr kb), (6, int s.2.1), (7, int (5 - (s.1 : Int)))]) (fun s => [cl b 158 (treeC m1 m2), mp partV int m2 s.2.2, cl kb 35 (keyC key)] ++ R) (fun s => 6 - s.1) (0, key.q, C) (⟨Nat.zero_le _, by simp, fun p => by rw [if_neg (by simp only [onP, Bool.and_eq_true, decide_eq_true_eq]; omega)]; exact (Int.add_zero _).symm⟩) (by repeat constructor) (by repeat constructor) (fun s hs => ?_)))))))
 obtain ⟨j, i, D⟩ := s
 obtain ⟨hj, hi, hD⟩ := hs
 dsimp only at hj hi hD ⊢
 refine Gs.seq (Gsr (Lmv rfl rfl (Lq rfl (pu_ge rfl rfl) (Lnt (Gs.cond rfl (fun hc0 => ?_) (fun hc0 => ?_))))))
 ·
  have hlt : j < 6 := by have := of_decide_eq_true hc0; omega
  have hi0 : 0 ≤ i := by rw [hi]; exact Int.ediv_nonneg hq (Int.le_of_lt (Int.pow_pos (by decide)))
  have hi1 : i ≤ 100000 := by rw [hi]; exact Int.le_trans (Int.ediv_le_self _ hq) hq2
  have hD0 := hD ⟨key.o, 5 - (j : Int), i⟩
  have hon : onP key ⟨key.o, 5 - (j : Int), i⟩ = true := by
    have h5 : (5 - (5 - (j : Int))).toNat = j := by omega
    simp only [onP, h5, Bool.and_eq_true, decide_eq_true_eq]
    exact ⟨⟨⟨trivial, by omega⟩, by omega⟩, hi⟩
  have hC0 := hC ⟨key.o, 5 - (j : Int), i⟩ hon
  have hnow : cv D ⟨key.o, 5 - (j : Int), i⟩ = cv C ⟨key.o, 5 - (j : Int), i⟩ := by rw [hD0, if_neg (by simp only [onP, Bool.and_eq_true, decide_eq_true_eq]; omega)]; omega
  have hcv : -1000000 ≤ (mget D ⟨key.o, 5 - (j : Int), i⟩).getD 0 ∧ (mget D ⟨key.o, 5 - (j : Int), i⟩).getD 0 ≤ 1000000 := by have : (mget D ⟨key.o, 5 - (j : Int), i⟩).getD 0 = cv C ⟨key.o, 5 - (j : Int), i⟩ := hnow; omega
  have hnext := count_step hj hlt hi hD hnow
  have hdiv : IntKind.i64.wrap (i.tdiv 4) = key.q / 4 ^ (j + 1) := by
    rw [Int.tdiv_eq_ediv_of_nonneg hi0, wrap_in (by omega) (by omega), hi, Int.pow_succ, Int.ediv_ediv, if_neg (fun h => by have := Int.pow_pos (n := 4) (m := j) (by decide); omega), Int.sub_zero]
  refine Gs.skip (Gn (Gs.seq (Gs.block (Gs.seq (Gs.regD mixed (by kernel_rfl) (Rmv 0 rfl (by kernel_rfl) rfl (Rq 1 rfl (by kernel_rfl) (by first | exact pu_nil rfl | exact pu_nilF rfl) ?_)))))))
  refine Rq 2 rfl (by kernel_rfl) (pu_fa fa_158_1 rfl) (Rr 3 rfl (by kernel_rfl) (rd_ld na_156 rfl (Rdc.cl1 (by repeat constructor) rfl)) ?_)
  refine Rq 4 rfl (by kernel_rfl) (pu_fa fa_35_0 rfl) (Rr 5 rfl (by kernel_rfl) (rd_ld na_3 rfl (Rdc.cl1 (by repeat constructor) rfl)) ?_)
  refine Rmv 6 rfl (by kernel_rfl) rfl (Rmv 7 rfl (by kernel_rfl) rfl (Rq 8 rfl (by kernel_rfl) (pu_build bd_223 (by repeat constructor) rfl) ?_))
  refine Rr 9 rfl (by kernel_rfl) (rd_lookE rfl rfl (by first | (apply LkH.mp (enck := partV) (encv := int) (m := D) (k := ⟨key.o, 5 - (j : Int), i⟩) (z := 0) Tryz.underlying156 kt_223 zvk_3; (repeat constructor); done) | (apply LkH.mpS (enck := partV) (encv := int) (m := D) (k := ⟨key.o, 5 - (j : Int), i⟩) (z := 0) Tryz.underlying156 kt_223 zvk_3; (repeat constructor); done))) ?_
  refine Rmv 10 rfl (by kernel_rfl) rfl (Rq 11 rfl (by kernel_rfl) (pu_addI (z := (mget D ⟨key.o, 5 - (j : Int), i⟩).getD 0 + by') rfl rfl rfl (by omega) (by omega)) ?_)
  refine Rg.one (by kernel_rfl) (Stp.acR 12 [9] rfl rfl (by kernel_rfl) trivial (ac_mapEntry (enck := partV) (encv := int) (m := D) (k := ⟨key.o, 5 - (j : Int), i⟩) (z := 0) Tryz.underlying156 kt_223 zvk_3 rfl rfl (by repeat constructor)) (by rintro _ _ ⟨st, rfl, rfl⟩; exact (Reads.cons rfl rfl rfl trivial rfl (rd_lookE rfl rfl (by first | (apply LkH.mp (enck := partV) (encv := int) (m := D) (k := ⟨key.o, 5 - (j : Int), i⟩) (z := 0) Tryz.underlying156 kt_223 zvk_3; (repeat constructor); done) | (apply LkH.mpS (enck := partV) (encv := int) (m := D) (k := ⟨key.o, 5 - (j : Int), i⟩) (z := 0) Tryz.underlying156 kt_223 zvk_3; (repeat constructor); done))) Reads.nil)) ?_)
  rintro _ _ ⟨st, rfl, rfl⟩
  refine Rq 13 rfl (by kernel_rfl) (pu_extract rfl rfl) (Rg.one (by kernel_rfl) (Stp.ac0 14 rfl rfl (by kernel_rfl) trivial (ac_entryStore (enck := partV) (encv := int) (m := D) (k := ⟨key.o, 5 - (j : Int), i⟩) (z := 0) (v := (mget D ⟨key.o, 5 - (j : Int), i⟩).getD 0 + by') rfl rfl rfl (by repeat constructor))  ?_))
  rintro _ _ rfl
  refine Rg.end (by kernel_rfl) (Gn (Gs.reg (Lmv rfl rfl (Lq rfl (pu_quo rfl rfl (by omega)) (Las rfl rfl (Lnil ?_))))))
  rw [hdiv]
  refine Gs.blk_n (Gn (Gs.reg (Lmv rfl rfl (Lq rfl (pu_subI (z := 5 - ((j + 1 : Nat) : Int)) rfl rfl (by omega) (by omega) (by omega)) ?_))))
  refine Las rfl rfl (Lnt ?_)
  exact Ag (j + 1, key.q / 4 ^ (j + 1), mput D ⟨key.o, 5 - (j : Int), i⟩ ((mget D ⟨key.o, 5 - (j : Int), i⟩).getD 0 + by')) ⟨by show j + 1 ≤ 6; omega, rfl, hnext⟩ (by show 6 - (j + 1) < 6 - j; omega)
 have hge : j = 6 := by have := of_decide_eq_false hc0; omega
 have hfin : ∀ p, cv D p = cv C p + if onP key p then by' else 0 := fun p => by
   rw [hD p]
   congr 1
   by_cases h : onP key p = true
   · rw [if_pos h, if_pos ⟨h, by simp only [onP, Bool.and_eq_true, decide_eq_true_eq] at h; omega⟩]
   · rw [if_neg h, if_neg (fun h' => h h'.1)]
 refine Gs.exit (Gx (Gx (Gs.blk_hit (Gs.fin_n ?_))))
 exact Gs.fin0 Tryz.results103 _ (⟨D, rfl, rfl, hfin⟩) (by repeat constructor)
end Go.Proofs.YtflfhpokmidnmaaGreatDoor
