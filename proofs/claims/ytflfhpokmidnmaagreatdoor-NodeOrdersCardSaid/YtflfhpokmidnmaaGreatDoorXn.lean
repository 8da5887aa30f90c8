/- What the closing leans on: part 14. -/
import Derived.Test.YtflfhpokmidnmaaGreatDoorXm
import Derived.Test.YtflfhpokmidnmaaGreatDoorXd
import Derived.Test.YtflfhpokmidnmaaGreatDoorXl
namespace Go.Sl
open Go
theorem Gs.toA {w0 : World} {n : Nat} {env : Env} {H : List HProp} {X : Act → World → Prop} {A B : HProp} (i : ∀ h, A h → B h) (g : Gs w0 n env (B :: H) X) : Gs w0 n env (A :: H) X := fun a w e s => g a w e (s.ent i)
end Go.Sl
namespace Go.Proofs.YtflfhpokmidnmaaGreatDoor
open Go Go.Sl Go.Gv Go.Kv Go.Po Go.Ix Go.Qu Go.Shelf Go.Dv Go.Bst
set_option maxRecDepth 100000
def recsK (s : StM) : List Rec := ofR s.rs (lackK s.v s.w s.w)
theorem lackK_mem {n : Nat} {s : StM} (h : OkM n s) {k : Key} : k ∈ lackK s.v s.w s.w ↔ k ∈ s.rs.map Rec.key := by
 unfold lackK
 rw [lackN_mem, StOk.keys h k, StOk.v h]
 constructor
 · rintro ⟨o, h1, h2, h3, h4⟩
   rw [topAt_self] at h3
   exact ⟨o, h1, h2, h3, h4⟩
 · rintro ⟨o, h1, h2, h3, h4⟩
   exact ⟨o, h1, h2, by rw [topAt_self]; exact h3, h4⟩
theorem ofR_keys {rs : List Rec} {ks : List Key} (h : ∀ k ∈ ks, k ∈ rs.map Rec.key) : (ofR rs ks).map Rec.key = ks := by
 unfold ofR
 rw [List.map_map]
 conv => rhs; rw [← List.map_id ks]
 refine List.map_congr_left fun k hk => ?_
 obtain ⟨r, hr, rfl⟩ := List.mem_map.1 (h k hk)
 show ((lookR rs r.key).getD Rec.zero).key = r.key
 cases hl : lookR rs r.key with
 | some x => exact (lookR_some hl).2
 | none => exact absurd (decide_eq_true rfl) (by have := List.find?_eq_none.1 hl r hr; exact this)
theorem ofR_mem {rs : List Rec} {ks : List Key} (h : ∀ k ∈ ks, k ∈ rs.map Rec.key) : ∀ r ∈ ofR rs ks, r ∈ rs := fun r hr => by
 unfold ofR at hr
 obtain ⟨k, hk, rfl⟩ := List.mem_map.1 hr
 obtain ⟨x, hx, rfl⟩ := List.mem_map.1 (h k hk)
 cases hl : lookR rs x.key with
 | some y => exact (lookR_some hl).1
 | none => exact absurd (decide_eq_true rfl) (by have := List.find?_eq_none.1 hl x hx; exact this)
theorem ascK_nodup {ks : List Key} (h : AscK ks) : ks.Nodup := h.imp fun {a b} hab e => by rw [e, before_irr] at hab; cases hab
theorem recsK_keys {n : Nat} {s : StM} (h : OkM n s) : (recsK s).map Rec.key = lackK s.v s.w s.w := ofR_keys fun _ hk => (lackK_mem h).1 hk
theorem recsK_mem {n : Nat} {s : StM} (h : OkM n s) : ∀ r ∈ recsK s, r ∈ s.rs := ofR_mem fun _ hk => (lackK_mem h).1 hk
theorem nodup_of_map {α β : Type} (f : α → β) {l : List α} (h : (l.map f).Nodup) : l.Nodup := (List.pairwise_map.1 h).imp fun hne e => hne (congrArg f e)
theorem recsK_perm {n : Nat} {s : StM} (h : OkM n s) : List.Perm (recsK s) s.rs := by
 have hk := recsK_keys h
 have hn : ((recsK s).map Rec.key).Nodup := by rw [hk]; exact ascK_nodup (lackK_asc _ _ _)
 refine (List.perm_ext_iff_of_nodup (nodup_of_map Rec.key hn) (nodup_of_map Rec.key (StOk.nd h))).2 fun r => ⟨recsK_mem h r, fun hr => ?_⟩
 have : r.key ∈ (recsK s).map Rec.key := by rw [hk, lackK_mem h]; exact List.mem_map.2 ⟨r, hr, rfl⟩
 obtain ⟨x, hx, hxk⟩ := List.mem_map.1 this
 rw [← key_inj (StOk.nd h) (recsK_mem h x hx) hr hxk]; exact hx
theorem recsK_len {n : Nat} {s : StM} (h : OkM n s) : (recsK s).length = s.rs.length := (recsK_perm h).length_eq
def lastR (rs : List Rec) : Int × Int := rs.foldl (fun t r => maxS [t, (r.w, r.c)]) (0, 0)
theorem lastR_take {rs : List Rec} {i : Nat} {r : Rec} (h : rs[i]? = some r) : lastR (rs.take (i + 1)) = maxS [lastR (rs.take i), (r.w, r.c)] := by
 unfold lastR; rw [List.take_add_one, h, List.foldl_append]; rfl
theorem rec_stamp {r : Rec} (h : recB r = true) : stampB r.w r.c = true := by
 unfold recB at h
 simp only [Bool.and_eq_true] at h
 exact h.1.2
theorem lastR_ok : ∀ (rs : List Rec), (∀ r ∈ rs, recB r = true) → clkB (lastR rs) = true := fun rs h => by
 have : ∀ (rs : List Rec) (t : Int × Int), clkB t = true → (∀ r ∈ rs, recB r = true) → clkB (rs.foldl (fun t r => maxS [t, (r.w, r.c)]) t) = true := by
   intro rs
   induction rs with
   | nil => intro t ht _; exact ht
   | cons r rs ih =>
     intro t ht hr
     refine ih _ ?_ fun x hx => hr x (by simp [hx])
     show clkB (maxS [t, (r.w, r.c)]) = true
     rw [max2]
     exact topC_ok (rec_stamp (hr r (by simp))) ht
 exact this rs (0, 0) (by decide) h
theorem shP_perm {x : Nat} {l rs : List Rec} (p : List.Perm l rs) : ∀ h, shP x l h → shP x rs h := fun _ ⟨y, a⟩ => ⟨⟨y.1, y.2.trans p⟩, a⟩
theorem treP_perm {x : Nat} {l rs : List Rec} (p : List.Perm l rs) : ∀ h, treP x l h → treP x rs h := fun _ ⟨y, a⟩ => ⟨⟨y.1, y.2.trans p⟩, a⟩
theorem openOk_spec {d : Nat} {n most : Int} {xs : List Cs} {Tx : HProp} (hT : RMs Tx) (h1 : 1 ≤ n) (h8 : n ≤ 8) (h : CsOk n xs) (hl : xs.length ≤ 900) (hk : ∀ x ∈ xs, x.k < 98) (hr : xs.filterMap after = [] → ((layE (zeroB n)).length : Int) ≤ most) :
   Ct Tryz.prog 53 [ptr d, int n] [drv d most (xs.map csF), Tx]
     (fun v hs => ∃ b a c es made ys, v = .tuple #[ptr b, .slice a es.length c, int 0] ∧ (St n made ys ∧ OpRel n xs made ys ∧ plainV es = flatS ys) ∧ hs = [lgr b d n ⟨made, ys.map (segP n)⟩, drv d most (ys.map segF), Tx, elO a c es]) := by
 have hsort : sortB (names (xs.map csF)) = (xs.map Cs.k).map nameK := sort_names (k := Cs.k) (fun _ => rfl) h.asc fun x hx => by have := hk x hx; omega
 have htop : topK (xs.map Cs.k) ≤ 97 := h.top fun x hx => by have := hk x hx; omega
 refine (open_spec (most := most) hT h1 h8 (by rw [List.length_map]; omega) hsort (fun k hkk => by
   obtain ⟨x, hx, rfl⟩ := List.mem_map.1 hkk
   exact hk x hx)).mono fun v hs hh => ?_
 by_cases hne : xs.filterMap after = []
 · have hr := hr hne
   have hA := openA_none (most := most) h hne
   have hE := app_new (most := most) (n := n) (k := topK (xs.map Cs.k) + 1) (by omega)
   rw [if_neg (by omega)] at hE
   rw [if_pos hE, app_newL (by omega) (by omega), ← (new_maps n (topK (xs.map Cs.k) + 1)).2] at hA
   rw [hA] at hh
   rcases hh with ⟨-, b, a, c, es, e1, e2, e3⟩ | ⟨e, -⟩
   · exact ⟨b, a, c, es, _, _, e1, ⟨newSeg_st h1 h8 (Nat.succ_pos _), .inr ⟨hne, rfl, rfl⟩, by rw [e2]; rfl⟩, e3⟩
   · exact absurd rfl e
 · have hA := openA_cs (most := most) h hne
   rw [hA] at hh
   rcases hh with ⟨-, b, a, c, es, e1, e2, e3⟩ | ⟨e, -⟩
   · exact ⟨b, a, c, es, _, _, e1, ⟨⟨h.inv, hne⟩, .inl ⟨hne, rfl, rfl⟩, e2⟩, e3⟩
   · exact absurd rfl e
def openM (id n : Nat) (wall room : Int) (made : Nat) (ys : List Seg) : NdM := ⟨id, n, wall, room, lastR (recsK (playM n (flatS ys))), playM n (flatS ys), [], made, ys⟩
abbrev ndX (p : Nat → Value) (id n : Nat) (wall : Int) (u : Bool) (dk : Nat) : List Value := [p 0, p 1, p 2, p 3, p 4, p 5, int id, int n, int wall, .bool u, ptr dk]
theorem heldNew12 : Ct Tryz.prog 57 [int 12] [] (fun v hs => ∃ b m, v = ptr b ∧ hs = [cl b 136 (heldC 12 m), mp keyV recV m (ents [])]) :=
 (new_specH 12).mono fun v hs h => by
   rcases h with ⟨h, -⟩ | h
   · omega
   · exact h.2.2
def stepsI (n : Nat) (es : List EntP) (i : Nat) : StM := (es.take i).foldl stepM (raiM (zeroM n) ((es.head?.map EntP.v).getD []))
theorem stepsI_succ {n : Nat} {es : List EntP} {i : Nat} {e : EntP} (h : es[i]? = some e) : stepsI n es (i + 1) = stepM (stepsI n es i) e := by
 unfold stepsI; rw [List.take_add_one, h, List.foldl_append]; rfl
theorem stepsI_ok (n : Nat) (es : List EntP) (i : Nat) : OkM n (stepsI n es i) := OkM.steps _ ((OkM.zero n).rai _)
theorem nopen_spec {h0 : Hp} (T : TabX h0) (b : Nat) (p : Nat → Value) (id n : Nat) (wall room : Int) (u : Bool) (dk : Nat) {cs : List Cs} (h1 : 1 ≤ n) (h8 : n ≤ 8) (h : CsOk n cs) (hl : cs.length ≤ 900) (hk : ∀ x ∈ cs, x.k < 98)
   (hr : cs.filterMap after = [] → ((layE (zeroB n)).length : Int) ≤ room) (hsz : ∀ made ys, OpRel n cs made ys → (playM n (flatS ys)).rs.length ≤ 700 ∧ (flatS ys).length ≤ 2000000) :
   Ct Tryz.prog 31 [ptr b] [cl b 76 (ndX p id n wall u dk), drv dk room (cs.map csF), ro h0]
     (fun v hs => ∃ q made ys, v = int 0 ∧ OpRel n cs made ys ∧ hs = ndL b q (openM id n wall room made ys) ++ [ro h0]) := by
 refine Cti Tryz.func31 (by kernel_rfl) 99 Tryz.ntmps31 rfl rfl fun w0 R => ?_
 refine Gsr (Las rfl rfl (Lnt (Gs.seq (Gs.regD mixed (by kernel_rfl) (Rmv 0 rfl (by kernel_rfl) rfl (Rq 1 rfl (by kernel_rfl) (by first | exact pu_nil rfl | exact pu_nilF rfl) ?_))))))
 refine Rq 2 rfl (by kernel_rfl) (pu_fa fa_76_5 rfl) (Rr 3 rfl (by kernel_rfl) (rd_ld na_40 rfl (Rdc.cl1 (by repeat constructor) rfl)) ?_)
 refine Rmv 4 rfl (by kernel_rfl) rfl (Rq 5 rfl (by kernel_rfl) (by first | exact pu_nil rfl | exact pu_nilF rfl) ?_)
 refine Rq 6 rfl (by kernel_rfl) (pu_fa fa_76_2 rfl) (Rr 7 rfl (by kernel_rfl) (rd_ld na_3 rfl (Rdc.cl1 (by repeat constructor) rfl)) ?_)
 refine Rg.one (by kernel_rfl) (Stp.ac 8 rfl rfl (by kernel_rfl) trivial (asC (openOk_spec (rms_ro T.1) (by omega) (by omega) h hl hk hr))  ?_)
 rintro _ _ ⟨_, ⟨lg, ea, ec, es, made, ys, rfl, ⟨hst, hop, hes⟩, rfl⟩, rfl⟩
 refine Rmv 9 rfl (by kernel_rfl) rfl (Rq 10 rfl (by kernel_rfl) (pu_extract rfl rfl) (Rq 11 rfl (by kernel_rfl) (pu_extract rfl rfl) (Rq 12 rfl (by kernel_rfl) (pu_extract rfl rfl) (Rq 13 rfl (by kernel_rfl) (pu_assign rfl) (Rq 14 rfl (by kernel_rfl) (pu_assign rfl) (Rq 15 rfl (by kernel_rfl) (pu_assign rfl) (Rg.end (by kernel_rfl) ?_)))))))
 have hsz := hsz made ys hop
 have hel : es.length = (flatS ys).length := by rw [← hes]; simp [plainV]
 have hne := flat_ne hst
 obtain ⟨e0, he0⟩ : ∃ e0, es[0]? = some e0 := by
   cases hc : es with
   | nil => rw [hc] at hel; exact (hne (List.length_eq_zero_iff.1 hel.symm)).elim
   | cons e r => exact ⟨e, rfl⟩
 have hpes : plainV es = flatS ys := hes
 have hhd : ((flatS ys).head?.map EntP.v).getD [] = e0.v.xs := by
   rw [← hes]
   cases hc : es with
   | nil => rw [hc] at he0; cases he0
   | cons e r => rw [hc] at he0; cases he0; rfl
 have hfin : stepsI n (flatS ys) (flatS ys).length = playM n (flatS ys) := by unfold stepsI; rw [List.take_length]; rfl
 have h00 : stepsI n (flatS ys) 0 = raiM (zeroM n) e0.v.xs := by unfold stepsI; rw [hhd]; rfl
 have hev := (erd_elO ea ec es).2
 refine Gs.slAddr ((erd_elO ea ec es).1.h (by repeat constructor)) fun eb eo hea => ?_
 obtain rfl := hea (by rintro rfl; cases he0)
 have hes0 : 0 < es.length := (List.getElem?_eq_some_iff.1 he0).1
 refine Gn (Gs.seq (Gsr (Lmv rfl rfl (Lq rfl (pu_ne rfl rfl) (Lnt (Gs.cond_ff rfl rfl (Gs.skip (Gn (Gsr (Lmv rfl rfl (Lq rfl (by first | exact pu_nil rfl | exact pu_nilF rfl) ?_)))))))))))
 refine Lq rfl (pu_fa fa_76_2 rfl) (Lr rfl (rd_ld na_3 rfl (Rdc.cl1 (by repeat constructor) rfl)) ?_)
 refine La rfl (asC (snewSt_spec n h1 h8)) ?_
 rintro _ _ ⟨_, ⟨st, rfl, rfl⟩, rfl⟩
 refine Lmv rfl rfl (La rfl (asC (snew_spec)) ?_)
 rintro _ _ ⟨_, ⟨sh, rfl, rfl⟩, rfl⟩
 refine La rfl (asC (treNew_spec)) ?_
 rintro _ _ ⟨_, ⟨tr, rfl, rfl⟩, rfl⟩
 refine La rfl (asC (heldNew12)) ?_
 rintro _ _ ⟨_, ⟨he, mh, rfl, rfl⟩, rfl⟩
 refine Lq rfl (pu_build bd_74 (by repeat constructor) rfl) ?_
 refine La rfl (ac_alloc zv_74 rfl) ?_
 rintro _ _ ⟨mb, rfl, rfl⟩
 refine Lac0 rfl trivial (ac_st sz_74 rfl rfl (by repeat constructor) rfl rfl rfl rfl) ?_
 rintro _ _ rfl
 refine Lnt (Gs.seq (Gs.regD mixed (by kernel_rfl) (Rq 0 rfl (by kernel_rfl) (pu_fa fa_74_0 rfl) (Rr 1 rfl (by kernel_rfl) (rd_ld na_67 rfl (Rdc.cl1 (by repeat constructor) rfl)) ?_))))
 refine Rmv 2 rfl (by kernel_rfl) rfl (Rq 3 rfl (by kernel_rfl) (pu_ia se_98 rfl rfl (by omega) (by omega)) (Rq 4 rfl (by kernel_rfl) (pu_fa fa_106_1 rfl) (Rr 5 rfl (by kernel_rfl) (rd_ld na_30 rfl (Rdc.elp 1 ((erd_elO _ ec es).1.h (by repeat constructor)) he0 rfl rfl)) ?_)))
 refine Rg.one (by kernel_rfl) (Stp.ac 6 rfl rfl (by kernel_rfl) trivial (asC (raise_spec (S := elO (some ⟨eb, eo, none⟩) ec es) st (zeroM n) (OkM.zero n) h1 h8 (hev e0 (List.mem_of_getElem? he0)).1))  ?_)
 rintro _ _ ⟨_, ⟨⟨e1, rfl⟩, rfl⟩, rfl⟩
 rw [← h00]
 refine Rg.end (by kernel_rfl) (Gn (Gs.seq (Gsr (Lmv rfl rfl (Lq rfl (pu_len Tryz.underlying98 rfl) (Lmv rfl rfl (Lnt (Gs.block (Gs.loop1 (fun i : Nat => i ≤ es.length) (fun i => [(0, ptr b), (3, ptr lg), (6, ptr mb), (45, .slice (some ⟨eb, eo, none⟩) es.length ec), (46, int es.length), (47, int i)]) (fun i => [cl b 76 (ndX p id n wall u dk), cl mb 74 [ptr st, .pointer none, ptr sh, ptr tr, ptr he, ptr lg], stA st (stepsI n (flatS ys) i).v (stepsI n (flatS ys) i).w (stepsI n (flatS ys) i).rs, shA sh [], tre tr [], cl he 136 (heldC 12 mh), mp keyV recV mh (ents []), lgr lg dk n ⟨made, ys.map (segP n)⟩, drv dk room (ys.map segF), elO (some ⟨eb, eo, none⟩) ec es, ro h0] ++ R) (fun i => es.length - i) 0 (Nat.zero_le _) (by repeat constructor) (by repeat constructor) (fun i hi => ?_))))))))))
 refine Gsr (Lq rfl (pu_lt rfl rfl) (Lnt (Gs.seq (Gs.cond rfl (fun hc1 => ?_) (fun hc1 => ?_)))))
 ·
  have hlt : i < es.length := by have := of_decide_eq_true hc1; omega
  obtain ⟨e, he⟩ : ∃ e, es[i]? = some e := ⟨es[i], by simp [hlt]⟩
  have hfe : (flatS ys)[i]? = some e.p := by rw [← hes, plainV, List.getElem?_map, he]; rfl
  have hsn := stepsI_succ (n := n) hfe
  have hoki := stepsI_ok n (flatS ys) i
  have hevi := hev e (List.mem_of_getElem? he)
  refine Gs.skip (Gn (Gs.seq (Gs.block (Gsr (Lq rfl (pu_ia se_98 rfl rfl (by omega) (by omega)) (Lr rfl (rd_lda ag_106 rfl (Rdc.el0 ((erd_elO _ ec es).1.h (by repeat constructor)) he rfl rfl) rfl) ?_))))))
  refine La rfl (ac_alloc zv_106 rfl) ?_
  rintro _ _ ⟨xb, rfl, rfl⟩
  refine Lac0 rfl trivial (ac_st sz_106 rfl rfl (by repeat constructor) rfl rfl rfl rfl) ?_
  rintro _ _ rfl
  refine Lnt (Gsr (Lq rfl (pu_fa fa_106_0 rfl) (Lr rfl (rd_ld na_3 rfl (Rdc.cl1 (by repeat constructor) rfl)) ?_)))
  refine Lq rfl (pu_eq rfl rfl) (Lnt (Gs.cond rfl (fun hc2 => ?_) (fun hc2 => ?_)))
  ·
   have hk2 : e.p.kind = 2 := of_decide_eq_true hc2
   have hst2 : stepsI n (flatS ys) (i + 1) = accM (stepsI n (flatS ys) i) e.r := by rw [hsn]; unfold stepM; rw [if_pos hk2]; rfl
   refine Gs.reg (Lq rfl (pu_fa fa_74_0 rfl) (Lr rfl (rd_ld na_67 rfl (Rdc.cl1 (by repeat constructor) rfl)) ?_))
   refine Lq rfl (pu_fa fa_106_3 rfl) (Lr rfl (rd_lda ag_50 rfl (Rdc.cl 5 (by repeat constructor) rfl) rfl) ?_)
   refine La rfl (asC (accept_spec T.1 st (stepsI n (flatS ys) i) hoki h8 e.r)) ?_
   rintro _ _ ⟨_, ⟨⟨e2, rfl⟩, rfl⟩, rfl⟩
   refine Lnil (Gs.blk_n (Gn (Gs.reg (Lq rfl (by first | exact pu_addI rfl rfl rfl (by omega) (by omega) | exact pu_add rfl rfl) ?_))))
   refine Lmv rfl rfl (Lnt ?_)
   exact Gs.again1 (i + 1) hlt (by show es.length - (i + 1) < es.length - i; omega) (by repeat constructor) (by simp only [hst2]; repeat constructor)
  have hk2 : ¬ e.p.kind = 2 := of_decide_eq_false hc2
  have hst2 : stepsI n (flatS ys) (i + 1) = raiM (stepsI n (flatS ys) i) e.w.xs := by rw [hsn]; unfold stepM; rw [if_neg hk2]; rfl
  refine Gs.reg (Lq rfl (pu_fa fa_74_0 rfl) (Lr rfl (rd_ld na_67 rfl (Rdc.cl1 (by repeat constructor) rfl)) ?_))
  refine Lq rfl (pu_fa fa_106_2 rfl) (Lr rfl (rd_ld na_30 rfl (Rdc.cl1 (by repeat constructor) rfl)) ?_)
  refine La rfl (asC (raise_spec (S := elO (some ⟨eb, eo, none⟩) ec es) st (stepsI n (flatS ys) i) hoki h1 h8 hevi.2)) ?_
  rintro _ _ ⟨_, ⟨⟨e2, rfl⟩, rfl⟩, rfl⟩
  refine Lnil (Gs.blk_n (Gn (Gs.reg (Lq rfl (by first | exact pu_addI rfl rfl rfl (by omega) (by omega) | exact pu_add rfl rfl) ?_))))
  refine Lmv rfl rfl (Lnt ?_)
  exact Gs.again1 (i + 1) hlt (by show es.length - (i + 1) < es.length - i; omega) (by repeat constructor) (by simp only [hst2]; repeat constructor)
 have hge : i = es.length := by have := of_decide_eq_false hc1; omega
 rw [hge, hel, hfin]
 obtain ⟨S1, hS1⟩ : ∃ S1, S1 = playM n (flatS ys) := ⟨_, rfl⟩
 have hok1 : OkM n S1 := by rw [hS1]; exact OkM.play n _
 rw [← hS1] at hsz ⊢
 have hkeys := recsK_keys hok1
 have hrl := recsK_len hok1
 have hrm := recsK_mem hok1
 refine Gs.exit (Gx (Gx (Gs.blk_hit (Gn (Gsr (La rfl (ac_alloc zv_48 rfl) ?_))))))
 rintro _ _ ⟨lb, rfl, rfl⟩
 refine Lnt (Gs.seq (Gsr (Lq rfl (pu_fa fa_74_0 rfl) (Lr rfl (rd_ld na_67 rfl (Rdc.cl1 (by repeat constructor) rfl)) ?_))))
 refine La rfl (asC (srecords_spec st hok1 h8)) ?_
 rintro _ _ ⟨_, ⟨ra, rc, rfl, rfl⟩, rfl⟩
 refine Lq rfl (pu_len Tryz.underlying32 rfl) (Lmv rfl rfl (Lnil (Gs.slAddr (xs := recsK S1) (SlH.own (E := 50) (enc := recC) (a := ra) (c := rc) (by repeat constructor)) fun ab ao ha => ?_)))
 refine Gs.takes (As := [shA sh []]) (by repeat constructor) (Gs.toA (shP_of (List.Perm.refl [])) ?_)
 refine Gs.takes (As := [tre tr []]) (by repeat constructor) (Gs.toA (treP_of (List.Perm.refl [])) ?_)
 refine Gn (Gs.block (Gs.loop1 (fun i : Nat => i ≤ (recsK S1).length) (fun i => [(0, ptr b), (6, ptr mb), (9, ptr lb), (67, .slice ra (recsK S1).length rc), (68, int (recsK S1).length), (69, int i)]) (fun i => [cl b 76 (ndX p id n wall u dk), cl mb 74 [ptr st, .pointer none, ptr sh, ptr tr, ptr he, ptr lg], cl lb 48 (clC (lastR ((recsK S1).take i))), stA st S1.v S1.w S1.rs, shP sh ((recsK S1).take i), treP tr ((recsK S1).take i), sl 50 5 recC ra rc (recsK S1), cl he 136 (heldC 12 mh), mp keyV recV mh (ents []), lgr lg dk n ⟨made, ys.map (segP n)⟩, drv dk room (ys.map segF), ro h0] ++ R) (fun i => (recsK S1).length - i) 0 (Nat.zero_le _) (by repeat constructor) (by repeat constructor) (fun i hi => ?_)))
 refine Gsr (Lq rfl (pu_lt rfl rfl) (Lnt (Gs.seq (Gs.cond rfl (fun hc3 => ?_) (fun hc3 => ?_)))))
 ·
  have hlt : i < (recsK S1).length := by have := of_decide_eq_true hc3; omega
  obtain ⟨x, hx⟩ : ∃ x, (recsK S1)[i]? = some x := ⟨(recsK S1)[i], by simp [hlt]⟩
  obtain rfl := ha (by intro e; rw [e] at hlt; simp at hlt)
  have hxm := List.mem_of_getElem? hx
  have hxb := StOk.may hok1 x (hrm x hxm)
  have hlst := lastR_take hx
  have htk : (recsK S1).take i ++ [x] = (recsK S1).take (i + 1) := by rw [List.take_add_one, hx]; rfl
  have hni : x.key ∉ ((recsK S1).take i).map Rec.key := by
    have hnd : ((recsK S1).map Rec.key).Nodup := by rw [hkeys]; exact ascK_nodup (lackK_asc _ _ _)
    rw [← List.take_append_drop i (recsK S1), List.map_append, List.nodup_append] at hnd
    intro hc
    refine hnd.2.2 _ hc x.key (List.mem_map.2 ⟨x, ?_, rfl⟩) rfl
    rw [List.drop_eq_getElem_cons hlt]
    rw [List.getElem?_eq_getElem hlt] at hx
    cases hx; exact List.mem_cons_self ..
  have htl : ((recsK S1).take i).length ≤ 700 := by rw [List.length_take]; omega
  refine Gs.skip (Gn (Gs.seq (Gs.block (Gsr (Lq rfl (pu_ia se_32 rfl rfl (by omega) (by omega)) (Lr rfl (rd_lda ag_50 rfl (Rdc.el0 (SlH.own (by repeat constructor)) hx rfl rfl) rfl) ?_))))))
  refine La rfl (ac_alloc zv_50 rfl) ?_
  rintro _ _ ⟨xb, rfl, rfl⟩
  refine Lac0 rfl trivial (ac_st sz_50 rfl rfl (by repeat constructor) rfl rfl rfl rfl) ?_
  rintro _ _ rfl
  refine Lnt (Gsr (Lr rfl (rd_lda ag_48 rfl (Rdc.cl 2 (by repeat constructor) rfl) rfl) ?_))
  refine Lq rfl (pu_fa fa_50_1 rfl) (Lr rfl (rd_lda ag_48 rfl (Rdc.cl 2 (by repeat constructor) rfl) rfl) ?_)
  refine La rfl (ac_lit encC_48 ([lastR ((recsK S1).take i), (x.w, x.c)]) et_163 ek_48 rfl (by repeat constructor) rfl rfl (by decide)) ?_
  rintro _ _ ⟨a76, rfl, rfl⟩
  refine La rfl (asC (smax_spec (S := sl 48 2 clC (some ⟨a76, 0, none⟩) 2 [lastR ((recsK S1).take i), (x.w, x.c)]) (xs := [lastR ((recsK S1).take i), (x.w, x.c)]) Srd.own (Nat.le_of_ble_eq_true rfl))) ?_
  rintro _ _ ⟨_, ⟨rfl, rfl⟩, rfl⟩
  rw [← hlst]
  refine Lac0 rfl trivial (ac_st sz_48 rfl rfl (by repeat constructor) rfl rfl rfl rfl) ?_
  rintro _ _ rfl
  refine Lnt (Gsr (Lq rfl (pu_fa fa_74_2 rfl) (Lr rfl (rd_ld na_69 rfl (Rdc.cl1 (by repeat constructor) rfl)) ?_)))
  refine Lr rfl (rd_lda ag_50 rfl (Rdc.cl 5 (by repeat constructor) rfl) rfl) ?_
  refine La rfl (ac_lit encC_50 ([x]) et_32 ek_50 rfl (by repeat constructor) rfl rfl (by decide)) ?_
  rintro _ _ ⟨a81, rfl, rfl⟩
  refine La rfl (asC (shPut_spec T sh ((recsK S1).take i) x hxb hni htl (some ⟨a81, 0, none⟩) 1)) ?_
  rintro _ _ ⟨_, ⟨⟨e2, rfl⟩, rfl⟩, rfl⟩
  rw [htk]
  refine Lnt (Gs.reg (Lq rfl (pu_fa fa_74_3 rfl) (Lr rfl (rd_ld na_70 rfl (Rdc.cl1 (by repeat constructor) rfl)) ?_)))
  refine Lr rfl (rd_lda ag_50 rfl (Rdc.cl 5 (by repeat constructor) rfl) rfl) ?_
  refine La rfl (ac_lit encC_50 ([x]) et_32 ek_50 rfl (by repeat constructor) rfl rfl (by decide)) ?_
  rintro _ _ ⟨a86, rfl, rfl⟩
  refine La rfl (asC (trPut_spec T tr ((recsK S1).take i) x hxb hni (by omega) (some ⟨a86, 0, none⟩) 1)) ?_
  rintro _ _ ⟨_, ⟨⟨e3, rfl⟩, rfl⟩, rfl⟩
  rw [htk]
  refine Lnil (Gs.blk_n (Gn (Gs.reg (Lq rfl (by first | exact pu_addI rfl rfl rfl (by omega) (by omega) | exact pu_add rfl rfl) ?_))))
  refine Lmv rfl rfl (Lnt ?_)
  exact Ag (i + 1) hlt (by show (recsK S1).length - (i + 1) < (recsK S1).length - i; omega)
 have hge : i = (recsK S1).length := by have := of_decide_eq_false hc3; omega
 rw [hge, List.take_length]
 have hlo : stampB (lastR (recsK S1)).1 (lastR (recsK S1)).2 = true := lastR_ok _ fun r hr => StOk.may hok1 r (hrm r hr)
 refine Gs.exit (Gx (Gx (Gs.blk_hit (Gn (Gsr (Lr rfl (rd_lda ag_48 rfl (Rdc.cl 2 (by repeat constructor) rfl) rfl) ?_))))))
 refine La rfl (asC (cnew_spec (lastR (recsK S1)).1 (lastR (recsK S1)).2 hlo)) ?_
 rintro _ _ ⟨_, ⟨cb, rfl, rfl⟩, rfl⟩
 refine Lq rfl (pu_fa fa_74_1 rfl) (Lac0 rfl trivial (ac_st sz_68 rfl rfl (by repeat constructor) rfl rfl rfl rfl) ?_)
 rintro _ _ rfl
 refine Lnt (Gsr (Lmv rfl rfl (Lmv rfl rfl (Lr rfl (rd_lda ag_74 rfl (Rdc.cl 6 (by repeat constructor) rfl) rfl) ?_))))
 refine Lq rfl (by first | exact pu_nil rfl | exact pu_nilF rfl) ?_
 refine Lq rfl (pu_fa fa_76_0 rfl) (Lac0 rfl trivial (ac_st sz_74 rfl rfl (by repeat constructor) rfl rfl rfl rfl) ?_)
 rintro _ _ rfl
 refine Lq rfl (by first | exact pu_nil rfl | exact pu_nilF rfl) ?_
 refine Lq rfl (pu_fa fa_76_4 rfl) (Lac0 rfl trivial (ac_st sz_4 rfl rfl (by repeat constructor) rfl rfl rfl rfl) ?_)
 rintro _ _ rfl
 refine Lnt (Gsr (Las rfl rfl (Lnt (Gs.ret ?_))))
 subst hS1
 refine Gs.takes (As := [shP sh (recsK _)]) (by repeat constructor) (Gs.toA (shP_perm (recsK_perm hok1)) ?_)
 refine Gs.takes (As := [treP tr (recsK _)]) (by repeat constructor) (Gs.toA (treP_perm (recsK_perm hok1)) ?_)
 exact Gs.fin1 Tryz.results31 rfl _ (⟨⟨st, cb, sh, tr, he, mh, lg, dk⟩, made, ys, rfl, hop, rfl⟩) (by repeat constructor)
end Go.Proofs.YtflfhpokmidnmaaGreatDoor
namespace Go.Proofs.YtflfhpokmidnmaaGreatDoor
open Go Go.Sl Go.Gv Go.Kv Go.Po Go.Ix Go.Qu Go.Shelf Go.Dv Go.Bst
set_option maxRecDepth 100000
theorem nsync_spec (b : Nat) (m : NdM) (h : NdOk m) (hm : m.made < 98) :
   Ct Tryz.prog 18 [ptr b] [ndA b m] (fun v hs => v = int 0 ∧ hs = [ndA b (syncM m)]) := by
 have hxl := h.log.len
 have h8 := h.n8
 have hwl := StOk.w h.log.ok
 obtain ⟨htr, -, -⟩ := trim_is h.log hm m.s.w
 refine Cti Tryz.func18 (by kernel_rfl) 25 Tryz.ntmps18 rfl rfl fun w0 R => ?_
 refine Gs.nd fun q => ?_
 refine Gsr (Las rfl rfl (Lnt (Gs.seq (Gsr (Lmv rfl rfl (La rfl (asC (ndown_spec b q m.id m.n m.wall)) ?_))))))
 rintro _ _ ⟨_, ⟨rfl, rfl⟩, rfl⟩
 refine Las rfl rfl (Lnt (Gsr (Lmv rfl rfl (Lq rfl (pu_ne rfl rfl) (Lnt (Gs.cond_ff rfl rfl (Gs.skip (Gn (Gsr (Lmv rfl rfl (Lq rfl (by first | exact pu_nil rfl | exact pu_nilF rfl) ?_)))))))))))
 refine Lq rfl (pu_fa fa_76_0 rfl) (Lq rfl (pu_fa fa_74_5 rfl) (Lr rfl (rd_ld na_72 rfl (Rdc.cl1 (by repeat constructor) rfl)) ?_))
 refine La rfl (asC (syncSt_spec (b := q.lg) (d := q.dk) (n := m.n) (most := m.room) (made := m.made) (xs := m.xs) (by omega))) ?_
 rintro _ _ ⟨_, ⟨rfl, rfl⟩, rfl⟩
 refine Las rfl rfl (Lnil ?_)
 rw [← syn_segP (m.n) m.xs]
 refine Gn (Gs.seq (Gs.regD mixed (by kernel_rfl) (Rmv 0 rfl (by kernel_rfl) rfl (Rq 1 rfl (by kernel_rfl) (by first | exact pu_nil rfl | exact pu_nilF rfl) ?_))))
 refine Rq 2 rfl (by kernel_rfl) (pu_fa fa_76_0 rfl) (Rq 3 rfl (by kernel_rfl) (pu_fa fa_74_5 rfl) (Rr 4 rfl (by kernel_rfl) (rd_ld na_72 rfl (Rdc.cl1 (by repeat constructor) rfl)) ?_))
 refine Rmv 5 rfl (by kernel_rfl) rfl (Rg.one (by kernel_rfl) (Stp.acR 6 [4] rfl rfl (by kernel_rfl) trivial (asC (nW_spec b q m.id m.n m.wall m.s.v m.s.w m.s.rs (by omega))) (by rintro _ _ ⟨_, ⟨wa, wc, rfl, rfl⟩, rfl⟩; exact (Reads.cons rfl rfl rfl trivial rfl (rd_ld na_72 rfl (Rdc.cl1 (by repeat constructor) rfl)) Reads.nil)) ?_))
 rintro _ _ ⟨_, ⟨wa, wc, rfl, rfl⟩, rfl⟩
 refine Rg.one (by kernel_rfl) (Stp.ac 7 rfl rfl (by kernel_rfl) trivial (asC (trim_spec (b := q.lg) (d := q.dk) (n := m.n) (most := m.room) (made := m.made) (ps := (m.xs.map syn).map (segP m.n)) (D := (m.xs.map syn).map segF) (U := sl 3 1 intC wa wc m.s.w) (w := m.s.w) Srd.own (by rw [List.length_map, List.length_map]; omega) (fun p hp => by obtain ⟨x, -, rfl⟩ := List.mem_map.1 hp; rw [show (segP m.n x).t = topsOf m.n x.es from rfl, tops_len]; omega)))  ?_)
 rintro _ _ ⟨_, ⟨rfl, rfl⟩, rfl⟩
 rw [htr]
 refine Rg.end (by kernel_rfl) (Gn (Gsr (Lmv rfl rfl (Las rfl rfl (Lnt (Gs.ret (Gs.takes (As := ndL b q (syncM m)) (by repeat constructor) (Gs.ndc q ?_))))))))
 exact Gs.fin1 Tryz.results18 rfl _ (⟨rfl, rfl⟩) (by repeat constructor)
structure NdD where
 p : Nat → Value
 dk : Nat
def ndD (b id n : Nat) (wall room : Int) (D : List Fl) : HProp := fun h => ∃ y : NdD, two (cl b 76 (ndX y.p id n wall false y.dk)) (drv y.dk room D) h
theorem Gs.ndd {w0 : World} {N : Nat} {env : Env} {H : List HProp} {X : Act → World → Prop} {b id n : Nat} {wall room : Int} {D : List Fl} (g : ∀ y : NdD, Gs w0 N env (cl b 76 (ndX y.p id n wall false y.dk) :: drv y.dk room D :: H) X) : Gs w0 N env (ndD b id n wall room D :: H) X :=
 Gs.ex (A := fun y : NdD => two (cl b 76 (ndX y.p id n wall false y.dk)) (drv y.dk room D)) fun y => Gs.two (g y)
theorem Gs.nddc {w0 : World} {N : Nat} {env : Env} {H : List HProp} {X : Act → World → Prop} {b id n : Nat} {wall room : Int} {D : List Fl} (y : NdD) (g : Gs w0 N env (ndD b id n wall room D :: H) X) : Gs w0 N env (cl b 76 (ndX y.p id n wall false y.dk) :: drv y.dk room D :: H) X :=
 Gs.toTwo (Gs.toA (fun h a => ⟨y, a⟩) g)
def memP (q : NdQ) : Nat → Value
 | 0 => ptr q.st
 | 1 => ptr q.ck
 | 2 => ptr q.sh
 | 3 => ptr q.tr
 | 4 => ptr q.he
 | _ => ptr q.lg
theorem ncrash_spec (b : Nat) (m : NdM) (st : Int) (hl : m.xs.length ≤ 900) (h0 : 0 ≤ st) (h1 : st ≤ 1000000) :
   Ct Tryz.prog 19 [ptr b, int st] [ndA b m] (fun v hs => v = int 0 ∧ hs = [ndD b m.id m.n m.wall m.room (crashL st (m.xs.map segF))]) := by
 refine Cti Tryz.func19 (by kernel_rfl) 20 Tryz.ntmps19 rfl rfl fun w0 R => ?_
 refine Gs.nd fun q => ?_
 refine Gsr (Las rfl rfl (Lnt (Gs.seq (Gsr (Lmv rfl rfl (La rfl (asC (ndown_spec b q m.id m.n m.wall)) ?_))))))
 rintro _ _ ⟨_, ⟨rfl, rfl⟩, rfl⟩
 refine Las rfl rfl (Lnt (Gsr (Lmv rfl rfl (Lq rfl (pu_ne rfl rfl) (Lnt (Gs.cond_ff rfl rfl (Gs.skip (Gn (Gsr (Lmv rfl rfl (Lq rfl (by first | exact pu_nil rfl | exact pu_nilF rfl) ?_)))))))))))
 refine Lq rfl (pu_fa fa_76_5 rfl) (Lr rfl (rd_ld na_40 rfl (Rdc.cl1 (by repeat constructor) rfl)) ?_)
 refine Lmv rfl rfl (La rfl (asC (crash_spec q.dk m.room (m.xs.map segF) st (by rw [List.length_map]; omega) (by omega) (by omega))) ?_)
 rintro _ _ ⟨_, ⟨rfl, rfl⟩, rfl⟩
 refine Lnt (Gsr (Lmv rfl rfl (Lq rfl (by first | exact pu_nil rfl | exact pu_nilF rfl) ?_)))
 refine Lq rfl (pu_fa fa_76_4 rfl) (Lac0 rfl trivial (ac_st sz_4 rfl rfl (by repeat constructor) rfl rfl rfl rfl) ?_)
 rintro _ _ rfl
 refine Lnt (Gsr (Las rfl rfl (Lnt (Gs.ret (Gs.takes (As := [cl b 76 (ndX (memP q) m.id m.n m.wall false q.dk), drv q.dk m.room (crashL st (m.xs.map segF))]) (by repeat constructor) (Gs.nddc ⟨memP q, q.dk⟩ ?_))))))
 exact Gs.fin1 Tryz.results19 rfl _ (⟨rfl, rfl⟩) (by repeat constructor)
theorem nrestart_spec {h0 : Hp} (T : TabX h0) (b id n : Nat) (wall room : Int) {cs : List Cs} (h1 : 1 ≤ n) (h8 : n ≤ 8) (h : CsOk n cs) (hl : cs.length ≤ 900) (hk : ∀ x ∈ cs, x.k < 98)
   (hr : cs.filterMap after = [] → ((layE (zeroB n)).length : Int) ≤ room) (hsz : ∀ made ys, OpRel n cs made ys → (playM n (flatS ys)).rs.length ≤ 700 ∧ (flatS ys).length ≤ 2000000) :
   Ct Tryz.prog 20 [ptr b] [ndD b id n wall room (cs.map csF), ro h0]
     (fun v hs => ∃ made ys, v = int 0 ∧ OpRel n cs made ys ∧ hs = [ndA b (openM id n wall room made ys), ro h0]) := by
 refine Cti Tryz.func20 (by kernel_rfl) 13 Tryz.ntmps20 rfl rfl fun w0 R => ?_
 refine Gs.ndd fun y => ?_
 refine Gsr (Las rfl rfl (Lnt (Gs.seq (Gs.block (Gsr (Lmv rfl rfl (Lq rfl (pu_eqN Tryz.underlying26 rfl rfl) (Las rfl rfl (Lnt (Gs.cond_ff rfl rfl (Gsr ?_)))))))))))
 refine Lmv rfl rfl (Lq rfl (by first | exact pu_nil rfl | exact pu_nilF rfl) ?_)
 refine Lq rfl (pu_fa fa_76_4 rfl) (Lr rfl (rd_ld na_4 rfl (Rdc.cl1 (by repeat constructor) rfl)) ?_)
 refine Las rfl rfl (Lnt (Gs.cond_ff rfl rfl (Gs.skip (Gs.blk_n (Gn (Gsr (Lmv rfl rfl (La rfl (asC (nopen_spec T b y.p id n wall room false y.dk h1 h8 h hl hk hr hsz)) ?_))))))))
 rintro _ _ ⟨_, ⟨q, made, ys, rfl, hop, rfl⟩, rfl⟩
 refine Las rfl rfl (Lnt (Gs.ret (Gs.takes (As := ndL b q (openM id n wall room made ys)) (by repeat constructor) (Gs.ndc q ?_))))
 exact Gs.fin1 Tryz.results20 rfl _ (⟨made, ys, rfl, hop, rfl⟩) (by repeat constructor)
def newM (id n : Nat) (room : Int) : NdM := ⟨id, n, 0, room, (0, 0), zeroM n, [], 1, [newSeg n 1]⟩
theorem recsK_zero (n : Nat) : recsK (zeroM n) = [] := by
 have := recsK_perm (OkM.zero n)
 exact List.Perm.eq_nil this
theorem openM_new {id n : Nat} (h1 : 1 ≤ n) (h8 : n ≤ 8) (room : Int) : openM id n 0 room 1 [newSeg n 1] = newM id n room := by
 have hf : flatS [newSeg n 1] = [zeroB n] := by simp [flatS, newSeg]
 unfold openM newM
 rw [hf, zero_play n h1 h8, recsK_zero]; rfl
theorem newM_ok {id n : Nat} (h1 : 1 ≤ n) (h8 : n ≤ 8) (hid : id < n) {room : Int} (hr : ((layE (zeroB n)).length : Int) ≤ room) (hr2 : room ≤ 1048576) : NdOk (newM id n room) :=
 ⟨h1, h8, hid, new_log h1 h8 (Nat.le_refl _), rfl, rfl, by show 0 ≤ 12; omega, (fun r h => by cases h), by
   have e3 : layS (newSeg n 1).es = layE (zeroB n) := by simp [newSeg, layS]
   show (usedS [newSeg n 1] : Int) ≤ room
   rw [used_one, e3]; exact hr, hr2⟩
theorem nnew_ok {h0 : Hp} (T : TabX h0) {id n : Nat} {room : Int} (h1 : 1 ≤ n) (h8 : n ≤ 8) (hid : id < n) (hr : ((layE (zeroB n)).length : Int) ≤ room) (hr2 : room ≤ 1048576) :
   Ct Tryz.prog 10 [int id, int n, int room] [ro h0] (fun v hs => ∃ b, v = .tuple #[ptr b, int 0] ∧ hs = [ndA b (newM id n room), ro h0]) := by
 have hcs : CsOk n [] := ⟨List.Pairwise.nil, (fun x hx => by cases hx), (fun x hx => by cases hx), fun x hx => by cases hx⟩
 have hop : ∀ made ys, OpRel n [] made ys → ys = [newSeg n 1] ∧ made = 1 := fun made ys ho => by
   rcases ho with ⟨e, -⟩ | ⟨-, e1, e2⟩
   · exact absurd rfl e
   · exact ⟨e1, e2⟩
 refine Cti Tryz.func10 (by kernel_rfl) 45 Tryz.ntmps10 rfl rfl fun w0 R => ?_
 refine Gsr (Las rfl rfl (Las rfl rfl (Lnt (Gs.seq (Gsr (Lmv rfl rfl (Lq rfl (pu_lt rfl rfl) (LpuBf rfl rfl trivial (pu_move rfl) (decide_eq_false (by omega)) (Lpu rfl rfl ⟨_, rfl, rfl⟩ (pu_move rfl) (Lpu rfl rfl ⟨_, rfl, rfl⟩ (pu_gt rfl rfl) (Lpk rfl rfl rfl ?_)))))))))))
 refine LpuBf rfl rfl trivial (pu_move rfl) (decide_eq_false (by omega)) (Lpu rfl rfl ⟨_, rfl, rfl⟩ (pu_move rfl) (Lpu rfl rfl ⟨_, rfl, rfl⟩ (pu_lt rfl rfl) (Lpk rfl rfl rfl (LpuBf rfl rfl trivial (pu_move rfl) (decide_eq_false (by omega)) (Lpu rfl rfl ⟨_, rfl, rfl⟩ (pu_move rfl) (Lpu rfl rfl ⟨_, rfl, rfl⟩ (pu_move rfl) (Lpu rfl rfl ⟨_, rfl, rfl⟩ (pu_ge rfl rfl) (Lpk rfl rfl rfl (LpuBf rfl rfl trivial (pu_move rfl) (decide_eq_false (by omega)) (Lpu rfl rfl ⟨_, rfl, rfl⟩ (pu_move rfl) (Lpu rfl rfl ⟨_, rfl, rfl⟩ (pu_lt rfl rfl) ?_)))))))))))
 refine Lpk rfl rfl rfl (LpuBf rfl rfl trivial (pu_move rfl) (decide_eq_false (by omega)) (Lpu rfl rfl ⟨_, rfl, rfl⟩ (pu_move rfl) (Lpu rfl rfl ⟨_, rfl, rfl⟩ (pu_gt rfl rfl) (Lpk rfl rfl rfl (Lnt (Gs.cond_ff rfl (decide_eq_false (by omega)) (Gs.skip (Gn (Gsr (Lmv rfl rfl (Lmv rfl rfl ?_)))))))))))
 refine Lmv rfl rfl (La rfl (asC (drvNew_ok room (by omega) hr2)) ?_)
 rintro _ _ ⟨_, ⟨dk, rfl, rfl⟩, rfl⟩
 refine Lq rfl (pu_build bd_76 (by repeat constructor) rfl) ?_
 refine La rfl (ac_box rfl rfl) ?_
 rintro _ _ ⟨nb, rfl, rfl⟩
 refine Las rfl rfl (Lnt (Gs.seq (Gsr (Lmv rfl rfl (La rfl (asC (nopen_spec T nb (fun _ => .pointer none) id n 0 room false dk (cs := []) h1 h8 hcs (by decide) (fun x hx => by cases hx) (fun _ => hr) (fun made ys ho => by obtain ⟨rfl, rfl⟩ := hop made ys ho; rw [show flatS [newSeg n 1] = [zeroB n] by simp [flatS, newSeg], zero_play n h1 h8]; exact ⟨Nat.zero_le _, Nat.le_of_ble_eq_true rfl⟩))) ?_)))))
 rintro _ _ ⟨_, ⟨q, made, ys, rfl, ho, rfl⟩, rfl⟩
 refine Las rfl rfl (Lnil ?_)
 obtain ⟨rfl, rfl⟩ := hop made ys ho
 rw [openM_new h1 h8]
 refine Gn (Gsr (Lmv rfl rfl (Lq rfl (pu_ne rfl rfl) (Lnt (Gs.cond_ff rfl rfl (Gs.skip (Gn (Gsr (Lmv rfl rfl (Las rfl rfl (Las rfl rfl ?_)))))))))))
 refine Lnt (Gs.ret (Gs.takes (As := ndL nb q (newM id n room)) (by repeat constructor) (Gs.ndc q ?_)))
 exact Gs.fin2 Tryz.results10 rfl rfl _ (⟨nb, rfl, rfl⟩) (by repeat constructor)
end Go.Proofs.YtflfhpokmidnmaaGreatDoor
namespace Go.Proofs.YtflfhpokmidnmaaGreatDoor
open Go Go.Sl Go.Gv Go.Kv Go.Po Go.Ix Go.Qu Go.Shelf Go.Dv Go.Bst
set_option maxRecDepth 100000
theorem see_yes {l s : Int × Int} {now : Int} (hs : clkB s = true) (hw : clkW now = true) (hk : s.1 - now ≤ 1000) (h1 : l.2 < 65535) (h2 : s.2 < 65535) : (seeC l s now).2 = 0 ∧ (seeC l s now).1.2 ≤ max (max l.2 s.2 + 1) 0 := by
 have ht : (topC l s).2 ≤ max l.2 s.2 := by unfold topC; split <;> omega
 unfold seeC
 rw [if_pos (by rw [show stampB s.1 s.2 = true from hs, hw]; rfl), if_neg (by omega)]
 split
 · unfold setC; rw [if_neg (by show ¬ (65535 : Int) < 0; decide)]; exact ⟨rfl, by show (0 : Int) ≤ _; omega⟩
 · unfold setC
   rw [if_neg (by show ¬ 65535 < (topC l s).2 + 1; omega)]
   exact ⟨rfl, by show (topC l s).2 + 1 ≤ _; omega⟩
theorem add_yes {m : NdM} (h : NdOk m) {r : Rec} (hr : recB r = true) (ho : r.o < (m.n : Int)) (hu : (usedS m.xs : Int) + 190 ≤ m.room) : (addM m r).1 = 0 ∧ usedS (addM m r).2.xs ≤ usedS m.xs + 190 := by
 have hw := mayW_rec h.log.ok h.n1 h.n8 hr ho
 have h0 := wS_ok h.log.st hw hu
 have h1 := wS_used (most := m.room) (e := recE r) (v := m.s.v) (w := m.s.w) h.log.st
 unfold addM
 dsimp only
 rw [if_pos h0]
 exact ⟨rfl, h1⟩
theorem dropB_at {ws : List Int} {k : Key} (h : k.o.toNat < ws.length) : dropB ws k = decide (k.q ≤ at0 ws k.o.toNat) := by
 unfold dropB; rw [at0_get h]
theorem dropL_all {ws : List Int} {L : List Rec} (h : ∀ r ∈ L, r.o.toNat < ws.length ∧ at0 ws r.o.toNat < r.q) : dropL ws L = L := List.filter_eq_self.2 fun r hr => by
 obtain ⟨h1, h2⟩ := h r hr
 rw [dropB_at (k := r.key) h1]
 rw [show r.key.q = r.q from rfl, show r.key.o = r.o from rfl, decide_eq_false (by omega)]; rfl
structure Lay (m : NdM) (o : Nat) (S : Int → Prop) (lo : Int) : Prop where
 below : ∀ q, 1 ≤ q → q ≤ lo → S q
 held : ∀ r ∈ m.held, r.o = (o : Int) ∧ r.c = 0 ∧ r.w ≤ m.wall + 1000
 keys : ∀ q, (∃ r ∈ m.held, r.q = q) ↔ S q ∧ lo < q
structure Grew (m m' : NdM) (o : Nat) (S : Int → Prop) (c : Nat) (v v' : Int) : Prop where
 cnt : (c : Int) = v' - v
 le : v ≤ v'
 v : m'.s.v = m.s.v.set o v'
 w : m'.s.w = m.s.w
 len : m'.s.rs.length = m.s.rs.length + c
 lay : Lay m' o S v'
 gap : ¬ S (v' + 1)
 used : usedS m'.xs + 190 * m'.held.length ≤ usedS m.xs + 190 * (m.held.length + 1)
 clk : m'.clk.2 + m'.held.length ≤ m.clk.2 + m.held.length + 1
theorem chain_lay {o : Nat} {S : Int → Prop} : ∀ (k : Nat) {m : NdM} {r : Rec}, NdOk m → Nxt m r → r.o = (o : Int) → r.c = 0 → r.w ≤ m.wall + 1000 → m.held.length < k → Lay m o S r.q → (usedS m.xs : Int) + 190 * (m.held.length + 1) ≤ m.room → m.clk.2 + m.held.length + 1 ≤ 60000 →
   (chainM k m r).1.2 = 0 ∧ ∃ v', Grew m (chainM k m r).2 o S (chainM k m r).1.1 (r.q - 1) v'
 | 0, m, r, _, _, _, _, _, hk, _, _, _ => by omega
 | k + 1, m, r, h, hn, hro, hrc, hrw, hk, hl, hu, hc => by
   rw [chainM]
   dsimp only
   have hrb := recB_parts hn.may
   have hcl := clkB_iff.1 h.clk
   have hv := StOk.v h.log.ok
   have hon : o < m.n := by have := hn.o; omega
   have hrst : clkB (r.w, r.c) = true := rec_stamp hn.may
   obtain ⟨s1, s2⟩ := see_yes (l := m.clk) hrst h.wall (by show r.w - m.wall ≤ 1000; omega) (by omega) (by show r.c < 65535; omega)
   have s3 : (seeC m.clk (r.w, r.c) m.wall).1.2 ≤ m.clk.2 + 1 := by
     have : (r.w, r.c).2 = r.c := rfl
     rw [this] at s2; omega
   have hclk := seeC_ok h.clk (s := (r.w, r.c)) m.wall
   obtain ⟨c, hcc⟩ : ∃ c, c = seeC m.clk (r.w, r.c) m.wall := ⟨_, rfl⟩
   rw [← hcc] at s1 s3 hclk ⊢
   obtain ⟨m1, hm1⟩ : ∃ m1 : NdM, m1 = ⟨m.id, m.n, m.wall, m.room, c.1, m.s, m.held, m.made, m.xs⟩ := ⟨_, rfl⟩
   have h1 : NdOk m1 := by rw [hm1]; exact h.clock hclk
   have hn1 : Nxt m1 r := by rw [hm1]; exact ⟨hn.may, hn.o, hn.q⟩
   obtain ⟨p1, p2, p3, p4, p5, p6, p7, p8⟩ : m1.made = m.made ∧ m1.held = m.held ∧ m1.s = m.s ∧ m1.id = m.id ∧ m1.n = m.n ∧ m1.wall = m.wall ∧ m1.room = m.room ∧ m1.xs = m.xs := by rw [hm1]; exact ⟨rfl, rfl, rfl, rfl, rfl, rfl, rfl, rfl⟩
   rw [← hm1]
   rw [if_neg (fun hne => hne s1)]
   obtain ⟨a1, a2⟩ := add_yes h1 hn1.may hn1.o (by rw [p8, p7]; omega)
   rw [if_neg (fun hne => hne a1)]
   obtain ⟨e1, e2⟩ := addM_ok a1
   have hacc : accM m1.s r = ⟨m.s.v.set r.o.toNat r.q, m.s.w, m.s.rs ++ [r]⟩ := by rw [p3]; exact accM_yes hn.may (by have := hn.o; omega) hn.q
   have hot : r.o.toNat = o := by omega
   rw [hot] at hacc
   rw [hacc] at e1
   have hheld : (addM m1 r).2.held = m.held := by
     rw [e2, hacc, p2]
     refine dropL_all fun x hx => ?_
     obtain ⟨x1, -, -⟩ := hl.held x hx
     have x2 := (hl.keys x.q).1 ⟨x, hx, rfl⟩
     have xo : x.o.toNat = o := by omega
     refine ⟨by rw [List.length_set, xo]; omega, ?_⟩
     show at0 (m.s.v.set o r.q) x.o.toNat < x.q
     rw [xo, at0_set (by omega), if_pos rfl]
     exact x2.2
   have hnext := fun r2 => chain_next (r2 := r2) h1 hn1 hclk a1
   have hnexd := h1.nexted hn1 hclk
   have a3 := addM_pot h1 r
   rw [p4, p5, p6, p7] at hnexd
   simp only [p4, p5, p6, p7] at hnext
   rw [hheld] at hnext hnexd ⊢
   rw [p8] at a2
   rw [e1] at hnext hnexd ⊢
   cases hlk : look m.held ⟨r.o, r.q + 1⟩ with
   | none =>
     dsimp only
     have hno : ∀ x ∈ m.held, x.q ≠ r.q + 1 := fun x hx e => by
       have := List.find?_eq_none.1 hlk x hx
       refine this (decide_eq_true ?_)
       show (⟨x.o, x.q⟩ : Key) = _
       rw [(hl.held x hx).1, hro, e]
     have hdl : delL m.held ⟨r.o, r.q + 1⟩ = m.held := List.filter_eq_self.2 fun x hx => decide_eq_true fun e => hno x hx (congrArg Key.q e)
     rw [hdl]
     refine ⟨rfl, r.q, ⟨by show ((1 : Nat) : Int) = _; omega, by omega, rfl, rfl, by show (m.s.rs ++ [r]).length = _; rw [List.length_append]; rfl, ⟨hl.below, hl.held, hl.keys⟩, fun hs => ?_, ?_, ?_⟩⟩
     · obtain ⟨x, hx, hxq⟩ := (hl.keys (r.q + 1)).2 ⟨hs, by omega⟩
       exact hno x hx hxq
     · show usedS (addM m1 r).2.xs + 190 * m.held.length ≤ _; omega
     · show c.1.2 + (m.held.length : Int) ≤ _; omega
   | some r2 =>
     dsimp only
     obtain ⟨q1, q2⟩ := look_mem hlk
     have q3 : r2.o = r.o := congrArg Key.o q2
     have q4 : r2.q = r.q + 1 := congrArg Key.q q2
     have q5 := hl.held r2 q1
     have hlt := delL_less hlk
     obtain ⟨g1, g2⟩ := hnext r2 hlk
     obtain ⟨m2, hm2⟩ : ∃ m2 : NdM, m2 = ⟨m.id, m.n, m.wall, m.room, c.1, ⟨m.s.v.set o r.q, m.s.w, m.s.rs ++ [r]⟩, delL m.held ⟨r.o, r.q + 1⟩, (addM m1 r).2.made, (addM m1 r).2.xs⟩ := ⟨_, rfl⟩
     rw [← hm2] at g1 g2 ⊢
     have hh2 : m2.held = delL m.held ⟨r.o, r.q + 1⟩ := by rw [hm2]
     have hx2 : m2.xs = (addM m1 r).2.xs := by rw [hm2]
     have hs2 : m2.s = ⟨m.s.v.set o r.q, m.s.w, m.s.rs ++ [r]⟩ := by rw [hm2]
     have hc2 : m2.clk = c.1 := by rw [hm2]
     have hw2 : m2.wall = m.wall := by rw [hm2]
     have hr2 : m2.room = m.room := by rw [hm2]
     have hS2 : S (r.q + 1) := ((hl.keys (r.q + 1)).1 ⟨r2, q1, q4⟩).1
     have hlay2 : Lay m2 o S r2.q := by
       refine ⟨fun q h1 h2 => ?_, fun x hx => ?_, fun q => ?_⟩
       · by_cases e : q = r.q + 1
         · rw [e]; exact hS2
         · exact hl.below q h1 (by omega)
       · rw [hh2] at hx; rw [hw2]; exact hl.held x (delL_sub _ _ x hx)
       · rw [hh2, q4]
         constructor
         · rintro ⟨x, hx, rfl⟩
           obtain ⟨x1, x2⟩ := List.mem_filter.1 hx
           have x3 := (hl.keys x.q).1 ⟨x, x1, rfl⟩
           refine ⟨x3.1, ?_⟩
           have x4 : x.key ≠ ⟨r.o, r.q + 1⟩ := of_decide_eq_true x2
           have : x.q ≠ r.q + 1 := fun e => x4 (by show (⟨x.o, x.q⟩ : Key) = _; rw [(hl.held x x1).1, hro, e])
           omega
         · rintro ⟨h1, h2⟩
           obtain ⟨x, hx, rfl⟩ := (hl.keys q).2 ⟨h1, by omega⟩
           exact ⟨x, List.mem_filter.2 ⟨hx, decide_eq_true fun e => by have : x.q = r.q + 1 := congrArg Key.q e; omega⟩, rfl⟩
     obtain ⟨i1, v', i2⟩ := chain_lay k g1 g2 (by rw [q3]; exact hro) q5.2.1 (by rw [hw2]; exact q5.2.2) (by rw [hh2]; omega) hlay2 (by rw [hx2, hh2, hr2]; omega) (by rw [hc2, hh2]; omega)
     refine ⟨i1, v', ⟨?_, ?_, ?_, ?_, ?_, i2.lay, i2.gap, ?_, ?_⟩⟩
     · have := i2.cnt; rw [q4] at this; push_cast; omega
     · have := i2.le; omega
     · rw [i2.v, hs2, List.set_set]
     · rw [i2.w, hs2]
     · rw [i2.len, hs2, List.length_append]
       show m.s.rs.length + 1 + _ = _; omega
     · have := i2.used; rw [hx2, hh2] at this; omega
     · have := i2.clk; rw [hc2, hh2] at this; omega
theorem ing_lay {o : Nat} {S : Int → Prop} {m : NdM} {r : Rec} (h : NdOk m) (hr : recB r = true) (hro : r.o = (o : Int)) (hon : o < m.n) (hrc : r.c = 0) (hrw : r.w ≤ m.wall + 1000) (hl : Lay m o S (at0 m.s.v o)) (hg : ¬ S (at0 m.s.v o + 1)) (hnew : ¬ S r.q) (hhl : m.held.length < 12)
   (hu : (usedS m.xs : Int) + 190 * (m.held.length + 1) ≤ m.room) (hc : m.clk.2 + m.held.length + 1 ≤ 60000) :
   (ingM m r).1.2 = 0 ∧ ∃ v', Grew m (ingM m r).2 o (fun q => S q ∨ q = r.q) (ingM m r).1.1 (at0 m.s.v o) v' := by
 have hrb := recB_parts hr
 have hot : r.o.toNat = o := by omega
 have hv := StOk.v h.log.ok
 have hle := StOk.le h.log.ok o hon
 unfold ingM
 rw [if_neg (by rintro (e | e); rw [hr] at e; cases e; omega), hot]
 by_cases h1 : r.q - at0 m.s.v o < 1
 · exact (hnew (hl.below r.q hrb.2.2.1 (by omega))).elim
 · rw [if_neg h1]
   by_cases h2 : r.q - at0 m.s.v o = 1
   · rw [if_pos h2]
     have hrq : r.q = at0 m.s.v o + 1 := by omega
     have hlay : Lay m o (fun q => S q ∨ q = r.q) r.q := by
       refine ⟨fun q a b => ?_, hl.held, fun q => ?_⟩
       · by_cases e : q = r.q
         · exact .inr e
         · exact .inl (hl.below q a (by omega))
       · rw [hl.keys]
         constructor
         · rintro ⟨a, b⟩
           refine ⟨.inl a, ?_⟩
           have : q ≠ at0 m.s.v o + 1 := fun e => hg (e ▸ a)
           omega
         · rintro ⟨a | a, b⟩
           · exact ⟨a, by omega⟩
           · omega
     have := chain_lay (m.held.length + 1) h ⟨hr, by omega, by rw [hot]; exact hrq⟩ hro hrc hrw (Nat.lt_succ_self _) hlay hu hc
     rw [show at0 m.s.v o = r.q - 1 by omega]
     exact this
   · rw [if_neg h2]
     have hlk : look m.held r.key = none := by
       cases hk : look m.held r.key with
       | none => rfl
       | some x =>
         obtain ⟨x1, x2⟩ := look_mem hk
         exact (hnew (((hl.keys r.q).1 ⟨x, x1, congrArg Key.q x2⟩).1)).elim
     have hput : putE 12 m.held r = 0 := by
       unfold putE
       rw [if_pos hr, hlk, if_neg (by decide), if_neg (by omega)]
     have hputL : putL 12 m.held r = m.held ++ [r] := by unfold putL; rw [hput, if_pos rfl]
     rw [hput, hputL]
     refine ⟨rfl, at0 m.s.v o, ⟨by show ((0 : Nat) : Int) = _; omega, Int.le_refl _, ?_, rfl, rfl, ⟨fun q a b => .inl (hl.below q a b), fun x hx => ?_, fun q => ?_⟩, ?_, ?_, ?_⟩⟩
     · refine vec_ext (by rw [List.length_set]) fun i hi => ?_
       rw [at0_set (by omega)]
       show at0 m.s.v i = _
       split
       · rename_i e; rw [e]
       · rfl
     · rcases List.mem_append.1 hx with hx | hx
       · exact hl.held x hx
       · rw [List.mem_singleton.1 hx]; exact ⟨hro, hrc, hrw⟩
     · constructor
       · rintro ⟨x, hx, rfl⟩
         rcases List.mem_append.1 hx with hx | hx
         · have := (hl.keys x.q).1 ⟨x, hx, rfl⟩
           exact ⟨.inl this.1, this.2⟩
         · rw [List.mem_singleton.1 hx]; exact ⟨.inr rfl, by omega⟩
       · rintro ⟨a | a, b⟩
         · obtain ⟨x, hx, e⟩ := (hl.keys q).2 ⟨a, b⟩
           exact ⟨x, List.mem_append_left _ hx, e⟩
         · exact ⟨r, by simp, a.symm⟩
     · rintro (a | a)
       · exact hg a
       · omega
     · show usedS m.xs + 190 * (m.held ++ [r]).length ≤ _
       rw [List.length_append, List.length_singleton]; omega
     · show m.clk.2 + ((m.held ++ [r]).length : Int) ≤ _
       rw [List.length_append, List.length_singleton]; omega
theorem ing_old {m : NdM} {r : Rec} (hr : recB r = true) (ho : r.o < (m.n : Int)) (hq : r.q ≤ at0 m.s.v r.o.toNat) : ingM m r = ((0, 0), m) := by
 unfold ingM
 rw [if_neg (by rintro (e | e); rw [hr] at e; cases e; omega), if_pos (by omega)]
theorem ingA_old {m : NdM} : ∀ (rs : List Rec), (∀ r ∈ rs, recB r = true ∧ r.o < (m.n : Int) ∧ r.q ≤ at0 m.s.v r.o.toNat) → ingA m rs = ((0, 0), m) := fun rs h => by
 unfold ingA
 induction rs with
 | nil => rfl
 | cons r rs ih =>
   have h1 := h r (by simp)
   rw [List.foldl_cons, show ingS ((0, 0), m) r = ((0, 0), m) by unfold ingS; rw [ing_old h1.1 h1.2.1 h1.2.2]; rfl]
   exact ih fun x hx => h x (by simp [hx])
end Go.Proofs.YtflfhpokmidnmaaGreatDoor
namespace Go.Sl
open Go
theorem big_perm {L M : List HProp} (p : List.Perm L M) : ∀ h, big L h → big M h := by
 induction p with
 | nil => exact fun _ x => x
 | cons A _ ih => exact fun h x => big_under ih x
 | swap A B L => exact fun h x => big_swap x
 | trans _ _ ih1 ih2 => exact fun h x => ih2 h (ih1 h x)
theorem Take.perm {A : HProp} {L L' : List HProp} (t : Take A L L') : List.Perm L (A :: L') := by
 induction t with
 | hd => exact List.Perm.refl _
 | tl _ ih => exact (ih.cons _).trans (List.Perm.swap _ _ _)
theorem Takes.perm {As L L' : List HProp} (t : Takes As L L') : List.Perm L (As ++ L') := by
 induction t with
 | nil => exact List.Perm.refl _
 | cons t _ ih => exact t.perm.trans (ih.cons _)
theorem Ct.inBig {P : Program} {f : FuncId} {args : List Value} {A L L' : List HProp} {φ : Value → List HProp → Prop} (c : Ct P f args A (fun v hs => ∃ r, φ v r ∧ hs = A ++ r)) (t : Takes A L L') : Ct P f args [big L] (fun v hs => ∃ r, φ v r ∧ hs = [big L] ++ r) :=
 ⟨c.enters, fun w0 w R s => by
   have s1 : Sat w0 w (A ++ (L' ++ R)) := (Sat.big.1 s).imp fun h x => by
     rw [← List.append_assoc]
     exact big_perm (List.Perm.append_right R t.perm) h x
   refine (c.calls w0 w (L' ++ R) s1).mono fun _ _ ⟨v, hs, he, ⟨r, hp, e2⟩, hsat⟩ => ⟨v, [big L] ++ r, he, ⟨r, hp, rfl⟩, ?_⟩
   subst e2
   refine Sat.big.2 (hsat.imp fun h x => ?_)
   refine big_perm ?_ h x
   have p1 : List.Perm (A ++ r ++ (L' ++ R)) (A ++ (r ++ (L' ++ R))) := by rw [List.append_assoc]
   have p2 : List.Perm (r ++ (L' ++ R)) (L' ++ (r ++ R)) := by
     rw [← List.append_assoc, ← List.append_assoc]
     exact List.Perm.append_right R List.perm_append_comm
   have p3 : List.Perm (A ++ (L' ++ (r ++ R))) (L ++ (r ++ R)) := by
     rw [← List.append_assoc]
     exact List.Perm.append_right _ t.perm.symm
   exact p1.trans ((List.Perm.append_left A p2).trans p3)⟩
end Go.Sl
namespace Go.Proofs.YtflfhpokmidnmaaGreatDoor
open Go Go.Sl Go.Gv Go.Kv Go.Po Go.Ix Go.Qu Go.Shelf Go.Dv Go.Bst
set_option maxRecDepth 100000
theorem sameInts2_spec {S U : HProp} {a b : Option Addr} {c d : Nat} {xs ys : List Int} (hS : Srd S 1 intC a xs) (hU : Srd U 1 intC b ys) (hl : xs.length ≤ 1000000) :
   Ct Tryz.prog 14 [.slice a xs.length c, .slice b ys.length d] [S, U] (fun v hs => v = .bool (decide (xs = ys)) ∧ hs = [S, U]) :=
 (Ct.two (sameInts_spec (S := two S U) (Srd.two1 hS) (Srd.two2 hU) hl) (by rintro _ _ ⟨_, rfl⟩; exact ⟨_, rfl⟩)).mono (by rintro v hs ⟨r, ⟨h1, h2⟩, rfl⟩; cases h2; exact ⟨h1, rfl⟩)
theorem nd_get {f : FuncId} {args : List Value} {b : Nat} {m : NdM} {A : NdQ → List HProp} {φ : Value → List HProp → Prop} (c : ∀ q, Ct Tryz.prog f args (A q) (fun v hs => ∃ r, φ v r ∧ hs = A q ++ r)) (L' : NdQ → List HProp) (t : ∀ q, Takes (A q) (ndL b q m) (L' q)) :
   Ct Tryz.prog f args [ndA b m] (fun v hs => ∃ r, φ v r ∧ hs = [ndA b m] ++ r) := by
 refine Ct.ex (A := fun q => big (ndL b q m)) (⟨0, 0, 0, 0, 0, 0, 0, 0⟩ : NdQ) fun q => ?_
 refine ((c q).inBig (t q)).imp ?_
 rintro v hs ⟨r, hp, rfl⟩
 exact ⟨_, ⟨r, hp, rfl⟩, big_hd fun h x => ⟨q, x⟩⟩
section
variable {b : Nat} {m : NdM} (h : NdOk m)
include h
theorem gV_spec : Ct Tryz.prog 11 [ptr b] [ndA b m] (fun v hs => ∃ a c, v = .slice a m.s.v.length c ∧ hs = [ndA b m, sl 3 1 intC a c m.s.v]) := by
 have hv := StOk.v h.log.ok
 have h8 := h.n8
 refine (nd_get (b := b) (m := m) (A := fun q => [cl b 76 (ndC q m.id m.n m.wall), stA q.st m.s.v m.s.w m.s.rs]) (φ := fun v r => ∃ a c, v = .slice a m.s.v.length c ∧ r = [sl 3 1 intC a c m.s.v]) (fun q => (nV_spec b q m.id m.n m.wall m.s.v m.s.w m.s.rs (by omega)).mono ?_) (fun q => _) (fun q => by repeat constructor)).mono ?_
 · rintro v hs ⟨a, c, rfl, rfl⟩; exact ⟨_, ⟨a, c, rfl, rfl⟩, rfl⟩
 · rintro v hs ⟨r, ⟨a, c, rfl, rfl⟩, rfl⟩; exact ⟨a, c, rfl, rfl⟩
theorem gRecords_spec : Ct Tryz.prog 12 [ptr b] [ndA b m] (fun v hs => ∃ a c, v = .slice a (recsK m.s).length c ∧ hs = [ndA b m, sl 50 5 recC a c (recsK m.s)]) := by
 refine (nd_get (b := b) (m := m) (A := fun q => [cl b 76 (ndC q m.id m.n m.wall), stA q.st m.s.v m.s.w m.s.rs]) (φ := fun v r => ∃ a c, v = .slice a (recsK m.s).length c ∧ r = [sl 50 5 recC a c (recsK m.s)]) (fun q => (nRecords_spec b q m.id m.n m.wall h.log.ok h.n8).mono ?_) (fun q => _) (fun q => by repeat constructor)).mono ?_
 · rintro v hs ⟨a, c, rfl, rfl⟩; exact ⟨_, ⟨a, c, rfl, rfl⟩, rfl⟩
 · rintro v hs ⟨r, ⟨a, c, rfl, rfl⟩, rfl⟩; exact ⟨a, c, rfl, rfl⟩
omit h in
theorem gUp_spec : Ct Tryz.prog 29 [ptr b] [ndA b m] (fun v hs => v = .bool true ∧ hs = [ndA b m]) := by
 refine (nd_get (b := b) (m := m) (A := fun q => [cl b 76 (ndC q m.id m.n m.wall)]) (φ := fun v r => v = .bool true ∧ r = []) (fun q => (nUp_spec b q m.id m.n m.wall).mono ?_) (fun q => _) (fun q => by repeat constructor)).mono ?_
 · rintro v hs ⟨rfl, rfl⟩; exact ⟨_, ⟨rfl, rfl⟩, rfl⟩
 · rintro v hs ⟨r, ⟨rfl, rfl⟩, rfl⟩; exact ⟨rfl, rfl⟩
theorem gWaiting_spec : Ct Tryz.prog 24 [ptr b] [ndA b m] (fun v hs => ∃ a c, v = .slice a (sortK (m.held.map Rec.key)).length c ∧ hs = [ndA b m, sl 35 2 keyC a c (sortK (m.held.map Rec.key))]) := by
 have hf := h.few
 refine (nd_get (b := b) (m := m) (A := fun q => [cl b 76 (ndC q m.id m.n m.wall), cl q.he 136 (heldC 12 q.mh), mp keyV recV q.mh (ents m.held)]) (φ := fun v r => ∃ a c, v = .slice a (sortK (m.held.map Rec.key)).length c ∧ r = [sl 35 2 keyC a c (sortK (m.held.map Rec.key))]) (fun q => (nWaiting_spec b q m.id m.n m.wall m.held (by omega)).mono ?_) (fun q => _) (fun q => by repeat constructor)).mono ?_
 · rintro v hs ⟨a, c, rfl, rfl⟩; exact ⟨_, ⟨a, c, rfl, rfl⟩, rfl⟩
 · rintro v hs ⟨r, ⟨a, c, rfl, rfl⟩, rfl⟩; exact ⟨a, c, rfl, rfl⟩
end
theorem lrec_spec (o n : Int) (t : ByteArray) : Ct Tryz.prog 22 [int o, int n, .string t] [] (fun v hs => v = recV ⟨o, n, n, 0, t⟩ ∧ hs = []) := by
 refine Cti Tryz.func22 (by kernel_rfl) 14 Tryz.ntmps22 rfl rfl fun w0 R => ?_
 refine Gsr (La rfl (ac_alloc zv_50 rfl) ?_)
 rintro _ _ ⟨ob, rfl, rfl⟩
 refine Lnt (Gsr (Lmv rfl rfl (Lmv rfl rfl (Lq rfl (pu_build bd_35 (by repeat constructor) rfl) ?_))))
 refine Lmv rfl rfl (Lq rfl (pu_build bd_48 (by repeat constructor) rfl) ?_)
 refine Lmv rfl rfl (Lq rfl (pu_build bd_50 (by repeat constructor) rfl) ?_)
 refine Lac0 rfl trivial (ac_st sz_50 rfl rfl (by repeat constructor) rfl rfl rfl rfl) ?_
 rintro _ _ rfl
 refine Lnt (Gs.ret ?_)
 exact Gs.finc1 Tryz.results22 ag_50 rfl (Rdc.cl 5 (by repeat constructor) rfl) rfl _ (⟨rfl, rfl⟩) (by repeat constructor)
end Go.Proofs.YtflfhpokmidnmaaGreatDoor
namespace Go.Proofs.YtflfhpokmidnmaaGreatDoor
open Go Go.Sl Go.Gv Go.Kv Go.Po Go.Ix Go.Qu Go.Shelf Go.Dv Go.Bst
set_option maxRecDepth 100000
def lastLen (xs : List Seg) : Nat := match xs.getLast? with
 | some x => (layS x.es).length
 | none => 0
theorem lastLen_snoc (X : List Seg) (x : Seg) : lastLen (X ++ [x]) = (layS x.es).length := by
 unfold lastLen; rw [List.getLast?_concat]
theorem whole_ext : ∀ (a b : List EntP) {m : Nat}, m ≤ (layS a).length → wholeN (a ++ b) m ≤ a.length
 | [], b, m, h => by
   have hm : m = 0 := by simpa [layS] using h
   subst hm
   cases b with
   | nil => exact Nat.le_refl _
   | cons e b =>
     show wholeN (e :: b) 0 ≤ 0
     unfold wholeN
     rw [if_neg (by have := layE_pos e; omega)]; exact Nat.le_refl _
 | e :: a, b, m, h => by
   rw [List.cons_append]
   unfold wholeN
   split
   · have e1 : (layS (e :: a)).length = (layE e).length + (layS a).length := by rw [layS_cons, List.length_append]
     exact Nat.succ_le_succ (whole_ext a b (by omega))
   · exact Nat.zero_le _
theorem whole_same (a b : List EntP) {m : Nat} (h : m ≤ (layS a).length) : (a ++ b).take (wholeN (a ++ b) m) = a.take (wholeN a m) := by
 have h1 := whole_ext a b h
 have h2 : wholeN ((a ++ b).take a.length) m = wholeN (a ++ b) m := whole_cut _ h1
 rw [List.take_left] at h2
 rw [h2, List.take_append_of_le_length h1]
theorem recE_len (r : Rec) : (layE (recE r)).length = 24 + r.t.size := by
 unfold layE
 rw [frB_len]
 have : bodyE (recE r) = layB r := rfl
 rw [this, layR_len]; omega
theorem add_firm {m : NdM} (h : NdOk m) {r : Rec} (hr : recB r = true) (ho : r.o < (m.n : Int)) (hl : lastLen m.xs < 400) (hu : (usedS m.xs : Int) + 190 ≤ m.room) : firmE (addM m r).2.xs = firmE m.xs ∧ lastLen (addM m r).2.xs = lastLen m.xs + (24 + r.t.size) := by
 have hw := mayW_rec h.log.ok h.n1 h.n8 hr ho
 have h0 := wS_ok h.log.st hw hu
 have hx : (addM m r).2.xs = (wS m.room m.n m.made m.xs (recE r) m.s.v m.s.w).xs := by unfold addM; dsimp only; rw [if_pos h0]
 rw [hx]
 obtain ⟨X, x, hX⟩ := last_of h.log.st.ne
 have hsafe := h.log.st.inv.safe x (by rw [hX]; simp)
 rw [hX] at h0 hl ⊢
 rw [lastLen_snoc] at hl ⊢
 rw [wS_yes hw] at h0 ⊢
 unfold wrS at h0 ⊢
 rw [if_pos hl] at h0 ⊢
 split at h0
 · cases h0
 · rename_i hf
   rw [if_neg hf, firm_snoc, firm_snoc, lastLen_snoc]
   refine ⟨?_, ?_⟩
   · show flatS X ++ (x.es ++ [recE r]).take (wholeN (x.es ++ [recE r]) x.s) = _
     rw [whole_same _ _ hsafe]
   · show (layS (x.es ++ [recE r])).length = _
     rw [layS_snoc, List.length_append, recE_len]
theorem lastLen_drop : ∀ (K : Nat) (xs : List Seg), K < xs.length → lastLen (xs.drop K) = lastLen xs := fun K xs h => by
 unfold lastLen
 rw [List.getLast?_drop, if_neg (by omega)]
theorem lastLen_sync {n made : Nat} {xs : List Seg} {s : StM} (h : LogOk n made xs s) (hm : made < 98) : lastLen (syncX n s.w xs) = lastLen xs := by
 obtain ⟨-, h2, -⟩ := trim_is h hm s.w
 unfold syncX
 rw [lastLen_drop _ _ (by rw [List.length_map]; exact h2)]
 unfold lastLen
 rw [List.getLast?_map]
 cases xs.getLast? <;> rfl
theorem sync_firm {n made : Nat} {xs : List Seg} {s : StM} (h : LogOk n made xs s) (hm : made < 98) : playM n (firmE (syncX n s.w xs)) = s := by
 have hs := (h.sync hm).1
 rw [firm_all hs.all]; exact hs.play
theorem flat_len (xs : List Seg) : (flatS xs).length ≤ usedS xs := by
 induction xs with
 | nil => exact Nat.le_refl _
 | cons x xs ih =>
   have e : usedS (x :: xs) = (layS x.es).length + usedS xs := by simp [usedS]
   have := layS_len x.es
   rw [flatS_cons, List.length_append, e]; omega
theorem crash0 {m : NdM} (h : NdOk m) (hm : m.made < 98) (hz : ((layE (zeroB m.n)).length : Int) ≤ m.room) (hl : (playM m.n (firmE m.xs)).rs.length ≤ 700) :
   ∃ cs, crashL 0 (m.xs.map segF) = cs.map csF ∧ CsOk m.n cs ∧ (∀ c ∈ cs, c.k < 98) ∧ cs.length ≤ 900 ∧ (∀ made' ys, OpRel m.n cs made' ys → (playM m.n (flatS ys)).rs.length ≤ 700 ∧ (flatS ys).length ≤ 2000000) ∧
     ∀ made' ys, OpRel m.n cs made' ys → NdOk (openM m.id m.n m.wall m.room made' ys) ∧ (openM m.id m.n m.wall m.room made' ys).s = playM m.n (firmE m.xs) ∧ made' ≤ m.made + 1 := by
 have hxl := h.log.len
 have hu := h.used
 have hrm := h.room
 obtain ⟨cs, e1, e2, e3, e4, e5⟩ := h.log.crash h.n1 h.n8 hm 0
 refine ⟨cs, e1, e2, e3, by omega, fun made' ys ho => ?_, fun made' ys ho => ?_⟩
 · obtain ⟨es, g1, g2, g3, g4, g5, g6, g7, g8, -, -⟩ := e5 made' ys ho
   have := flat_len ys
   rw [g3, g8 rfl]
   exact ⟨hl, by omega⟩
 · obtain ⟨es, g1, g2, g3, g4, g5, g6, g7, g8, -, -⟩ := e5 made' ys ho
   have hs : (openM m.id m.n m.wall m.room made' ys).s = playM m.n (firmE m.xs) := by show playM m.n (flatS ys) = _; rw [g3, g8 rfl]
   have hok : OkM m.n (playM m.n (flatS ys)) := OkM.play _ _
   refine ⟨⟨h.n1, h.n8, h.idn, by rw [← g3] at g4; exact g4, lastR_ok _ fun r hr => StOk.may hok r (recsK_mem hok r hr), h.wall, by show 0 ≤ 12; omega, fun r hr => (by cases hr), ?_, h.room⟩, hs, g5⟩
   show (usedS ys : Int) ≤ m.room
   omega
theorem app_yes {m : NdM} (h : NdOk m) {t : ByteArray} (ht : textB t = true) (hq : at0 m.s.v m.id < 1023) (hc : (tickC m.clk m.wall).2 = 0) (hu : (usedS m.xs : Int) + 190 ≤ m.room) :
   ∃ r : Rec, r = ⟨m.id, at0 m.s.v m.id + 1, (tickC m.clk m.wall).1.1, (tickC m.clk m.wall).1.2, t⟩ ∧ (appM m t).1 = (⟨m.id, at0 m.s.v m.id + 1⟩, 0) ∧
     (appM m t).2 = (addM ⟨m.id, m.n, m.wall, m.room, (tickC m.clk m.wall).1, m.s, m.held, m.made, m.xs⟩ r).2 ∧ recB r = true ∧ (addM ⟨m.id, m.n, m.wall, m.room, (tickC m.clk m.wall).1, m.s, m.held, m.made, m.xs⟩ r).1 = 0 := by
 have hr := app_rec h ht (by omega)
 have h1 := h.clock (tickC_ok h.clk m.wall)
 have hid := h.idn
 obtain ⟨a1, a2⟩ := add_yes h1 hr (by show (m.id : Int) < (m.n : Int); omega) hu
 refine ⟨_, rfl, ?_, ?_, hr, a1⟩
 · unfold appM
   rw [if_neg (by rw [ht]; decide), if_neg (by omega)]
   dsimp only
   rw [if_neg (fun e => e hc), if_pos a1]
   rfl
 · unfold appM
   rw [if_neg (by rw [ht]; decide), if_neg (by omega)]
   dsimp only
   rw [if_neg (fun e => e hc), if_pos a1]
end Go.Proofs.YtflfhpokmidnmaaGreatDoor
namespace Go.Proofs.YtflfhpokmidnmaaGreatDoor
open Go Go.Sl Go.Gv Go.Kv Go.Po Go.Ix Go.Qu Go.Shelf Go.Dv Go.Bst
set_option maxRecDepth 100000
abbrev tA : ByteArray := ⟨#[97]⟩
abbrev tB : ByteArray := ⟨#[98]⟩
abbrev tC : ByteArray := ⟨#[99]⟩
abbrev tD : ByteArray := ⟨#[100]⟩
abbrev r12 : Rec := ⟨1, 2, 2, 0, tC⟩
abbrev r11 : Rec := ⟨1, 1, 1, 0, tD⟩
theorem text1 : textB tA = true ∧ textB tB = true ∧ recB r12 = true ∧ recB r11 = true := by decide
abbrev aw0 : NdM := newM 0 2 5000
abbrev aw1 : NdM := (appM aw0 tA).2
abbrev aw2 : NdM := syncM aw1
abbrev aw3 : NdM := (appM aw2 tB).2
abbrev aw4 : NdM := (ingA aw3 [r12, r11]).2
theorem zeroB_2 : (layE (zeroB 2)).length ≤ 46 := zeroB_len (by decide) (by decide)
structure AwI (m : NdM) (v : List Int) (L : List Rec) (cl : Int × Int) (mk : Nat) (ll : Nat) : Prop where
 ok : NdOk m
 id : m.id = 0
 n : m.n = 2
 wall : m.wall = 0
 room : m.room = 5000
 v : m.s.v = v
 w : m.s.w = [0, 0]
 held : m.held = L
 clk : m.clk = cl
 made : m.made ≤ mk
 last : lastLen m.xs ≤ ll
 used : usedS m.xs ≤ 46 + 190 * mk
theorem aw0_is : AwI aw0 [0, 0] [] (0, 0) 1 46 := by
 have hz := zeroB_2
 have hz' : (layE (zeroB ((2 : Nat) : Int))).length ≤ 46 := zeroB_2
 have e3 : layS [zeroB 2] = layE (zeroB 2) := by simp [layS]
 refine ⟨newM_ok (by decide) (by decide) (by decide) (by omega) (by decide), rfl, rfl, rfl, rfl, rfl, rfl, rfl, rfl, Nat.le_refl _, ?_, ?_⟩
 · show (layS [zeroB 2]).length ≤ 46; rw [e3]; exact hz
 · show (layS [zeroB 2]).length + 0 ≤ 236; rw [e3]; omega
theorem AwI.add {m : NdM} {v : List Int} {L : List Rec} {cl : Int × Int} {mk ll : Nat} (h : AwI m v L cl mk ll) {r : Rec} (hr : recB r = true) (hro : r.o < 2) (ht : r.t.size = 1) (hq : r.q = at0 v r.o.toNat + 1) (hL : dropL (v.set r.o.toNat r.q) L = L) (hmk : mk ≤ 10) (hll : ll ≤ 300) :
   (addM m r).1 = 0 ∧ AwI (addM m r).2 (v.set r.o.toNat r.q) L cl (mk + 1) (ll + 25) ∧ firmE (addM m r).2.xs = firmE m.xs ∧ (addM m r).2.s.rs = m.s.rs ++ [r] := by
 have hn := h.n
 have hu := h.used
 have ho : r.o < (m.n : Int) := by omega
 have hv := StOk.v h.ok.log.ok
 obtain ⟨a1, a2⟩ := add_yes h.ok hr ho (by rw [h.room]; omega)
 obtain ⟨f1, f2⟩ := add_firm h.ok hr ho (by have := h.last; omega) (by rw [h.room]; omega)
 obtain ⟨k1, k2, k3, k4, k5⟩ := addM_keep m r
 obtain ⟨s1, s2⟩ := addM_ok a1
 have hacc : accM m.s r = ⟨m.s.v.set r.o.toNat r.q, m.s.w, m.s.rs ++ [r]⟩ := accM_yes hr (by omega) (by rw [h.v]; exact hq)
 have hp := addM_pot h.ok r
 refine ⟨a1, ⟨h.ok.add hr ho, by rw [k1]; exact h.id, by rw [k2]; exact h.n, by rw [k3]; exact h.wall, by rw [k4]; exact h.room, by rw [s1, hacc, h.v], by rw [s1, hacc]; exact h.w, ?_, by rw [k5]; exact h.clk, by have := h.made; omega, by rw [f2, ht]; have := h.last; omega, by omega⟩, f1, by rw [s1, hacc]⟩
 rw [s2, hacc, h.held, h.v]; exact hL
theorem AwI.clock {m : NdM} {v : List Int} {L : List Rec} {cl : Int × Int} {mk ll : Nat} (h : AwI m v L cl mk ll) {c : Int × Int} (hc : clkB c = true) : AwI ⟨m.id, m.n, m.wall, m.room, c, m.s, m.held, m.made, m.xs⟩ v L c mk ll :=
 ⟨h.ok.clock hc, h.id, h.n, h.wall, h.room, h.v, h.w, h.held, rfl, h.made, h.last, h.used⟩
theorem AwI.app {m : NdM} {x y : Int} {k : Int} {mk ll : Nat} (h : AwI m [x, y] [] (0, k) mk ll) {t : ByteArray} (ht : textB t = true) (hs : t.size = 1) (hx : 0 ≤ x ∧ x < 100) (hk : 0 ≤ k ∧ k < 100) (hmk : mk ≤ 10) (hll : ll ≤ 300) :
   (appM m t).1 = (⟨0, x + 1⟩, 0) ∧ AwI (appM m t).2 [x + 1, y] [] (0, k + 1) (mk + 1) (ll + 25) ∧ firmE (appM m t).2.xs = firmE m.xs ∧ ∃ r : Rec, (appM m t).2.s.rs = m.s.rs ++ [r] := by
 have htick : tickC m.clk m.wall = ((0, k + 1), 0) := by
   rw [h.clk, h.wall]
   unfold tickC
   rw [if_pos (by decide)]
   show setC (0, k) (if (0 : Int) < 0 then (0, 0) else (0, k + 1)) = _
   rw [if_neg (by decide)]
   unfold setC
   rw [if_neg (by show ¬ 65535 < k + 1; omega)]
 have hid := h.id
 have hv0 : at0 m.s.v m.id = x := by rw [h.v, hid]; rfl
 obtain ⟨r, hr, e1, e2, e3, e4⟩ := app_yes h.ok ht (by rw [hv0]; omega) (by rw [htick]) (by rw [h.room]; have := h.used; omega)
 rw [htick] at e2 e4 hr
 rw [hv0] at hr e1
 rw [hid] at hr e1
 have h1 := h.clock (c := (0, k + 1)) (clkB_iff.2 ⟨by show (0 : Int) ≤ 0 ∧ (0 : Int) ≤ 1099511627776; decide, by show 0 ≤ k + 1 ∧ k + 1 ≤ 65535; omega⟩)
 have hro : r.o = 0 := by rw [hr]; rfl
 have hrq : r.q = x + 1 := by rw [hr]
 have hrt : r.t.size = 1 := by rw [hr]; exact hs
 obtain ⟨b1, b2, b3, b4⟩ := h1.add e3 (by omega) hrt (by rw [hro, hrq]; rfl) rfl hmk hll
 rw [hro, hrq] at b2
 rw [e2]
 exact ⟨e1, b2, b3, r, b4⟩
theorem aw_all : (appM aw0 tA).1 = (⟨0, 1⟩, 0) ∧ NdOk aw1 ∧ aw1.made ≤ 10 ∧ NdOk aw2 ∧ NdOk aw3 ∧ aw3.made + aw3.held.length + 2 ≤ 98 ∧ aw3.s.rs.length + aw3.held.length + 2 ≤ 700 ∧ aw1.s.rs.length ≤ 700 ∧ aw2.made ≤ 10 ∧ aw2.s.rs.length ≤ 700 ∧ (ingA aw3 [r12, r11]).1 = (2, 0) ∧ NdOk aw4 ∧ aw4.made ≤ 10 ∧ aw4.s.v = [2, 2] ∧
   playM 2 (firmE aw4.xs) = aw1.s ∧ aw1.s.v = [1, 0] ∧ aw1.s.rs.length = 1 ∧ aw4.id = 0 ∧ aw4.n = 2 ∧ aw4.wall = 0 ∧ aw4.room = 5000 ∧ aw4.xs.length ≤ 900 := by
 obtain ⟨t1, t2, t3, t4⟩ := text1
 obtain ⟨a1, a2, -, ra, a3⟩ := aw0_is.app t1 rfl ⟨by decide, by decide⟩ ⟨by decide, by decide⟩ (by decide) (by decide)
 have a3 : aw1.s.rs = [ra] := a3
 have hm1 : aw1.made < 98 := by have : aw1.made ≤ 2 := a2.made; omega
 have hn1 : aw1.n = 2 := a2.n
 have b2 : AwI aw2 [1, 0] [] (0, 1) 2 71 := by
   refine ⟨a2.ok.sync hm1, a2.id, a2.n, a2.wall, a2.room, a2.v, a2.w, a2.held, a2.clk, a2.made, ?_, ?_⟩
   · show lastLen (syncX aw1.n aw1.s.w aw1.xs) ≤ 71
     rw [lastLen_sync a2.ok.log hm1]; exact a2.last
   · have := sync_used aw1.n aw1.s.w aw1.xs
     have : usedS aw1.xs ≤ 46 + 190 * 2 := a2.used
     show usedS (syncX aw1.n aw1.s.w aw1.xs) ≤ _; omega
 have hfirm2 : playM 2 (firmE aw2.xs) = aw1.s := by
   have := sync_firm a2.ok.log hm1
   rw [hn1] at this
   show playM 2 (firmE (syncX aw1.n aw1.s.w aw1.xs)) = aw1.s
   rw [hn1]; exact this
 obtain ⟨c1, c2, c3, rb, c4⟩ := b2.app t2 rfl ⟨by decide, by decide⟩ ⟨by decide, by decide⟩ (by decide) (by decide)
 have c2 : AwI aw3 [2, 0] [] (0, 2) 3 96 := c2
 have c4 : aw3.s.rs = [ra, rb] := by
   have e : aw3.s.rs = aw2.s.rs ++ [rb] := c4
   rw [e]
   show aw1.s.rs ++ [rb] = _
   rw [a3]; rfl
 -- the first one waits
 have d1 : ingM aw3 r12 = ((0, 0), ⟨aw3.id, aw3.n, aw3.wall, aw3.room, aw3.clk, aw3.s, [r12], aw3.made, aw3.xs⟩) := by
   have hv : at0 aw3.s.v r12.o.toNat = 0 := by rw [c2.v]; rfl
   have hp : putE 12 aw3.held r12 = 0 := by
     rw [c2.held]; unfold putE; rw [if_pos t3]; rfl
   have hpl : putL 12 aw3.held r12 = [r12] := by unfold putL; rw [hp, if_pos rfl, c2.held]; rfl
   unfold ingM
   rw [if_neg (by
     rintro (e | e)
     · rw [t3] at e; cases e
     · rw [c2.n] at e; exact absurd e (by decide)), hv, if_neg (by decide), if_neg (by decide), hp, hpl]
   rfl
 obtain ⟨m4, hm4⟩ : ∃ m4 : NdM, m4 = ⟨aw3.id, aw3.n, aw3.wall, aw3.room, aw3.clk, aw3.s, [r12], aw3.made, aw3.xs⟩ := ⟨_, rfl⟩
 rw [← hm4] at d1
 have d2 : AwI m4 [2, 0] [r12] (0, 2) 3 96 := by
   have hok := (ing_all c2.ok r12).1
   rw [d1] at hok
   rw [hm4] at hok ⊢
   exact ⟨hok, c2.id, c2.n, c2.wall, c2.room, c2.v, c2.w, rfl, c2.clk, c2.made, c2.last, c2.used⟩
 have hx4 : m4.xs = aw3.xs := by rw [hm4]
 have hr4 : m4.s.rs = aw3.s.rs := by rw [hm4]
 -- the second one comes, and the first one behind it
 have s1 : seeC m4.clk (r11.w, r11.c) m4.wall = ((1, 1), 0) := by rw [d2.clk, d2.wall]; decide
 have g1 := d2.clock (c := (1, 1)) (by decide)
 obtain ⟨m5, hm5⟩ : ∃ m5 : NdM, m5 = ⟨m4.id, m4.n, m4.wall, m4.room, (1, 1), m4.s, m4.held, m4.made, m4.xs⟩ := ⟨_, rfl⟩
 rw [← hm5] at g1
 obtain ⟨h1, h2, h3, h4⟩ := g1.add (r := r11) t4 (by decide) rfl rfl rfl (by decide) (by decide)
 have h2 : AwI (addM m5 r11).2 [2, 1] [r12] (1, 1) 4 121 := h2
 obtain ⟨m6, hm6⟩ : ∃ m6 : NdM, m6 = ⟨m4.id, m4.n, m4.wall, m4.room, (1, 1), (addM m5 r11).2.s, delL (addM m5 r11).2.held ⟨r11.o, r11.q + 1⟩, (addM m5 r11).2.made, (addM m5 r11).2.xs⟩ := ⟨_, rfl⟩
 have i1 : AwI m6 [2, 1] [] (1, 1) 4 121 := by
   have hok := g1.ok.nexted (r := r11) ⟨t4, by rw [g1.n]; decide, by rw [g1.v]; rfl⟩ (c := (1, 1)) (by decide)
   have e : m6 = ⟨m5.id, m5.n, m5.wall, m5.room, (1, 1), (addM m5 r11).2.s, delL (addM m5 r11).2.held ⟨r11.o, r11.q + 1⟩, (addM m5 r11).2.made, (addM m5 r11).2.xs⟩ := by rw [hm6, hm5]
   rw [← e] at hok
   refine ⟨hok, by rw [hm6]; exact d2.id, by rw [hm6]; exact d2.n, by rw [hm6]; exact d2.wall, by rw [hm6]; exact d2.room, by rw [hm6]; exact h2.v, by rw [hm6]; exact h2.w, by rw [hm6]; show delL (addM m5 r11).2.held _ = []; rw [h2.held]; rfl, by rw [hm6], by rw [hm6]; exact h2.made, by rw [hm6]; exact h2.last, by rw [hm6]; exact h2.used⟩
 have s2 : seeC m6.clk (r12.w, r12.c) m6.wall = ((2, 1), 0) := by rw [i1.clk, i1.wall]; decide
 have g2 := i1.clock (c := (2, 1)) (by decide)
 obtain ⟨m7, hm7⟩ : ∃ m7 : NdM, m7 = ⟨m6.id, m6.n, m6.wall, m6.room, (2, 1), m6.s, m6.held, m6.made, m6.xs⟩ := ⟨_, rfl⟩
 rw [← hm7] at g2
 obtain ⟨j1, j2, j3, j4⟩ := g2.add (r := r12) t3 (by decide) rfl rfl rfl (by decide) (by decide)
 have j2 : AwI (addM m7 r12).2 [2, 2] [] (2, 1) 5 146 := j2
 obtain ⟨m8, hm8⟩ : ∃ m8 : NdM, m8 = ⟨m6.id, m6.n, m6.wall, m6.room, (2, 1), (addM m7 r12).2.s, delL (addM m7 r12).2.held ⟨r12.o, r12.q + 1⟩, (addM m7 r12).2.made, (addM m7 r12).2.xs⟩ := ⟨_, rfl⟩
 have k1 : chainM 1 m6 r12 = ((1, 0), m8) := by
   rw [chainM, s2, ← hm7]
   dsimp only
   rw [if_neg (fun h => h rfl), if_neg (fun h => h j1), j2.held, hm8, j2.held]
   rfl
 have k2 : chainM 2 m4 r11 = ((2, 0), m8) := by
   rw [chainM, s1, ← hm5]
   dsimp only
   rw [if_neg (fun h => h rfl), if_neg (fun h => h h1), h2.held]
   have e : look [r12] ⟨r11.o, r11.q + 1⟩ = some r12 := by decide
   rw [e]
   dsimp only
   rw [h2.held] at hm6
   rw [← hm6, k1]
 have d3 : ingM m4 r11 = ((2, 0), m8) := by
   have hv : at0 m4.s.v r11.o.toNat = 0 := by rw [d2.v]; rfl
   unfold ingM
   rw [if_neg (by
     rintro (e | e)
     · rw [t4] at e; cases e
     · rw [d2.n] at e; exact absurd e (by decide)), hv, if_neg (by decide), if_pos (by decide), d2.held]
   exact k2
 have d4 : ingA aw3 [r12, r11] = ((2, 0), m8) := by
   show ingS (ingS ((0, 0), aw3) r12) r11 = _
   rw [show ingS ((0, 0), aw3) r12 = ((0, 0), m4) by unfold ingS; rw [d1]; rfl]
   unfold ingS
   rw [d3]; rfl
 have l8 : aw4 = m8 := by show (ingA aw3 [r12, r11]).2 = m8; rw [d4]
 have f8 : firmE m8.xs = firmE aw2.xs := by
   have e1 : m8.xs = (addM m7 r12).2.xs := by rw [hm8]
   have e2 : m7.xs = (addM m5 r11).2.xs := by rw [hm7, hm6]
   have e3 : m5.xs = aw3.xs := by rw [hm5, hx4]
   rw [e1, j3, e2, h3, e3]; exact c3
 have hall := ingA_all c2.ok [r12, r11]
 rw [d4] at hall
 have hmd : m8.made ≤ 5 := by rw [hm8]; exact j2.made
 have hlen : m8.xs.length ≤ m8.made := hall.1.log.len
 refine ⟨a1, a2.ok, by have : aw1.made ≤ 2 := a2.made; omega, b2.ok, c2.ok, by rw [c2.held]; have := c2.made; simp; omega, by rw [c2.held, c4]; exact Nat.le_of_ble_eq_true rfl, by rw [a3]; exact Nat.le_of_ble_eq_true rfl, by have := b2.made; omega, ?_, by rw [d4], by rw [l8]; exact hall.1, by rw [l8]; omega, by rw [l8, hm8]; exact j2.v, by rw [l8, f8]; exact hfirm2, a2.v, by rw [a3]; rfl, by rw [l8, hm8]; exact i1.id, by rw [l8, hm8]; exact i1.n, by rw [l8, hm8]; exact i1.wall, by rw [l8, hm8]; exact i1.room, by rw [l8]; omega⟩
 show aw1.s.rs.length ≤ 700
 rw [a3]; exact Nat.le_of_ble_eq_true rfl
theorem awake_spec {h0 : Hp} (T : TabX h0) : Ct Tryz.prog 8 [] [ro h0] (fun v hs => v = .bool true ∧ hs = [ro h0]) := by
 obtain ⟨a1, a2, a3, a4, a5, a6, a7, a8, a9, a10, a11, a12, a13, a14, a15, a16, a17, a18, a19, a20, a21, a22⟩ := aw_all
 have hz := zeroB_2
 have hz' : (layE (zeroB ((2 : Nat) : Int))).length ≤ 46 := zeroB_2
 obtain ⟨cs, e1, e2, e3, e4, e5, e6⟩ := crash0 a12 (by omega) (by rw [a19, a21]; omega) (by rw [a19, a15]; omega)
 rw [a18, a19, a20, a21] at e6
 rw [a19] at e2 e5
 refine Cti Tryz.func8 (by kernel_rfl) 92 Tryz.ntmps8 rfl rfl fun w0 R => ?_
 refine Gsr (Las rfl rfl (Lnt (Gsr (La rfl (asC (nnew_ok T (id := 0) (n := 2) (room := 5000) (by decide) (by decide) (by decide) (by omega) (by decide))) ?_))))
 rintro _ _ ⟨_, ⟨b, rfl, rfl⟩, rfl⟩
 refine Lmv rfl rfl (Lq rfl (pu_extract rfl rfl) (Lq rfl (pu_extract rfl rfl) (Las rfl rfl (Las rfl rfl (Lnt (Gs.seq (Gsr (Lmv rfl rfl (Lq rfl (pu_ne rfl rfl) (LpuBf rfl rfl trivial (pu_move rfl) rfl (Lpu rfl rfl ⟨_, rfl, rfl⟩ (pu_move rfl) ?_)))))))))))
 refine Lpu rfl rfl ⟨_, rfl, rfl⟩ (pu_eqN Tryz.underlying26 rfl rfl) (Lpk rfl rfl rfl (Lnt (Gs.cond_ff rfl rfl (Gs.skip (Gn (Gsr (Lmv rfl rfl (La rfl (asC (nappend_spec T b aw0 aw0_is.ok tA (by decide) (by decide))) ?_))))))))
 rintro _ _ ⟨_, ⟨rfl, rfl⟩, rfl⟩
 rw [a1]
 refine Lmv rfl rfl (Lq rfl (pu_extract rfl rfl) (Lq rfl (pu_extract rfl rfl) (La rfl (ac_alloc zv_35 rfl) ?_)))
 rintro _ _ ⟨kb, rfl, rfl⟩
 refine Lac0 rfl trivial (ac_st sz_35 rfl rfl (by repeat constructor) rfl rfl rfl rfl) ?_
 rintro _ _ rfl
 refine Las rfl rfl (Lnt (Gsr (Lmv rfl rfl (La rfl (asC (nsync_spec b aw1 a2 (by omega))) ?_))))
 rintro _ _ ⟨_, ⟨rfl, rfl⟩, rfl⟩
 refine Las rfl rfl (Lnt (Gsr (Lmv rfl rfl (La rfl (asC (nappend_spec T b aw2 a4 tB (by omega) a10)) ?_))))
 rintro _ _ ⟨_, ⟨rfl, rfl⟩, rfl⟩
 refine Lnt (Gsr (Lmv rfl rfl (La rfl (asC (lrec_spec 1 2 tC)) ?_)))
 rintro _ _ ⟨_, ⟨rfl, rfl⟩, rfl⟩
 refine La rfl (asC (lrec_spec 1 1 tD)) ?_
 rintro _ _ ⟨_, ⟨rfl, rfl⟩, rfl⟩
 refine La rfl (ac_lit encC_50 ([r12, r11]) et_32 ek_50 rfl (by repeat constructor) rfl rfl (by decide)) ?_
 rintro _ _ ⟨a34, rfl, rfl⟩
 refine La rfl (asC (ingest_spec T b aw3 a5 (S := sl 50 5 recC (some ⟨a34, 0, none⟩) 2 [r12, r11]) (rs := [r12, r11]) Srd.own a6 a7)) ?_
 rintro _ _ ⟨_, ⟨rfl, rfl⟩, rfl⟩
 rw [a11]
 refine Lmv rfl rfl (Lq rfl (pu_extract rfl rfl) (Lq rfl (pu_extract rfl rfl) (Las rfl rfl (Las rfl rfl (Lnt (Gsr (Lmv rfl rfl (La rfl (asC (gV_spec a12)) ?_))))))))
 rintro _ _ ⟨_, ⟨va, vc, rfl, rfl⟩, rfl⟩
 rw [a14]
 refine Las rfl rfl (Lnt (Gsr (Lmv rfl rfl (La rfl (asC (ncrash_spec b aw4 0 a22 (by decide) (by decide))) ?_))))
 rintro _ _ ⟨_, ⟨rfl, rfl⟩, rfl⟩
 rw [e1, a18, a19, a20, a21]
 refine Lmv rfl rfl (La rfl (asC (nrestart_spec T b 0 2 0 5000 (by decide) (by decide) e2 e4 e3 (fun _ => by omega) e5)) ?_)
 rintro _ _ ⟨_, ⟨made, ys, rfl, hop, rfl⟩, rfl⟩
 obtain ⟨g1, g2, -⟩ := e6 made ys hop
 rw [a15] at g2
 refine Las rfl rfl (Las rfl rfl (Lnt (Gsr (Lr rfl (rd_lda ag_35 rfl (Rdc.cl 2 (by repeat constructor) rfl) rfl) ?_))))
 refine Lq rfl (pu_build bd_35 (by repeat constructor) rfl) ?_
 refine Lq rfl (pu_eqT (a := (⟨0, 1⟩ : Key)) (b := (⟨0, 1⟩ : Key)) cmp_35 (by decide) Tryz.eqGuardType35 rfl rfl) ?_
 refine LpuBt rfl rfl trivial (pu_move rfl) rfl (Lpu rfl rfl ⟨_, rfl, rfl⟩ (pu_move rfl) (Lpu rfl rfl ⟨_, rfl, rfl⟩ (pu_eq rfl rfl) (Lpk rfl rfl rfl (LpuBt rfl rfl trivial (pu_move rfl) rfl (Lpu rfl rfl ⟨_, rfl, rfl⟩ (pu_move rfl) (Lpu rfl rfl ⟨_, rfl, rfl⟩ (pu_eq rfl rfl) (Lpk rfl rfl rfl (LpuBt rfl rfl trivial (pu_move rfl) rfl (Lpu rfl rfl ⟨_, rfl, rfl⟩ (pu_move rfl) (Lpu rfl rfl ⟨_, rfl, rfl⟩ (pu_eq rfl rfl) (Lpk rfl rfl rfl ?_)))))))))))
 refine LpuBt rfl rfl trivial (pu_move rfl) rfl (Lpu rfl rfl ⟨_, rfl, rfl⟩ (pu_move rfl) (Lpu rfl rfl ⟨_, rfl, rfl⟩ (pu_eq rfl rfl) (Lpk rfl rfl rfl (LpuBt rfl rfl trivial (pu_move rfl) rfl (Lpu rfl rfl ⟨_, rfl, rfl⟩ (pu_move rfl) (Lac rfl rfl ⟨_, rfl, rfl⟩ (ac_lit encC_3 ([(2 : Int), 2]) et_30 ek_3 rfl (by repeat constructor) rfl rfl (by decide)) ?_))))))
 rintro _ _ ⟨a65, rfl, rfl⟩
 refine Lac rfl rfl ⟨_, rfl, rfl⟩ (asC (sameInts2_spec (S := sl 3 1 intC va vc [2, 2]) (U := sl 3 1 intC (some ⟨a65, 0, none⟩) 2 [2, 2]) (xs := [2, 2]) (ys := [2, 2]) Srd.own Srd.own (by decide))) ?_
 rintro _ _ ⟨_, ⟨rfl, rfl⟩, rfl⟩
 refine Lpk rfl rfl rfl (LpuBt rfl rfl trivial (pu_move rfl) rfl (Lpu rfl rfl ⟨_, rfl, rfl⟩ (pu_move rfl) (Lpu rfl rfl ⟨_, rfl, rfl⟩ (pu_eq rfl rfl) (Lpk rfl rfl rfl (LpuBt rfl rfl trivial (pu_move rfl) rfl (Lpu rfl rfl ⟨_, rfl, rfl⟩ (pu_move rfl) (Lpu rfl rfl ⟨_, rfl, rfl⟩ (pu_eq rfl rfl) (Lpk rfl rfl rfl (LpuBt rfl rfl trivial (pu_move rfl) rfl (Lpu rfl rfl ⟨_, rfl, rfl⟩ (pu_move rfl) (Lac rfl rfl ⟨_, rfl, rfl⟩ (asC (gV_spec g1)) ?_)))))))))))
 rintro _ _ ⟨_, ⟨wa, wc, rfl, rfl⟩, rfl⟩
 rw [g2, a16]
 refine Lac rfl rfl ⟨_, rfl, rfl⟩ (ac_lit encC_3 ([(1 : Int), 0]) et_30 ek_3 rfl (by repeat constructor) rfl rfl (by decide)) ?_
 rintro _ _ ⟨a79, rfl, rfl⟩
 refine Lac rfl rfl ⟨_, rfl, rfl⟩ (asC (sameInts2_spec (S := sl 3 1 intC wa wc [1, 0]) (U := sl 3 1 intC (some ⟨a79, 0, none⟩) 2 [1, 0]) (xs := [1, 0]) (ys := [1, 0]) Srd.own Srd.own (by decide))) ?_
 rintro _ _ ⟨_, ⟨rfl, rfl⟩, rfl⟩
 refine Lpk rfl rfl rfl (LpuBt rfl rfl trivial (pu_move rfl) rfl (Lpu rfl rfl ⟨_, rfl, rfl⟩ (pu_move rfl) (Lac rfl rfl ⟨_, rfl, rfl⟩ (asC (gUp_spec)) ?_)))
 rintro _ _ ⟨_, ⟨rfl, rfl⟩, rfl⟩
 refine Lpk rfl rfl rfl (LpuBt rfl rfl trivial (pu_move rfl) rfl (Lpu rfl rfl ⟨_, rfl, rfl⟩ (pu_move rfl) (Lac rfl rfl ⟨_, rfl, rfl⟩ (asC (gRecords_spec g1)) ?_)))
 rintro _ _ ⟨_, ⟨xa, xc, rfl, rfl⟩, rfl⟩
 rw [recsK_len g1.log.ok, g2, a17]
 refine Lpu rfl rfl ⟨_, rfl, rfl⟩ (pu_len Tryz.underlying32 rfl) (Lpu rfl rfl ⟨_, rfl, rfl⟩ (pu_eq rfl rfl) (Lpk rfl rfl rfl (Las rfl rfl (Lnt (Gs.ret ?_)))))
 exact Gs.fin1 Tryz.results8 rfl _ (⟨rfl, rfl⟩) (by repeat constructor)
end Go.Proofs.YtflfhpokmidnmaaGreatDoor
namespace Go.Proofs.YtflfhpokmidnmaaGreatDoor
open Go Go.Sl Go.Gv Go.Kv Go.Po Go.Ix Go.Qu Go.Shelf Go.Dv Go.Bst
set_option maxRecDepth 100000
abbrev sk0 : NdM := newM 0 2 200000
theorem sk0_ok : NdOk sk0 := newM_ok (by first | decide | exact of_decide_eq_true rfl) (by first | decide | exact of_decide_eq_true rfl) (by first | decide | exact of_decide_eq_true rfl) (by have : (layE (zeroB ((2 : Nat) : Int))).length ≤ 46 := zeroB_2; omega) (by first | decide | exact of_decide_eq_true rfl)
end Go.Proofs.YtflfhpokmidnmaaGreatDoor
namespace Go.Proofs.YtflfhpokmidnmaaGreatDoor
open Go Go.Sl Go.Gv Go.Kv Go.Po Go.Ix Go.Qu Go.Shelf Go.Dv Go.Bst
set_option maxRecDepth 100000
abbrev noR (t : ByteArray) (i : Nat) : Rec := ⟨1, i, i, 0, t⟩
def noL (t : ByteArray) (k : Nat) : List Rec := (List.range k).map fun j => noR t (j + 1)
theorem ordL_succ (t : ByteArray) (k : Nat) : noL t (k + 1) = noL t k ++ [noR t (k + 1)] := by unfold noL; rw [List.range_succ, List.map_append]; rfl
theorem ordL_len (t : ByteArray) (k : Nat) : (noL t k).length = k := by unfold noL; rw [List.length_map, List.length_range]
theorem ordL_mem {t : ByteArray} {k : Nat} {r : Rec} : r ∈ noL t k ↔ ∃ i, 1 ≤ i ∧ i ≤ k ∧ r = noR t i := by
 unfold noL
 rw [List.mem_map]
 constructor
 · rintro ⟨j, hj, rfl⟩
   rw [List.mem_range] at hj
   exact ⟨j + 1, by omega, by omega, rfl⟩
 · rintro ⟨i, h1, h2, rfl⟩
   exact ⟨i - 1, List.mem_range.2 (by omega), by rw [show i - 1 + 1 = i by omega]⟩
theorem ordL_nodup (t : ByteArray) (k : Nat) : (noL t k).Nodup := by
 unfold noL
 refine List.pairwise_map.2 (List.nodup_range.imp fun {a b} hne e => hne ?_)
 have : ((a + 1 : Nat) : Int) = ((b + 1 : Nat) : Int) := congrArg Rec.q e
 omega
theorem ordR_may {t : ByteArray} (h : recB (noR t 1) = true) {i : Nat} (h1 : 1 ≤ i) (h2 : i ≤ 10) : recB (noR t i) = true := by
 have hs : clkB ((i : Int), 0) = true := clkB_iff.2 ⟨by show 0 ≤ (i : Int) ∧ (i : Int) ≤ 1099511627776; omega, by first | decide | exact of_decide_eq_true rfl⟩
 unfold recB at h ⊢
 simp only [Bool.and_eq_true] at h ⊢
 refine ⟨⟨?_, hs⟩, h.2⟩
 unfold keyB
 simp only [Bool.and_eq_true, decide_eq_true_eq]
 show (((0 : Int) ≤ 1 ∧ (1 : Int) < 8) ∧ 1 ≤ (i : Int)) ∧ (i : Int) ≤ 1023
 omega
structure OrdI (t : ByteArray) (L : List Rec) (m : NdM) : Prop where
 ok : NdOk m
 n : m.n = 2
 wall : m.wall = 0
 room : m.room = 200000
 v0 : at0 m.s.v 0 = 0
 lay : Lay m 1 (fun q => ∃ r ∈ L, r.q = q) (at0 m.s.v 1)
 gap : ¬ ∃ r ∈ L, r.q = at0 m.s.v 1 + 1
 used : usedS m.xs + 190 * m.held.length ≤ 46 + 190 * L.length
 clk : m.clk.2 + m.held.length ≤ L.length
 made : m.made + m.held.length ≤ 1 + L.length
 recs : m.s.rs.length + m.held.length ≤ L.length
 cnt : (m.s.rs.length : Int) = at0 m.s.v 1
theorem ord_start (t : ByteArray) : OrdI t [] sk0 := by
 have hz := zeroB_2
 have hz' : (layE (zeroB ((2 : Nat) : Int))).length ≤ 46 := zeroB_2
 have e3 : layS [zeroB 2] = layE (zeroB 2) := by simp [layS]
 refine ⟨sk0_ok, rfl, rfl, rfl, rfl, ⟨fun q a b => ?_, fun r hr => (by cases hr), fun q => ⟨fun ⟨r, hr, _⟩ => (by cases hr), fun ⟨⟨r, hr, _⟩, _⟩ => by cases hr⟩⟩, fun ⟨r, hr, _⟩ => (by cases hr), ?_, by first | decide | exact of_decide_eq_true rfl, by first | decide | exact of_decide_eq_true rfl, by first | decide | exact of_decide_eq_true rfl, rfl⟩
 · have : at0 sk0.s.v 1 = 0 := rfl
   omega
 · show (layS [zeroB 2]).length + 0 + 190 * 0 ≤ 46; rw [e3]; omega
theorem OrdI.step {t : ByteArray} {L : List Rec} {m : NdM} (h : OrdI t L m) (ht : recB (noR t 1) = true) {i : Nat} (h1 : 1 ≤ i) (h2 : i ≤ 10) (hL : L.length < 10) (hnew : ∀ r ∈ L, r.q ≠ (i : Int)) :
   ∃ c m', ingA m [noR t i] = ((c, 0), m') ∧ OrdI t (L ++ [noR t i]) m' ∧ (c : Int) = at0 m'.s.v 1 - at0 m.s.v 1 ∧ 0 ≤ at0 m.s.v 1 ∧ at0 m.s.v 1 ≤ 10 ∧ at0 m'.s.v 1 ≤ 10 := by
 have hb := ordR_may ht h1 h2
 have hn := h.n
 have hv := StOk.v h.ok.log.ok
 have hle := StOk.le h.ok.log.ok 1 (by omega)
 have hrc := h.recs
 have hcn := h.cnt
 have hclk := h.clk
 have hus := h.used
 obtain ⟨e1, v', g⟩ := ing_lay h.ok hb (o := 1) rfl (by omega) rfl (by rw [h.wall]; show (i : Int) ≤ 0 + 1000; omega) h.lay h.gap (fun ⟨r, hr, e⟩ => hnew r hr e) (by omega) (by rw [h.room]; omega) (by omega)
 obtain ⟨z1, z2, z3, z4, z5, z6, z7⟩ := ing_all h.ok (noR t i)
 obtain ⟨m', hm'⟩ : ∃ m', m' = (ingM m (noR t i)).2 := ⟨_, rfl⟩
 obtain ⟨c, hc⟩ : ∃ c, c = (ingM m (noR t i)).1.1 := ⟨_, rfl⟩
 rw [← hm'] at g z1 z2 z3 z4 z5 z6 z7
 rw [← hc] at g
 have hset : m'.s.v = m.s.v.set 1 v' := g.v
 have hv1 : at0 m'.s.v 1 = v' := by rw [hset, at0_set (by omega), if_pos rfl]
 have hv0 : at0 m'.s.v 0 = 0 := by rw [hset, at0_set (by omega), if_neg (by first | decide | exact of_decide_eq_true rfl)]; exact h.v0
 have hl : (L ++ [noR t i]).length = L.length + 1 := by rw [List.length_append]; rfl
 have hS : ∀ q, (∃ r ∈ L ++ [noR t i], r.q = q) ↔ ((∃ r ∈ L, r.q = q) ∨ q = (noR t i).q) := fun q => by
   constructor
   · rintro ⟨r, hr, e⟩
     rcases List.mem_append.1 hr with hr | hr
     · exact .inl ⟨r, hr, e⟩
     · rw [List.mem_singleton.1 hr] at e; exact .inr e.symm
   · rintro (⟨r, hr, e⟩ | e)
     · exact ⟨r, List.mem_append_left _ hr, e⟩
     · exact ⟨noR t i, by simp, e.symm⟩
 have hg1 := g.cnt
 have hg2 := g.len
 have hg3 := g.used
 have hg4 := g.clk
 have hle' := StOk.le z1.log.ok 1 (by omega)
 refine ⟨c, m', ?_, ⟨z1, by rw [z5]; exact hn, by rw [z6]; exact h.wall, by rw [z7]; exact h.room, hv0, ?_, ?_, by rw [hl]; omega, by rw [hl]; omega, by rw [hl]; have := h.made; omega, by rw [hl]; omega, by rw [hv1]; omega⟩, by rw [hv1]; omega, by omega, by omega, ?_⟩
 · show ingS ((0, 0), m) (noR t i) = _
   unfold ingS
   rw [e1, ← hc, ← hm']
   simp
 · rw [hv1]
   exact ⟨fun q a b => (hS q).2 (g.lay.below q a b), by have := g.lay.held; exact this, fun q => by rw [g.lay.keys, hS]⟩
 · rw [hv1]
   intro hc2
   exact g.gap ((hS _).1 hc2)
 · rw [hv1]; omega
theorem OrdI.all {t : ByteArray} {L : List Rec} {m : NdM} (h : OrdI t L m) {k : Nat} (hL : List.Perm L (noL t k)) : m.s.v = [0, (k : Int)] ∧ m.s.rs.length = k ∧ m.held = [] := by
 have hv := StOk.v h.ok.log.ok
 have hn := h.n
 have hle := StOk.le h.ok.log.ok 1 (by omega)
 have hS : ∀ q : Int, (∃ r ∈ L, r.q = q) ↔ (1 ≤ q ∧ q ≤ (k : Int)) := fun q => by
   constructor
   · rintro ⟨r, hr, rfl⟩
     obtain ⟨i, h1, h2, rfl⟩ := ordL_mem.1 (hL.subset hr)
     show 1 ≤ (i : Int) ∧ (i : Int) ≤ (k : Int); omega
   · rintro ⟨h1, h2⟩
     exact ⟨noR t q.toNat, hL.symm.subset (ordL_mem.2 ⟨q.toNat, by omega, by omega, rfl⟩), by show ((q.toNat : Nat) : Int) = q; omega⟩
 have h1 : at0 m.s.v 1 = (k : Int) := by
   have hg := h.gap
   rw [hS] at hg
   by_cases h0 : at0 m.s.v 1 = 0
   · omega
   · have := (hS _).1 (h.lay.below (at0 m.s.v 1) (by omega) (Int.le_refl _))
     omega
 have hcn := h.cnt
 refine ⟨vec_ext (by rw [hv, hn]; rfl) fun o ho => ?_, by omega, ?_⟩
 · have : o = 0 ∨ o = 1 := by omega
   rcases this with rfl | rfl
   · exact h.v0
   · exact h1
 · cases hh : m.held with
   | nil => rfl
   | cons r rs =>
     have := (h.lay.keys r.q).1 ⟨r, by rw [hh]; simp, rfl⟩
     rw [hS] at this
     omega
theorem insert_perm {α : Type} {rs L : List α} (p : List.Perm rs L) (x : α) (m : Nat) : List.Perm (rs.take m ++ [x] ++ rs.drop m) (L ++ [x]) := by
 have h1 : List.Perm (rs.take m ++ [x] ++ rs.drop m) (rs.take m ++ (rs.drop m ++ [x])) := by
   rw [List.append_assoc]
   exact List.Perm.append_left _ List.perm_append_comm
 rw [← List.append_assoc, List.take_append_drop] at h1
 exact h1.trans (List.Perm.append_right _ p)
theorem orders_spec {h0 : Hp} (T : TabX h0) (many0 : Int) {a0 : Option Addr} {c0 : Nat} {ps : List Int} (hps : Srd (ro h0) 1 intC a0 ps) (t : ByteArray) (hpl0 : ps.length ≤ maxLen) :
   Ct Tryz.prog 4 [int many0, .slice a0 ps.length c0, .string t] [ro h0] (fun v hs => v = .bool true ∧ hs = [ro h0]) := by
 have hz := zeroB_2
 have hz' : (layE (zeroB ((2 : Nat) : Int))).length ≤ 46 := zeroB_2
 obtain ⟨b1, b2⟩ := lowZ_in (a := many0) (b := 10) (by first | decide | exact of_decide_eq_true rfl) (by first | decide | exact of_decide_eq_true rfl)
 obtain ⟨K, hK⟩ : ∃ K : Nat, (K : Int) = 1 + lowZ many0 10 := ⟨(1 + lowZ many0 10).toNat, by omega⟩
 refine Cti Tryz.func4 (by kernel_rfl) 154 Tryz.ntmps4 rfl rfl fun w0 R => ?_
 refine Gs.slAddr (hps.h (by repeat constructor)) fun pb po hpa => ?_
 refine Gsr (Las rfl rfl (Lnt (Gsr (Lmv rfl rfl (La rfl (asC (low_spec many0 10 (by decide) (by decide))) ?_)))))
 rintro _ _ ⟨_, ⟨rfl, rfl⟩, rfl⟩
 refine Lq rfl (by first | exact pu_addI rfl rfl rfl (by omega) (by omega) | exact pu_add rfl rfl) ?_
 refine Las rfl rfl (Lnil ?_)
 rw [← hK]
 refine Gn (Gs.seq (Gsr (Lmv rfl rfl (Lq rfl (pu_len Tryz.underlying30 rfl) (Lq rfl (pu_gt rfl rfl) (LpuB rfl rfl trivial (pu_move rfl) (fun hg3 => ?_) (fun hg3 => ?_)))))))
 ·
  refine Lof rfl (Lof rfl (Lof rfl (Lpk rfl rfl rfl (Lmv rfl rfl (Lof rfl (Lof rfl (Lof rfl (Lof rfl (Lpk rfl rfl rfl (Lnt (Gs.cond_t rfl ?_)))))))))))
  refine Gsr (La rfl (asC (awake_spec T)) ?_)
  rintro _ _ ⟨_, ⟨rfl, rfl⟩, rfl⟩
  refine Las rfl rfl (Lnt (Gs.ret (Gr ?_)))
  exact Gs.fin1 Tryz.results4 rfl _ (⟨rfl, rfl⟩) (by repeat constructor)
 refine Lpu rfl rfl ⟨_, rfl, rfl⟩ (pu_move rfl) (Lpu rfl rfl ⟨_, rfl, rfl⟩ (pu_lenS Tryz.underlying9 rfl) (Lpu rfl rfl ⟨_, rfl, rfl⟩ (pu_gt rfl rfl) (Lpk rfl rfl rfl (LpuB rfl rfl trivial (pu_move rfl) (fun hg8 => ?_) (fun hg8 => ?_)))))
 ·
  refine Lof rfl (Lof rfl (Lof rfl (Lof rfl (Lpk rfl rfl rfl (Lnt (Gs.cond_t rfl (Gsr (La rfl (asC (awake_spec T)) ?_))))))))
  rintro _ _ ⟨_, ⟨rfl, rfl⟩, rfl⟩
  refine Las rfl rfl (Lnt (Gs.ret (Gr ?_)))
  exact Gs.fin1 Tryz.results4 rfl _ (⟨rfl, rfl⟩) (by repeat constructor)
 refine Lpu rfl rfl ⟨_, rfl, rfl⟩ (pu_move rfl) (Lac rfl rfl ⟨_, rfl, rfl⟩ (asC (lrec_spec 1 1 t)) ?_)
 rintro _ _ ⟨_, ⟨rfl, rfl⟩, rfl⟩
 refine Lac rfl rfl ⟨_, rfl, rfl⟩ (asC (recMay4_spec T.1 (noR t 1))) ?_
 rintro _ _ ⟨_, ⟨rfl, rfl⟩, rfl⟩
 refine Lpu rfl rfl ⟨_, rfl, rfl⟩ (pu_not rfl) (Lpk rfl rfl rfl (Lnt (Gs.cond rfl (fun hc0 => ?_) (fun hc0 => ?_))))
 ·
  refine Gsr (La rfl (asC (awake_spec T)) ?_)
  rintro _ _ ⟨_, ⟨rfl, rfl⟩, rfl⟩
  refine Las rfl rfl (Lnt (Gs.ret (Gr ?_)))
  exact Gs.fin1 Tryz.results4 rfl _ (⟨rfl, rfl⟩) (by repeat constructor)
 have ht : recB (noR t 1) = true := by simpa using hc0
 have hpl20 : ps.length ≤ 20 := by have := of_decide_eq_false hg3; omega
 refine Gs.skip (Gn (Gsr (La rfl (asC (nnew_ok T (id := 0) (n := 2) (room := 200000) (by decide) (by decide) (by decide) (by omega) (by decide))) ?_)))
 rintro _ _ ⟨_, ⟨b, rfl, rfl⟩, rfl⟩
 refine Lmv rfl rfl (Lq rfl (pu_extract rfl rfl) (Lq rfl (pu_extract rfl rfl) (Las rfl rfl (Las rfl rfl (Lnt (Gs.seq (Gsr (Lmv rfl rfl (Lq rfl (pu_eqN Tryz.underlying26 rfl rfl) (LpuBf rfl rfl trivial (pu_move rfl) rfl (Lpu rfl rfl ⟨_, rfl, rfl⟩ (pu_move rfl) ?_)))))))))))
 refine Lpu rfl rfl ⟨_, rfl, rfl⟩ (pu_ne rfl rfl) (Lpk rfl rfl rfl (Lnt (Gs.cond_ff rfl rfl (Gs.skip (Gn (Gsr (Las rfl rfl (Lnil (Gs.slNil 50 5 recC (Gn (Gs.seq ?_)))))))))))
 refine Gsr (Las rfl rfl (Lnt (Gs.block (Gs.loop1 (fun s : Nat × List Rec × Option Addr × Nat => s.1 ≤ K ∧ List.Perm s.2.1 (noL t s.1)) (fun s => [(0, int K), (1, .slice a0 ps.length c0), (2, .string t), (7, ptr b), (9, .slice s.2.2.1 s.2.1.length s.2.2.2), (10, int (s.1 + 1 : Nat))]) (fun s => [ndA b sk0, sl 50 5 recC s.2.2.1 s.2.2.2 s.2.1, ro h0] ++ R) (fun s => K - s.1) (0, [], none, 0) (⟨Nat.zero_le _, List.Perm.refl _⟩) (by repeat constructor) (by repeat constructor) (fun s hs => ?_)))))
 obtain ⟨k, rs, ra, rc⟩ := s
 obtain ⟨hk, hperm⟩ := hs
 dsimp only at hk hperm ⊢
 have hrl : rs.length = k := by rw [hperm.length_eq, ordL_len]
 refine Gs.seq (Gsr (Lmv rfl rfl (Lmv rfl rfl (Lq rfl (pu_le rfl rfl) (Lnt (Gs.cond rfl (fun hc2 => ?_) (fun hc2 => ?_)))))))
 ·
  have hlt : k < K := by have := of_decide_eq_true hc2; omega
  refine Gs.slLen (E := 50) (sz := 5) (enc := recC) (a := ra) (c := rc) (xs := rs) (by repeat constructor) fun hlc => ?_
  refine Gs.skip (Gn (Gs.seq (Gs.block (Gsr (Las rfl rfl (Lnt (Gs.seq (Gsr (Lmv rfl rfl (Lq rfl (pu_len Tryz.underlying30 rfl) (Lq rfl (pu_gt rfl rfl) ?_)))))))))))
  refine Lnt (Gs.cutS (σ := {m : Nat // m ≤ rs.length}) (fun s : {m : Nat // m ≤ rs.length} => [(0, int K), (1, .slice a0 ps.length c0), (2, .string t), (7, ptr b), (9, .slice ra rs.length rc), (10, int (k + 1 : Nat)), (11, int s.1)]) (fun s : {m : Nat // m ≤ rs.length} => [ndA b sk0, sl 50 5 recC ra rc rs, ro h0] ++ R) ?_ ?_)
  ·
   refine Gs.cond rfl (fun hc3 => ?_) (fun hc3 => ?_)
   ·
    have hp0 : 0 < ps.length := by have := of_decide_eq_true hc3; omega
    have hji : ((k + 1) % ps.length : Nat) < ps.length := Nat.mod_lt _ hp0
    obtain ⟨p, hp⟩ : ∃ p, ps[(k + 1) % ps.length]? = some p := ⟨ps[(k + 1) % ps.length], by simp [hji]⟩
    have hpe := hpa (by rintro rfl; simp at hp0)
    have hps2 : Srd (ro h0) 1 intC (some ⟨pb, po, none⟩) ps := by rw [← hpe]; exact hps
    obtain ⟨d1, d2⟩ := lowZ_in (a := p) (b := (rs.length : Int) + 1) (by omega) (by omega)
    obtain ⟨m, hmz⟩ : ∃ m : Nat, (m : Int) = lowZ p ((rs.length : Int) + 1) := ⟨(lowZ p ((rs.length : Int) + 1)).toNat, by omega⟩
    have hml : m ≤ rs.length := by omega
    have htm : ((k + 1 : Nat) : Int).tmod (ps.length : Int) = (((k + 1) % ps.length : Nat) : Int) := by
      rw [Int.tmod_eq_emod_of_nonneg (by omega)]; rfl
    refine Gs.reg (Lmv rfl rfl (Lmv rfl rfl (Lmv rfl rfl (Lq rfl (pu_len Tryz.underlying30 rfl) (Lq rfl (pu_rem rfl rfl (by omega)) ?_)))))
    rw [htm, hpe]
    refine Lq rfl (pu_ia se_30 rfl rfl (by omega) (by omega)) (Lr rfl (rd_ld na_3 rfl (Rdc.el0 (hps2.h (by repeat constructor)) hp rfl rfl)) ?_)
    refine Lmv rfl rfl (Lq rfl (pu_len Tryz.underlying32 rfl) (Lq rfl (by first | exact pu_addI rfl rfl rfl (by omega) (by omega) | exact pu_add rfl rfl) ?_))
    refine La rfl (asC (low_spec p ((rs.length : Int) + 1) (by omega) (by omega))) ?_
    rintro _ _ ⟨_, ⟨rfl, rfl⟩, rfl⟩
    rw [← hmz, ← hpe]
    refine Las rfl rfl (Lnt (Gs.cutEndS (E := fun s : {m : Nat // m ≤ rs.length} => [(0, int K), (1, .slice a0 ps.length c0), (2, .string t), (7, ptr b), (9, .slice ra rs.length rc), (10, int (k + 1 : Nat)), (11, int s.1)]) (I := fun s : {m : Nat // m ≤ rs.length} => [ndA b sk0, sl 50 5 recC ra rc rs, ro h0] ++ R) (by first | exact ⟨m, hml⟩ | exact ⟨0, Nat.zero_le _⟩) ?_ ?_))
    · repeat constructor
    · repeat constructor
   refine Gs.skip (Gn (Gs.cutEndS (E := fun s : {m : Nat // m ≤ rs.length} => [(0, int K), (1, .slice a0 ps.length c0), (2, .string t), (7, ptr b), (9, .slice ra rs.length rc), (10, int (k + 1 : Nat)), (11, int s.1)]) (I := fun s : {m : Nat // m ≤ rs.length} => [ndA b sk0, sl 50 5 recC ra rc rs, ro h0] ++ R) (by first | exact ⟨m, hml⟩ | exact ⟨0, Nat.zero_le _⟩) ?_ ?_))
   · repeat constructor
   · repeat constructor
  rintro ⟨m, hm⟩
  have hins : List.Perm (rs.take m ++ [noR t (k + 1)] ++ rs.drop m) (noL t (k + 1)) := by rw [ordL_succ]; exact insert_perm hperm _ m
  have htl : (rs.take m).length = m := by rw [List.length_take]; omega
  dsimp only
  refine Gs.regD mixed (by kernel_rfl) (Rmv 0 rfl (by kernel_rfl) rfl (Rmv 1 rfl (by kernel_rfl) rfl (Rq 2 rfl (by kernel_rfl) (pu_sliceH et_32 rfl rfl (by omega) (by omega)) (Rmv 4 rfl (by kernel_rfl) rfl (Rmv 5 rfl (by kernel_rfl) rfl (Rmv 9 rfl (by kernel_rfl) rfl (Rmv 10 rfl (by kernel_rfl) rfl (Rq 11 rfl (by kernel_rfl) (pu_sliceL et_32 rfl rfl (by omega) (by omega)) (Rg.one (by kernel_rfl) (Stp.ac 3 rfl rfl (by kernel_rfl) trivial (ac_copy et_32 ek_50 rfl rfl (SrcH.sl' (ys := rs.take m) Tryz.underlying32 ek_50 (by simp <;> omega) (SlH.cutH (SlH.own (by repeat constructor)) _ _ hlc)) (by first | omega | (simp; omega)) (by first | omega | (simp; omega)))  ?_))))))))))
  rintro _ _ ⟨a69, c69, rfl, rfl⟩
  refine Rg.one (by kernel_rfl) (Stp.ac 6 rfl rfl (by kernel_rfl) trivial (asC (lrec_spec 1 ((k + 1 : Nat) : Int) t))  ?_)
  rintro _ _ ⟨_, ⟨rfl, rfl⟩, rfl⟩
  refine Rg.one (by kernel_rfl) (Stp.ac 7 rfl rfl (by kernel_rfl) trivial (ac_lit encC_50 ([noR t (k + 1)]) et_32 ek_50 rfl (by repeat constructor) rfl rfl (by decide))  ?_)
  rintro _ _ ⟨a73, rfl, rfl⟩
  refine Rg.one (by kernel_rfl) (Stp.ac 8 rfl rfl (by kernel_rfl) trivial (ac_append (xs := rs.take m) (ys := [noR t (k + 1)]) et_32 ek_50 rfl rfl (by repeat constructor) (SrcH.sl Tryz.underlying32 ek_50 (SlH.own (by repeat constructor))) (by first | omega | (simp; omega)) (by first | omega | (simp; omega)))  ?_)
  rintro _ _ ⟨a74, c74, rfl, rfl⟩
  refine Rg.one (by kernel_rfl) (Stp.ac 12 rfl rfl (by kernel_rfl) trivial (ac_append (xs := rs.take m ++ [noR t (k + 1)]) et_32 ek_50 rfl rfl (by repeat constructor) (SrcH.sl' (ys := rs.drop m) Tryz.underlying32 ek_50 (by rw [List.length_drop]; rfl) (SlH.cutL (SlH.own (by repeat constructor)) _ _ hlc)) (by simp only [List.length_append, List.length_take, List.length_drop, List.length_cons, List.length_nil]; omega) (by simp only [List.length_append, List.length_take, List.length_drop, List.length_cons, List.length_nil]; omega))  ?_)
  rintro _ _ ⟨a78, c78, rfl, rfl⟩
  refine Rq 13 rfl (by kernel_rfl) (pu_assign rfl) (Rg.end (by kernel_rfl) (Gs.blk_n (Gn (Gs.reg (Lmv rfl rfl (Lq rfl (by first | exact pu_addI rfl rfl rfl (by omega) (by omega) | exact pu_add rfl rfl) ?_))))))
  refine Las rfl rfl (Lnt ?_)
  exact Ag (k + 1, rs.take m ++ [noR t (k + 1)] ++ rs.drop m, a78, c78) ⟨hlt, hins⟩ (by show K - (k + 1) < K - k; omega)
 have hge : k = K := by have := of_decide_eq_false hc2; omega
 subst hge
 have hmem : ∀ r ∈ rs, ∃ i, 1 ≤ i ∧ i ≤ k ∧ r = noR t i := fun r hr => ordL_mem.1 (hperm.subset hr)
 have hnd : rs.Nodup := hperm.nodup_iff.2 (ordL_nodup t k)
 refine Gs.slAddr (xs := rs) (SlH.own (E := 50) (enc := recC) (a := ra) (c := rc) (by repeat constructor)) fun ab ao ha => ?_
 refine Gs.exit (Gx (Gx (Gs.blk_hit (Gn (Gsr (Las rfl rfl (Lnt (Gs.seq (Gsr (Las rfl rfl (Lnt ?_)))))))))))
 refine Gs.block (Gs.loop1 (fun s : Nat × NdM => s.1 ≤ rs.length ∧ OrdI t (rs.take s.1) s.2) (fun s => [(0, int k), (7, ptr b), (9, .slice ra rs.length rc), (12, int (at0 s.2.s.v 1)), (13, int s.1)]) (fun s => [ndA b s.2, sl 50 5 recC ra rc rs, ro h0] ++ R) (fun s => rs.length - s.1) (0, sk0) (⟨Nat.zero_le _, ord_start t⟩) (by repeat constructor) (by repeat constructor) (fun s hs => ?_))
 obtain ⟨i, m⟩ := s
 obtain ⟨hi, hO⟩ := hs
 dsimp only at hi hO ⊢
 refine Gs.seq (Gsr (Lmv rfl rfl (Lmv rfl rfl (Lq rfl (pu_len Tryz.underlying32 rfl) (Lq rfl (pu_lt rfl rfl) (Lnt (Gs.cond rfl (fun hc4 => ?_) (fun hc4 => ?_))))))))
 ·
  have hlt : i < rs.length := by have := of_decide_eq_true hc4; omega
  obtain ⟨x, hx⟩ : ∃ x, rs[i]? = some x := ⟨rs[i], by simp [hlt]⟩
  obtain rfl := ha (by rintro rfl; simp at hlt)
  obtain ⟨j, j1, j2, rfl⟩ := hmem x (List.mem_of_getElem? hx)
  have htk : rs.take (i + 1) = rs.take i ++ [noR t j] := by rw [List.take_add_one, hx]; rfl
  have hil : (rs.take i).length = i := by rw [List.length_take]; omega
  have hfresh : ∀ r ∈ rs.take i, r.q ≠ (j : Int) := fun r hr e => by
    obtain ⟨j', -, -, rfl⟩ := hmem r (List.mem_of_mem_take hr)
    have e : (j' : Int) = (j : Int) := e
    have e : j' = j := by omega
    subst e
    obtain ⟨i', hi'⟩ := List.mem_iff_getElem?.1 hr
    have h2 : i' < (rs.take i).length := (List.getElem?_eq_some_iff.1 hi').1
    rw [List.getElem?_take_of_lt (by omega)] at hi'
    have := (List.getElem?_inj (l := rs) (h₀ := (by omega : i' < rs.length)) (h₁ := hnd)).1 (hi'.trans hx.symm)
    omega
  obtain ⟨c, m', hA, hO', hcc, q1, q2, q3⟩ := hO.step ht j1 (by omega) (by omega) hfresh
  rw [← htk] at hO'
  have p1 := hO.made
  have p2 := hO.recs
  have p3 := hO'.recs
  have hil' : (rs.take (i + 1)).length = i + 1 := by rw [List.length_take]; omega
  refine Gs.skip (Gn (Gs.seq (Gs.block (Gsr (Lmv rfl rfl (Lmv rfl rfl (Lmv rfl rfl (Lq rfl (pu_ia se_32 rfl rfl (by omega) (by omega)) (Lr rfl (rd_lda ag_50 rfl (Rdc.el0 (SlH.own (by repeat constructor)) hx rfl rfl) rfl) ?_)))))))))
  refine La rfl (ac_lit encC_50 ([noR t j]) et_32 ek_50 rfl (by repeat constructor) rfl rfl (by decide)) ?_
  rintro _ _ ⟨a91, rfl, rfl⟩
  refine La rfl (asC (ingest_spec T b m hO.ok (S := sl 50 5 recC (some ⟨a91, 0, none⟩) 1 [noR t j]) (rs := [noR t j]) Srd.own (by show m.made + m.held.length + 1 ≤ 98; omega) (by show m.s.rs.length + m.held.length + 1 ≤ 700; omega))) ?_
  rintro _ _ ⟨_, ⟨rfl, rfl⟩, rfl⟩
  rw [hA]
  dsimp only
  refine Lmv rfl rfl (Lq rfl (pu_extract rfl rfl) (Lq rfl (pu_extract rfl rfl) (Las rfl rfl (Las rfl rfl (Lnt (Gs.seq (Gsr (Lmv rfl rfl (Lq rfl (pu_ne rfl rfl) (LpuBf rfl rfl trivial (pu_move rfl) rfl (Lpu rfl rfl ⟨_, rfl, rfl⟩ (pu_move rfl) ?_)))))))))))
  refine Lac rfl rfl ⟨_, rfl, rfl⟩ (asC (gWaiting_spec hO'.ok)) ?_
  rintro _ _ ⟨_, ⟨wa, wc, rfl, rfl⟩, rfl⟩
  rw [sortK_length, List.length_map]
  refine Lpu rfl rfl ⟨_, rfl, rfl⟩ (pu_len Tryz.underlying54 rfl) (Lpu rfl rfl ⟨_, rfl, rfl⟩ (pu_move rfl) (Lpu rfl rfl ⟨_, rfl, rfl⟩ (pu_gt rfl rfl) (Lpk rfl rfl rfl (Lnt (Gs.cond_ff rfl (decide_eq_false (by omega)) (Gs.skip (Gn (Gs.reg (Lmv rfl rfl (Lmv rfl rfl (Lq rfl (pu_addI (z := at0 m'.s.v 1) rfl rfl (by omega) (by omega) (by omega)) ?_)))))))))))
  refine Las rfl rfl (Lnil (Gs.blk_n (Gn (Gs.reg (Lmv rfl rfl (Lq rfl (by first | exact pu_addI rfl rfl rfl (by omega) (by omega) | exact pu_add rfl rfl) ?_))))))
  refine Las rfl rfl (Lnt ?_)
  exact Ag (i + 1, m') ⟨hlt, hO'⟩ (by show rs.length - (i + 1) < rs.length - i; omega)
 have hge : i = rs.length := by have := of_decide_eq_false hc4; omega
 subst hge
 rw [List.take_length] at hO
 obtain ⟨w1, w2, w3⟩ := hO.all hperm
 have hok := hO.ok
 have p1 := hO.made
 have p2 := hO.recs
 have hv1 : at0 m.s.v 1 = (k : Int) := by rw [w1]; rfl
 have hold : ingA m rs = ((0, 0), m) := ingA_old rs fun r hr => by
   obtain ⟨i, i1, i2, rfl⟩ := hmem r hr
   refine ⟨ordR_may ht i1 (by omega), by rw [hO.n]; first | decide | exact of_decide_eq_true rfl, ?_⟩
   show (i : Int) ≤ at0 m.s.v 1
   omega
 rw [hv1]
 refine Gs.exit (Gx (Gx (Gs.blk_hit (Gn (Gsr (Lmv rfl rfl (La rfl (asC (gV_spec hok)) ?_)))))))
 rintro _ _ ⟨_, ⟨va, vc, rfl, rfl⟩, rfl⟩
 rw [w1]
 refine Las rfl rfl (Lnt (Gsr (Lmv rfl rfl (Lmv rfl rfl (La rfl (asC (ingest_spec T b m hok (S := sl 50 5 recC ra rc rs) (rs := rs) Srd.own (by omega) (by omega))) ?_)))))
 rintro _ _ ⟨_, ⟨rfl, rfl⟩, rfl⟩
 rw [hold]
 refine Lmv rfl rfl (Lq rfl (pu_extract rfl rfl) (Lq rfl (pu_extract rfl rfl) (Las rfl rfl (Las rfl rfl (Lnt (Gsr (Lmv rfl rfl (Lmv rfl rfl (Lq rfl (pu_eq rfl rfl) (LpuBt rfl rfl trivial (pu_move rfl) (by simp) ?_))))))))))
 refine Lpu rfl rfl ⟨_, rfl, rfl⟩ (pu_move rfl) (Lpu rfl rfl ⟨_, rfl, rfl⟩ (pu_move rfl) (Lac rfl rfl ⟨_, rfl, rfl⟩ (ac_lit encC_3 ([(0 : Int), (k : Int)]) et_30 ek_3 rfl (by repeat constructor) rfl rfl (by decide)) ?_))
 rintro _ _ ⟨a121, rfl, rfl⟩
 refine Lac rfl rfl ⟨_, rfl, rfl⟩ (asC (sameInts2_spec (S := sl 3 1 intC va vc [0, (k : Int)]) (U := sl 3 1 intC (some ⟨a121, 0, none⟩) 2 [0, (k : Int)]) (xs := [0, (k : Int)]) (ys := [0, (k : Int)]) Srd.own Srd.own (Nat.le_of_ble_eq_true rfl))) ?_
 rintro _ _ ⟨_, ⟨rfl, rfl⟩, rfl⟩
 refine Lpk rfl rfl rfl (LpuBt rfl rfl trivial (pu_move rfl) (by simp) ?_)
 refine Lpu rfl rfl ⟨_, rfl, rfl⟩ (pu_move rfl) (Lac rfl rfl ⟨_, rfl, rfl⟩ (asC (gRecords_spec hok)) ?_)
 rintro _ _ ⟨_, ⟨xa, xc, rfl, rfl⟩, rfl⟩
 rw [recsK_len hok.log.ok, w2]
 refine Lpu rfl rfl ⟨_, rfl, rfl⟩ (pu_len Tryz.underlying32 rfl) (Lpu rfl rfl ⟨_, rfl, rfl⟩ (pu_move rfl) (Lpu rfl rfl ⟨_, rfl, rfl⟩ (pu_eq rfl rfl) (Lpk rfl rfl rfl (LpuBt rfl rfl trivial (pu_move rfl) (by simp) ?_))))
 refine Lpu rfl rfl ⟨_, rfl, rfl⟩ (pu_move rfl) (Lac rfl rfl ⟨_, rfl, rfl⟩ (asC (gWaiting_spec hok)) ?_)
 rintro _ _ ⟨_, ⟨wa, wc, rfl, rfl⟩, rfl⟩
 rw [w3]
 refine Lpu rfl rfl ⟨_, rfl, rfl⟩ (pu_len Tryz.underlying54 rfl) (Lpu rfl rfl ⟨_, rfl, rfl⟩ (pu_eq rfl rfl) (Lpk rfl rfl rfl (LpuBt rfl rfl trivial (pu_move rfl) rfl (Lpu rfl rfl ⟨_, rfl, rfl⟩ (pu_move rfl) (Lpu rfl rfl ⟨_, rfl, rfl⟩ (pu_eq rfl rfl) (Lpk rfl rfl rfl (LpuBt rfl rfl trivial (pu_move rfl) rfl (Lpu rfl rfl ⟨_, rfl, rfl⟩ (pu_move rfl) (Lpu rfl rfl ⟨_, rfl, rfl⟩ (pu_eq rfl rfl) (Lpk rfl rfl rfl (LpuBt rfl rfl trivial (pu_move rfl) rfl ?_)))))))))))
 refine Lpu rfl rfl ⟨_, rfl, rfl⟩ (pu_move rfl) (Lac rfl rfl ⟨_, rfl, rfl⟩ (asC (gV_spec hok)) ?_)
 rintro _ _ ⟨_, ⟨ya, yc, rfl, rfl⟩, rfl⟩
 rw [w1]
 refine Lpu rfl rfl ⟨_, rfl, rfl⟩ (pu_move rfl) (Lac rfl rfl ⟨_, rfl, rfl⟩ (asC (sameInts2_spec (S := sl 3 1 intC ya yc [0, (k : Int)]) (U := sl 3 1 intC va vc [0, (k : Int)]) (xs := [0, (k : Int)]) (ys := [0, (k : Int)]) Srd.own Srd.own (Nat.le_of_ble_eq_true rfl))) ?_)
 rintro _ _ ⟨_, ⟨rfl, rfl⟩, rfl⟩
 refine Lpk rfl rfl rfl (LpuBt rfl rfl trivial (pu_move rfl) (by simp) ?_)
 refine Lac rfl rfl ⟨_, rfl, rfl⟩ (asC (awake_spec T)) ?_
 rintro _ _ ⟨_, ⟨rfl, rfl⟩, rfl⟩
 refine Lpk rfl rfl rfl (Las rfl rfl (Lnt (Gs.ret ?_)))
 exact Gs.fin1 Tryz.results4 rfl _ (⟨rfl, rfl⟩) (by repeat constructor)
end Go.Proofs.YtflfhpokmidnmaaGreatDoor
