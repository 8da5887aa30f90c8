/- What the closing leans on: part 14. -/
import Derived.Test.YtflfhpokmidnmaaGreatDoorWm
import Derived.Test.YtflfhpokmidnmaaGreatDoorWd
import Derived.Test.YtflfhpokmidnmaaGreatDoorWl
import Derived.Test.YtflfhpokmidnmaaGreatDoorWf
namespace Go.Sl
open Go
theorem Gs.toA {w0 : World} {n : Nat} {env : Env} {H : List HProp} {X : Act → World → Prop} {A B : HProp} (i : ∀ h, A h → B h) (g : Gs w0 n env (B :: H) X) : Gs w0 n env (A :: H) X := fun a w e s => g a w e (s.ent i)
end Go.Sl
namespace Go.Proofs.YtflfhpokmidnmaaGreatDoor
open Go Go.Sl Go.Gv Go.Kv Go.Po Go.Ix Go.Qu Go.Shelf Go.Dv Go.Bst
set_option maxRecDepth 100000
def recsK (s : StM) : List Rec := ofR s.rs (lackK s.v s.w s.w)
theorem lackK_mem {n : Nat} {s : StM} (h : OkM n s) {k : Key} : k ∈ lackK s.v s.w s.w ↔ k ∈ s.rs.map Rec.key := by
 unfold lackK
 rw [lackN_mem, StOk.keys h k, StOk.v h]
 constructor
 · rintro ⟨o, h1, h2, h3, h4⟩
   rw [topAt_self] at h3
   exact ⟨o, h1, h2, h3, h4⟩
 · rintro ⟨o, h1, h2, h3, h4⟩
   exact ⟨o, h1, h2, by rw [topAt_self]; exact h3, h4⟩
theorem ofR_keys {rs : List Rec} {ks : List Key} (h : ∀ k ∈ ks, k ∈ rs.map Rec.key) : (ofR rs ks).map Rec.key = ks := by
 unfold ofR
 rw [List.map_map]
 conv => rhs; rw [← List.map_id ks]
 refine List.map_congr_left fun k hk => ?_
 obtain ⟨r, hr, rfl⟩ := List.mem_map.1 (h k hk)
 show ((lookR rs r.key).getD Rec.zero).key = r.key
 cases hl : lookR rs r.key with
 | some x => exact (lookR_some hl).2
 | none => exact absurd (decide_eq_true rfl) (by have := List.find?_eq_none.1 hl r hr; exact this)
theorem ofR_mem {rs : List Rec} {ks : List Key} (h : ∀ k ∈ ks, k ∈ rs.map Rec.key) : ∀ r ∈ ofR rs ks, r ∈ rs := fun r hr => by
 unfold ofR at hr
 obtain ⟨k, hk, rfl⟩ := List.mem_map.1 hr
 obtain ⟨x, hx, rfl⟩ := List.mem_map.1 (h k hk)
 cases hl : lookR rs x.key with
 | some y => exact (lookR_some hl).1
 | none => exact absurd (decide_eq_true rfl) (by have := List.find?_eq_none.1 hl x hx; exact this)
theorem ascK_nodup {ks : List Key} (h : AscK ks) : ks.Nodup := h.imp fun {a b} hab e => by rw [e, before_irr] at hab; cases hab
theorem recsK_keys {n : Nat} {s : StM} (h : OkM n s) : (recsK s).map Rec.key = lackK s.v s.w s.w := ofR_keys fun _ hk => (lackK_mem h).1 hk
theorem recsK_mem {n : Nat} {s : StM} (h : OkM n s) : ∀ r ∈ recsK s, r ∈ s.rs := ofR_mem fun _ hk => (lackK_mem h).1 hk
theorem nodup_of_map {α β : Type} (f : α → β) {l : List α} (h : (l.map f).Nodup) : l.Nodup := (List.pairwise_map.1 h).imp fun hne e => hne (congrArg f e)
theorem recsK_perm {n : Nat} {s : StM} (h : OkM n s) : List.Perm (recsK s) s.rs := by
 have hk := recsK_keys h
 have hn : ((recsK s).map Rec.key).Nodup := by rw [hk]; exact ascK_nodup (lackK_asc _ _ _)
 refine (List.perm_ext_iff_of_nodup (nodup_of_map Rec.key hn) (nodup_of_map Rec.key (StOk.nd h))).2 fun r => ⟨recsK_mem h r, fun hr => ?_⟩
 have : r.key ∈ (recsK s).map Rec.key := by rw [hk, lackK_mem h]; exact List.mem_map.2 ⟨r, hr, rfl⟩
 obtain ⟨x, hx, hxk⟩ := List.mem_map.1 this
 rw [← key_inj (StOk.nd h) (recsK_mem h x hx) hr hxk]; exact hx
theorem recsK_len {n : Nat} {s : StM} (h : OkM n s) : (recsK s).length = s.rs.length := (recsK_perm h).length_eq
def lastR (rs : List Rec) : Int × Int := rs.foldl (fun t r => maxS [t, (r.w, r.c)]) (0, 0)
theorem lastR_take {rs : List Rec} {i : Nat} {r : Rec} (h : rs[i]? = some r) : lastR (rs.take (i + 1)) = maxS [lastR (rs.take i), (r.w, r.c)] := by
 unfold lastR; rw [List.take_add_one, h, List.foldl_append]; rfl
theorem rec_stamp {r : Rec} (h : recB r = true) : stampB r.w r.c = true := by
 unfold recB at h
 simp only [Bool.and_eq_true] at h
 exact h.1.2
theorem lastR_ok : ∀ (rs : List Rec), (∀ r ∈ rs, recB r = true) → clkB (lastR rs) = true := fun rs h => by
 have : ∀ (rs : List Rec) (t : Int × Int), clkB t = true → (∀ r ∈ rs, recB r = true) → clkB (rs.foldl (fun t r => maxS [t, (r.w, r.c)]) t) = true := by
   intro rs
   induction rs with
   | nil => intro t ht _; exact ht
   | cons r rs ih =>
     intro t ht hr
     refine ih _ ?_ fun x hx => hr x (by simp [hx])
     show clkB (maxS [t, (r.w, r.c)]) = true
     rw [max2]
     exact topC_ok (rec_stamp (hr r (by simp))) ht
 exact this rs (0, 0) (by decide) h
theorem shP_perm {x : Nat} {l rs : List Rec} (p : List.Perm l rs) : ∀ h, shP x l h → shP x rs h := fun _ ⟨y, a⟩ => ⟨⟨y.1, y.2.trans p⟩, a⟩
theorem treP_perm {x : Nat} {l rs : List Rec} (p : List.Perm l rs) : ∀ h, treP x l h → treP x rs h := fun _ ⟨y, a⟩ => ⟨⟨y.1, y.2.trans p⟩, a⟩
theorem openOk_spec {d : Nat} {n most : Int} {xs : List Cs} {Tx : HProp} (hT : RMs Tx) (h1 : 1 ≤ n) (h8 : n ≤ 8) (h : CsOk n xs) (hl : xs.length ≤ 900) (hk : ∀ x ∈ xs, x.k < 98) (hr : xs.filterMap after = [] → ((layE (zeroB n)).length : Int) ≤ most) :
   Ct Tryz.prog 53 [ptr d, int n] [drv d most (xs.map csF), Tx]
     (fun v hs => ∃ b a c es made ys, v = .tuple #[ptr b, .slice a es.length c, int 0] ∧ (St n made ys ∧ OpRel n xs made ys ∧ plainV es = flatS ys) ∧ hs = [lgr b d n ⟨made, ys.map (segP n)⟩, drv d most (ys.map segF), Tx, elO a c es]) := by
 have hsort : sortB (names (xs.map csF)) = (xs.map Cs.k).map nameK := sort_names (k := Cs.k) (fun _ => rfl) h.asc fun x hx => by have := hk x hx; omega
 have htop : topK (xs.map Cs.k) ≤ 97 := h.top fun x hx => by have := hk x hx; omega
 refine (open_spec (most := most) hT h1 h8 (by rw [List.length_map]; omega) hsort (fun k hkk => by
   obtain ⟨x, hx, rfl⟩ := List.mem_map.1 hkk
   exact hk x hx)).mono fun v hs hh => ?_
 by_cases hne : xs.filterMap after = []
 · have hr := hr hne
   have hA := openA_none (most := most) h hne
   have hE := app_new (most := most) (n := n) (k := topK (xs.map Cs.k) + 1) (by omega)
   rw [if_neg (by omega)] at hE
   rw [if_pos hE, app_newL (by omega) (by omega), ← (new_maps n (topK (xs.map Cs.k) + 1)).2] at hA
   rw [hA] at hh
   rcases hh with ⟨-, b, a, c, es, e1, e2, e3⟩ | ⟨e, -⟩
   · exact ⟨b, a, c, es, _, _, e1, ⟨newSeg_st h1 h8 (Nat.succ_pos _), .inr ⟨hne, rfl, rfl⟩, by rw [e2]; rfl⟩, e3⟩
   · exact absurd rfl e
 · have hA := openA_cs (most := most) h hne
   rw [hA] at hh
   rcases hh with ⟨-, b, a, c, es, e1, e2, e3⟩ | ⟨e, -⟩
   · exact ⟨b, a, c, es, _, _, e1, ⟨⟨h.inv, hne⟩, .inl ⟨hne, rfl, rfl⟩, e2⟩, e3⟩
   · exact absurd rfl e
def openM (id n : Nat) (wall room : Int) (made : Nat) (ys : List Seg) : NdM := ⟨id, n, wall, room, lastR (recsK (playM n (flatS ys))), playM n (flatS ys), [], made, ys⟩
abbrev ndX (p : Nat → Value) (id n : Nat) (wall : Int) (u : Bool) (dk : Nat) : List Value := [p 0, p 1, p 2, p 3, p 4, p 5, int id, int n, int wall, .bool u, ptr dk]
theorem heldNew12 : Ct Tryz.prog 57 [int 12] [] (fun v hs => ∃ b m, v = ptr b ∧ hs = [cl b 136 (heldC 12 m), mp keyV recV m (ents [])]) :=
 (new_specH 12).mono fun v hs h => by
   rcases h with ⟨h, -⟩ | h
   · omega
   · exact h.2.2
def stepsI (n : Nat) (es : List EntP) (i : Nat) : StM := (es.take i).foldl stepM (raiM (zeroM n) ((es.head?.map EntP.v).getD []))
theorem stepsI_succ {n : Nat} {es : List EntP} {i : Nat} {e : EntP} (h : es[i]? = some e) : stepsI n es (i + 1) = stepM (stepsI n es i) e := by
 unfold stepsI; rw [List.take_add_one, h, List.foldl_append]; rfl
theorem stepsI_ok (n : Nat) (es : List EntP) (i : Nat) : OkM n (stepsI n es i) := OkM.steps _ ((OkM.zero n).rai _)
theorem nopen_spec {h0 : Hp} (T : TabX h0) (b : Nat) (p : Nat → Value) (id n : Nat) (wall room : Int) (u : Bool) (dk : Nat) {cs : List Cs} (h1 : 1 ≤ n) (h8 : n ≤ 8) (h : CsOk n cs) (hl : cs.length ≤ 900) (hk : ∀ x ∈ cs, x.k < 98)
   (hr : cs.filterMap after = [] → ((layE (zeroB n)).length : Int) ≤ room) (hsz : ∀ made ys, OpRel n cs made ys → (playM n (flatS ys)).rs.length ≤ 700 ∧ (flatS ys).length ≤ 2000000) :
   Ct Tryz.prog 31 [ptr b] [cl b 76 (ndX p id n wall u dk), drv dk room (cs.map csF), ro h0]
     (fun v hs => ∃ q made ys, v = int 0 ∧ OpRel n cs made ys ∧ hs = ndL b q (openM id n wall room made ys) ++ [ro h0]) := by
 refine Cti Tryz.func31 (by kernel_rfl) 99 Tryz.ntmps31 rfl rfl fun w0 R => ?_
 refine Gsr (Las rfl rfl (Lnt (Gs.seq (Gs.regD mixed (by kernel_rfl) (Rmv 0 rfl (by kernel_rfl) rfl (Rq 1 rfl (by kernel_rfl) (by first | exact pu_nil rfl | exact pu_nilF rfl) ?_))))))
 refine Rq 2 rfl (by kernel_rfl) (pu_fa fa_76_5 rfl) (Rr 3 rfl (by kernel_rfl) (rd_ld na_40 rfl (Rdc.cl1 (by repeat constructor) rfl)) ?_)
 refine Rmv 4 rfl (by kernel_rfl) rfl (Rq 5 rfl (by kernel_rfl) (by first | exact pu_nil rfl | exact pu_nilF rfl) ?_)
 refine Rq 6 rfl (by kernel_rfl) (pu_fa fa_76_2 rfl) (Rr 7 rfl (by kernel_rfl) (rd_ld na_3 rfl (Rdc.cl1 (by repeat constructor) rfl)) ?_)
 refine Rg.one (by kernel_rfl) (Stp.ac 8 rfl rfl (by kernel_rfl) trivial (asC (openOk_spec (rms_ro T.1) (by omega) (by omega) h hl hk hr))  ?_)
 rintro _ _ ⟨_, ⟨lg, ea, ec, es, made, ys, rfl, ⟨hst, hop, hes⟩, rfl⟩, rfl⟩
 refine Rmv 9 rfl (by kernel_rfl) rfl (Rq 10 rfl (by kernel_rfl) (pu_extract rfl rfl) (Rq 11 rfl (by kernel_rfl) (pu_extract rfl rfl) (Rq 12 rfl (by kernel_rfl) (pu_extract rfl rfl) (Rq 13 rfl (by kernel_rfl) (pu_assign rfl) (Rq 14 rfl (by kernel_rfl) (pu_assign rfl) (Rq 15 rfl (by kernel_rfl) (pu_assign rfl) (Rg.end (by kernel_rfl) ?_)))))))
 have hsz := hsz made ys hop
 have hel : es.length = (flatS ys).length := by rw [← hes]; simp [plainV]
 have hne := flat_ne hst
 obtain ⟨e0, he0⟩ : ∃ e0, es[0]? = some e0 := by
   cases hc : es with
   | nil => rw [hc] at hel; exact (hne (List.length_eq_zero_iff.1 hel.symm)).elim
   | cons e r => exact ⟨e, rfl⟩
 have hpes : plainV es = flatS ys := hes
 have hhd : ((flatS ys).head?.map EntP.v).getD [] = e0.v.xs := by
   rw [← hes]
   cases hc : es with
   | nil => rw [hc] at he0; cases he0
   | cons e r => rw [hc] at he0; cases he0; rfl
 have hfin : stepsI n (flatS ys) (flatS ys).length = playM n (flatS ys) := by unfold stepsI; rw [List.take_length]; rfl
 have h00 : stepsI n (flatS ys) 0 = raiM (zeroM n) e0.v.xs := by unfold stepsI; rw [hhd]; rfl
 have hev := (erd_elO ea ec es).2
 refine Gs.slAddr ((erd_elO ea ec es).1.h (by repeat constructor)) fun eb eo hea => ?_
 obtain rfl := hea (by rintro rfl; cases he0)
 have hes0 : 0 < es.length := (List.getElem?_eq_some_iff.1 he0).1
 refine Gn (Gs.seq (Gsr (Lmv rfl rfl (Lq rfl (pu_ne rfl rfl) (Lnt (Gs.cond_ff rfl rfl (Gs.skip (Gn (Gsr (Lmv rfl rfl (Lq rfl (by first | exact pu_nil rfl | exact pu_nilF rfl) ?_)))))))))))
 refine Lq rfl (pu_fa fa_76_2 rfl) (Lr rfl (rd_ld na_3 rfl (Rdc.cl1 (by repeat constructor) rfl)) ?_)
 refine La rfl (asC (snewSt_spec n h1 h8)) ?_
 rintro _ _ ⟨_, ⟨st, rfl, rfl⟩, rfl⟩
 refine Lmv rfl rfl (La rfl (asC (snew_spec)) ?_)
 rintro _ _ ⟨_, ⟨sh, rfl, rfl⟩, rfl⟩
 refine La rfl (asC (treNew_spec)) ?_
 rintro _ _ ⟨_, ⟨tr, rfl, rfl⟩, rfl⟩
 refine La rfl (asC (heldNew12)) ?_
 rintro _ _ ⟨_, ⟨he, mh, rfl, rfl⟩, rfl⟩
 refine Lq rfl (pu_build bd_74 (by repeat constructor) rfl) ?_
 refine La rfl (ac_alloc zv_74 rfl) ?_
 rintro _ _ ⟨mb, rfl, rfl⟩
 refine Lac0 rfl trivial (ac_st sz_74 rfl rfl (by repeat constructor) rfl rfl rfl rfl) ?_
 rintro _ _ rfl
 refine Lnt (Gs.seq (Gs.regD mixed (by kernel_rfl) (Rq 0 rfl (by kernel_rfl) (pu_fa fa_74_0 rfl) (Rr 1 rfl (by kernel_rfl) (rd_ld na_67 rfl (Rdc.cl1 (by repeat constructor) rfl)) ?_))))
 refine Rmv 2 rfl (by kernel_rfl) rfl (Rq 3 rfl (by kernel_rfl) (pu_ia se_98 rfl rfl (by omega) (by omega)) (Rq 4 rfl (by kernel_rfl) (pu_fa fa_106_1 rfl) (Rr 5 rfl (by kernel_rfl) (rd_ld na_30 rfl (Rdc.elp 1 ((erd_elO _ ec es).1.h (by repeat constructor)) he0 rfl rfl)) ?_)))
 refine Rg.one (by kernel_rfl) (Stp.ac 6 rfl rfl (by kernel_rfl) trivial (asC (raise_spec (S := elO (some ⟨eb, eo, none⟩) ec es) st (zeroM n) (OkM.zero n) h1 h8 (hev e0 (List.mem_of_getElem? he0)).1))  ?_)
 rintro _ _ ⟨_, ⟨⟨e1, rfl⟩, rfl⟩, rfl⟩
 rw [← h00]
 refine Rg.end (by kernel_rfl) (Gn (Gs.seq (Gsr (Lmv rfl rfl (Lq rfl (pu_len Tryz.underlying98 rfl) (Lmv rfl rfl (Lnt (Gs.block (Gs.loop1 (fun i : Nat => i ≤ es.length) (fun i => [(0, ptr b), (3, ptr lg), (6, ptr mb), (45, .slice (some ⟨eb, eo, none⟩) es.length ec), (46, int es.length), (47, int i)]) (fun i => [cl b 76 (ndX p id n wall u dk), cl mb 74 [ptr st, .pointer none, ptr sh, ptr tr, ptr he, ptr lg], stA st (stepsI n (flatS ys) i).v (stepsI n (flatS ys) i).w (stepsI n (flatS ys) i).rs, shA sh [], tre tr [], cl he 136 (heldC 12 mh), mp keyV recV mh (ents []), lgr lg dk n ⟨made, ys.map (segP n)⟩, drv dk room (ys.map segF), elO (some ⟨eb, eo, none⟩) ec es, ro h0] ++ R) (fun i => es.length - i) 0 (Nat.zero_le _) (by repeat constructor) (by repeat constructor) (fun i hi => ?_))))))))))
 refine Gsr (Lq rfl (pu_lt rfl rfl) (Lnt (Gs.seq (Gs.cond rfl (fun hc1 => ?_) (fun hc1 => ?_)))))
 ·
  have hlt : i < es.length := by have := of_decide_eq_true hc1; omega
  obtain ⟨e, he⟩ : ∃ e, es[i]? = some e := ⟨es[i], by simp [hlt]⟩
  have hfe : (flatS ys)[i]? = some e.p := by rw [← hes, plainV, List.getElem?_map, he]; rfl
  have hsn := stepsI_succ (n := n) hfe
  have hoki := stepsI_ok n (flatS ys) i
  have hevi := hev e (List.mem_of_getElem? he)
  refine Gs.skip (Gn (Gs.seq (Gs.block (Gsr (Lq rfl (pu_ia se_98 rfl rfl (by omega) (by omega)) (Lr rfl (rd_lda ag_106 rfl (Rdc.el0 ((erd_elO _ ec es).1.h (by repeat constructor)) he rfl rfl) rfl) ?_))))))
  refine La rfl (ac_alloc zv_106 rfl) ?_
  rintro _ _ ⟨xb, rfl, rfl⟩
  refine Lac0 rfl trivial (ac_st sz_106 rfl rfl (by repeat constructor) rfl rfl rfl rfl) ?_
  rintro _ _ rfl
  refine Lnt (Gsr (Lq rfl (pu_fa fa_106_0 rfl) (Lr rfl (rd_ld na_3 rfl (Rdc.cl1 (by repeat constructor) rfl)) ?_)))
  refine Lq rfl (pu_eq rfl rfl) (Lnt (Gs.cond rfl (fun hc2 => ?_) (fun hc2 => ?_)))
  ·
   have hk2 : e.p.kind = 2 := of_decide_eq_true hc2
   have hst2 : stepsI n (flatS ys) (i + 1) = accM (stepsI n (flatS ys) i) e.r := by rw [hsn]; unfold stepM; rw [if_pos hk2]; rfl
   refine Gs.reg (Lq rfl (pu_fa fa_74_0 rfl) (Lr rfl (rd_ld na_67 rfl (Rdc.cl1 (by repeat constructor) rfl)) ?_))
   refine Lq rfl (pu_fa fa_106_3 rfl) (Lr rfl (rd_lda ag_50 rfl (Rdc.cl 5 (by repeat constructor) rfl) rfl) ?_)
   refine La rfl (asC (accept_spec T.1 st (stepsI n (flatS ys) i) hoki h8 e.r)) ?_
   rintro _ _ ⟨_, ⟨⟨e2, rfl⟩, rfl⟩, rfl⟩
   refine Lnil (Gs.blk_n (Gn (Gs.reg (Lq rfl (by first | exact pu_addI rfl rfl rfl (by omega) (by omega) | exact pu_add rfl rfl) ?_))))
   refine Lmv rfl rfl (Lnt ?_)
   exact Gs.again1 (i + 1) hlt (by show es.length - (i + 1) < es.length - i; omega) (by repeat constructor) (by simp only [hst2]; repeat constructor)
  have hk2 : ¬ e.p.kind = 2 := of_decide_eq_false hc2
  have hst2 : stepsI n (flatS ys) (i + 1) = raiM (stepsI n (flatS ys) i) e.w.xs := by rw [hsn]; unfold stepM; rw [if_neg hk2]; rfl
  refine Gs.reg (Lq rfl (pu_fa fa_74_0 rfl) (Lr rfl (rd_ld na_67 rfl (Rdc.cl1 (by repeat constructor) rfl)) ?_))
  refine Lq rfl (pu_fa fa_106_2 rfl) (Lr rfl (rd_ld na_30 rfl (Rdc.cl1 (by repeat constructor) rfl)) ?_)
  refine La rfl (asC (raise_spec (S := elO (some ⟨eb, eo, none⟩) ec es) st (stepsI n (flatS ys) i) hoki h1 h8 hevi.2)) ?_
  rintro _ _ ⟨_, ⟨⟨e2, rfl⟩, rfl⟩, rfl⟩
  refine Lnil (Gs.blk_n (Gn (Gs.reg (Lq rfl (by first | exact pu_addI rfl rfl rfl (by omega) (by omega) | exact pu_add rfl rfl) ?_))))
  refine Lmv rfl rfl (Lnt ?_)
  exact Gs.again1 (i + 1) hlt (by show es.length - (i + 1) < es.length - i; omega) (by repeat constructor) (by simp only [hst2]; repeat constructor)
 have hge : i = es.length := by have := of_decide_eq_false hc1; omega
 rw [hge, hel, hfin]
 obtain ⟨S1, hS1⟩ : ∃ S1, S1 = playM n (flatS ys) := ⟨_, rfl⟩
 have hok1 : OkM n S1 := by rw [hS1]; exact OkM.play n _
 rw [← hS1] at hsz ⊢
 have hkeys := recsK_keys hok1
 have hrl := recsK_len hok1
 have hrm := recsK_mem hok1
 refine Gs.exit (Gx (Gx (Gs.blk_hit (Gn (Gsr (La rfl (ac_alloc zv_48 rfl) ?_))))))
 rintro _ _ ⟨lb, rfl, rfl⟩
 refine Lnt (Gs.seq (Gsr (Lq rfl (pu_fa fa_74_0 rfl) (Lr rfl (rd_ld na_67 rfl (Rdc.cl1 (by repeat constructor) rfl)) ?_))))
 refine La rfl (asC (srecords_spec st hok1 h8)) ?_
 rintro _ _ ⟨_, ⟨ra, rc, rfl, rfl⟩, rfl⟩
 refine Lq rfl (pu_len Tryz.underlying32 rfl) (Lmv rfl rfl (Lnil (Gs.slAddr (xs := recsK S1) (SlH.own (E := 50) (enc := recC) (a := ra) (c := rc) (by repeat constructor)) fun ab ao ha => ?_)))
 refine Gs.takes (As := [shA sh []]) (by repeat constructor) (Gs.toA (shP_of (List.Perm.refl [])) ?_)
 refine Gs.takes (As := [tre tr []]) (by repeat constructor) (Gs.toA (treP_of (List.Perm.refl [])) ?_)
 refine Gn (Gs.block (Gs.loop1 (fun i : Nat => i ≤ (recsK S1).length) (fun i => [(0, ptr b), (6, ptr mb), (9, ptr lb), (67, .slice ra (recsK S1).length rc), (68, int (recsK S1).length), (69, int i)]) (fun i => [cl b 76 (ndX p id n wall u dk), cl mb 74 [ptr st, .pointer none, ptr sh, ptr tr, ptr he, ptr lg], cl lb 48 (clC (lastR ((recsK S1).take i))), stA st S1.v S1.w S1.rs, shP sh ((recsK S1).take i), treP tr ((recsK S1).take i), sl 50 5 recC ra rc (recsK S1), cl he 136 (heldC 12 mh), mp keyV recV mh (ents []), lgr lg dk n ⟨made, ys.map (segP n)⟩, drv dk room (ys.map segF), ro h0] ++ R) (fun i => (recsK S1).length - i) 0 (Nat.zero_le _) (by repeat constructor) (by repeat constructor) (fun i hi => ?_)))
 refine Gsr (Lq rfl (pu_lt rfl rfl) (Lnt (Gs.seq (Gs.cond rfl (fun hc3 => ?_) (fun hc3 => ?_)))))
 ·
  have hlt : i < (recsK S1).length := by have := of_decide_eq_true hc3; omega
  obtain ⟨x, hx⟩ : ∃ x, (recsK S1)[i]? = some x := ⟨(recsK S1)[i], by simp [hlt]⟩
  obtain rfl := ha (by intro e; rw [e] at hlt; simp at hlt)
  have hxm := List.mem_of_getElem? hx
  have hxb := StOk.may hok1 x (hrm x hxm)
  have hlst := lastR_take hx
  have htk : (recsK S1).take i ++ [x] = (recsK S1).take (i + 1) := by rw [List.take_add_one, hx]; rfl
  have hni : x.key ∉ ((recsK S1).take i).map Rec.key := by
    have hnd : ((recsK S1).map Rec.key).Nodup := by rw [hkeys]; exact ascK_nodup (lackK_asc _ _ _)
    rw [← List.take_append_drop i (recsK S1), List.map_append, List.nodup_append] at hnd
    intro hc
    refine hnd.2.2 _ hc x.key (List.mem_map.2 ⟨x, ?_, rfl⟩) rfl
    rw [List.drop_eq_getElem_cons hlt]
    rw [List.getElem?_eq_getElem hlt] at hx
    cases hx; exact List.mem_cons_self ..
  have htl : ((recsK S1).take i).length ≤ 700 := by rw [List.length_take]; omega
  refine Gs.skip (Gn (Gs.seq (Gs.block (Gsr (Lq rfl (pu_ia se_32 rfl rfl (by omega) (by omega)) (Lr rfl (rd_lda ag_50 rfl (Rdc.el0 (SlH.own (by repeat constructor)) hx rfl rfl) rfl) ?_))))))
  refine La rfl (ac_alloc zv_50 rfl) ?_
  rintro _ _ ⟨xb, rfl, rfl⟩
  refine Lac0 rfl trivial (ac_st sz_50 rfl rfl (by repeat constructor) rfl rfl rfl rfl) ?_
  rintro _ _ rfl
  refine Lnt (Gsr (Lr rfl (rd_lda ag_48 rfl (Rdc.cl 2 (by repeat constructor) rfl) rfl) ?_))
  refine Lq rfl (pu_fa fa_50_1 rfl) (Lr rfl (rd_lda ag_48 rfl (Rdc.cl 2 (by repeat constructor) rfl) rfl) ?_)
  refine La rfl (ac_lit encC_48 ([lastR ((recsK S1).take i), (x.w, x.c)]) et_163 ek_48 rfl (by repeat constructor) rfl rfl (by decide)) ?_
  rintro _ _ ⟨a76, rfl, rfl⟩
  refine La rfl (asC (smax_spec (S := sl 48 2 clC (some ⟨a76, 0, none⟩) 2 [lastR ((recsK S1).take i), (x.w, x.c)]) (xs := [lastR ((recsK S1).take i), (x.w, x.c)]) Srd.own (Nat.le_of_ble_eq_true rfl))) ?_
  rintro _ _ ⟨_, ⟨rfl, rfl⟩, rfl⟩
  rw [← hlst]
  refine Lac0 rfl trivial (ac_st sz_48 rfl rfl (by repeat constructor) rfl rfl rfl rfl) ?_
  rintro _ _ rfl
  refine Lnt (Gsr (Lq rfl (pu_fa fa_74_2 rfl) (Lr rfl (rd_ld na_69 rfl (Rdc.cl1 (by repeat constructor) rfl)) ?_)))
  refine Lr rfl (rd_lda ag_50 rfl (Rdc.cl 5 (by repeat constructor) rfl) rfl) ?_
  refine La rfl (ac_lit encC_50 ([x]) et_32 ek_50 rfl (by repeat constructor) rfl rfl (by decide)) ?_
  rintro _ _ ⟨a81, rfl, rfl⟩
  refine La rfl (asC (shPut_spec T sh ((recsK S1).take i) x hxb hni htl (some ⟨a81, 0, none⟩) 1)) ?_
  rintro _ _ ⟨_, ⟨⟨e2, rfl⟩, rfl⟩, rfl⟩
  rw [htk]
  refine Lnt (Gs.reg (Lq rfl (pu_fa fa_74_3 rfl) (Lr rfl (rd_ld na_70 rfl (Rdc.cl1 (by repeat constructor) rfl)) ?_)))
  refine Lr rfl (rd_lda ag_50 rfl (Rdc.cl 5 (by repeat constructor) rfl) rfl) ?_
  refine La rfl (ac_lit encC_50 ([x]) et_32 ek_50 rfl (by repeat constructor) rfl rfl (by decide)) ?_
  rintro _ _ ⟨a86, rfl, rfl⟩
  refine La rfl (asC (trPut_spec T tr ((recsK S1).take i) x hxb hni (by omega) (some ⟨a86, 0, none⟩) 1)) ?_
  rintro _ _ ⟨_, ⟨⟨e3, rfl⟩, rfl⟩, rfl⟩
  rw [htk]
  refine Lnil (Gs.blk_n (Gn (Gs.reg (Lq rfl (by first | exact pu_addI rfl rfl rfl (by omega) (by omega) | exact pu_add rfl rfl) ?_))))
  refine Lmv rfl rfl (Lnt ?_)
  exact Ag (i + 1) hlt (by show (recsK S1).length - (i + 1) < (recsK S1).length - i; omega)
 have hge : i = (recsK S1).length := by have := of_decide_eq_false hc3; omega
 rw [hge, List.take_length]
 have hlo : stampB (lastR (recsK S1)).1 (lastR (recsK S1)).2 = true := lastR_ok _ fun r hr => StOk.may hok1 r (hrm r hr)
 refine Gs.exit (Gx (Gx (Gs.blk_hit (Gn (Gsr (Lr rfl (rd_lda ag_48 rfl (Rdc.cl 2 (by repeat constructor) rfl) rfl) ?_))))))
 refine La rfl (asC (cnew_spec (lastR (recsK S1)).1 (lastR (recsK S1)).2 hlo)) ?_
 rintro _ _ ⟨_, ⟨cb, rfl, rfl⟩, rfl⟩
 refine Lq rfl (pu_fa fa_74_1 rfl) (Lac0 rfl trivial (ac_st sz_68 rfl rfl (by repeat constructor) rfl rfl rfl rfl) ?_)
 rintro _ _ rfl
 refine Lnt (Gsr (Lmv rfl rfl (Lmv rfl rfl (Lr rfl (rd_lda ag_74 rfl (Rdc.cl 6 (by repeat constructor) rfl) rfl) ?_))))
 refine Lq rfl (by first | exact pu_nil rfl | exact pu_nilF rfl) ?_
 refine Lq rfl (pu_fa fa_76_0 rfl) (Lac0 rfl trivial (ac_st sz_74 rfl rfl (by repeat constructor) rfl rfl rfl rfl) ?_)
 rintro _ _ rfl
 refine Lq rfl (by first | exact pu_nil rfl | exact pu_nilF rfl) ?_
 refine Lq rfl (pu_fa fa_76_4 rfl) (Lac0 rfl trivial (ac_st sz_4 rfl rfl (by repeat constructor) rfl rfl rfl rfl) ?_)
 rintro _ _ rfl
 refine Lnt (Gsr (Las rfl rfl (Lnt (Gs.ret ?_))))
 subst hS1
 refine Gs.takes (As := [shP sh (recsK _)]) (by repeat constructor) (Gs.toA (shP_perm (recsK_perm hok1)) ?_)
 refine Gs.takes (As := [treP tr (recsK _)]) (by repeat constructor) (Gs.toA (treP_perm (recsK_perm hok1)) ?_)
 exact Gs.fin1 Tryz.results31 rfl _ (⟨⟨st, cb, sh, tr, he, mh, lg, dk⟩, made, ys, rfl, hop, rfl⟩) (by repeat constructor)
end Go.Proofs.YtflfhpokmidnmaaGreatDoor
namespace Go.Proofs.YtflfhpokmidnmaaGreatDoor
open Go Go.Sl Go.Gv Go.Kv Go.Po Go.Ix Go.Qu Go.Shelf Go.Dv Go.Bst
set_option maxRecDepth 100000
theorem nsync_spec (b : Nat) (m : NdM) (h : NdOk m) (hm : m.made < 98) :
   Ct Tryz.prog 18 [ptr b] [ndA b m] (fun v hs => v = int 0 ∧ hs = [ndA b (syncM m)]) := by
 have hxl := h.log.len
 have h8 := h.n8
 have hwl := StOk.w h.log.ok
 obtain ⟨htr, -, -⟩ := trim_is h.log hm m.s.w
 refine Cti Tryz.func18 (by kernel_rfl) 25 Tryz.ntmps18 rfl rfl fun w0 R => ?_
 refine Gs.nd fun q => ?_
 refine Gsr (Las rfl rfl (Lnt (Gs.seq (Gsr (Lmv rfl rfl (La rfl (asC (ndown_spec b q m.id m.n m.wall)) ?_))))))
 rintro _ _ ⟨_, ⟨rfl, rfl⟩, rfl⟩
 refine Las rfl rfl (Lnt (Gsr (Lmv rfl rfl (Lq rfl (pu_ne rfl rfl) (Lnt (Gs.cond_ff rfl rfl (Gs.skip (Gn (Gsr (Lmv rfl rfl (Lq rfl (by first | exact pu_nil rfl | exact pu_nilF rfl) ?_)))))))))))
 refine Lq rfl (pu_fa fa_76_0 rfl) (Lq rfl (pu_fa fa_74_5 rfl) (Lr rfl (rd_ld na_72 rfl (Rdc.cl1 (by repeat constructor) rfl)) ?_))
 refine La rfl (asC (syncSt_spec (b := q.lg) (d := q.dk) (n := m.n) (most := m.room) (made := m.made) (xs := m.xs) (by omega))) ?_
 rintro _ _ ⟨_, ⟨rfl, rfl⟩, rfl⟩
 refine Las rfl rfl (Lnil ?_)
 rw [← syn_segP (m.n) m.xs]
 refine Gn (Gs.seq (Gs.regD mixed (by kernel_rfl) (Rmv 0 rfl (by kernel_rfl) rfl (Rq 1 rfl (by kernel_rfl) (by first | exact pu_nil rfl | exact pu_nilF rfl) ?_))))
 refine Rq 2 rfl (by kernel_rfl) (pu_fa fa_76_0 rfl) (Rq 3 rfl (by kernel_rfl) (pu_fa fa_74_5 rfl) (Rr 4 rfl (by kernel_rfl) (rd_ld na_72 rfl (Rdc.cl1 (by repeat constructor) rfl)) ?_))
 refine Rmv 5 rfl (by kernel_rfl) rfl (Rg.one (by kernel_rfl) (Stp.acR 6 [4] rfl rfl (by kernel_rfl) trivial (asC (nW_spec b q m.id m.n m.wall m.s.v m.s.w m.s.rs (by omega))) (by rintro _ _ ⟨_, ⟨wa, wc, rfl, rfl⟩, rfl⟩; exact (Reads.cons rfl rfl rfl trivial rfl (rd_ld na_72 rfl (Rdc.cl1 (by repeat constructor) rfl)) Reads.nil)) ?_))
 rintro _ _ ⟨_, ⟨wa, wc, rfl, rfl⟩, rfl⟩
 refine Rg.one (by kernel_rfl) (Stp.ac 7 rfl rfl (by kernel_rfl) trivial (asC (trim_spec (b := q.lg) (d := q.dk) (n := m.n) (most := m.room) (made := m.made) (ps := (m.xs.map syn).map (segP m.n)) (D := (m.xs.map syn).map segF) (U := sl 3 1 intC wa wc m.s.w) (w := m.s.w) Srd.own (by rw [List.length_map, List.length_map]; omega) (fun p hp => by obtain ⟨x, -, rfl⟩ := List.mem_map.1 hp; rw [show (segP m.n x).t = topsOf m.n x.es from rfl, tops_len]; omega)))  ?_)
 rintro _ _ ⟨_, ⟨rfl, rfl⟩, rfl⟩
 rw [htr]
 refine Rg.end (by kernel_rfl) (Gn (Gsr (Lmv rfl rfl (Las rfl rfl (Lnt (Gs.ret (Gs.takes (As := ndL b q (syncM m)) (by repeat constructor) (Gs.ndc q ?_))))))))
 exact Gs.fin1 Tryz.results18 rfl _ (⟨rfl, rfl⟩) (by repeat constructor)
structure NdD where
 p : Nat → Value
 dk : Nat
def ndD (b id n : Nat) (wall room : Int) (D : List Fl) : HProp := fun h => ∃ y : NdD, two (cl b 76 (ndX y.p id n wall false y.dk)) (drv y.dk room D) h
theorem Gs.ndd {w0 : World} {N : Nat} {env : Env} {H : List HProp} {X : Act → World → Prop} {b id n : Nat} {wall room : Int} {D : List Fl} (g : ∀ y : NdD, Gs w0 N env (cl b 76 (ndX y.p id n wall false y.dk) :: drv y.dk room D :: H) X) : Gs w0 N env (ndD b id n wall room D :: H) X :=
 Gs.ex (A := fun y : NdD => two (cl b 76 (ndX y.p id n wall false y.dk)) (drv y.dk room D)) fun y => Gs.two (g y)
theorem Gs.nddc {w0 : World} {N : Nat} {env : Env} {H : List HProp} {X : Act → World → Prop} {b id n : Nat} {wall room : Int} {D : List Fl} (y : NdD) (g : Gs w0 N env (ndD b id n wall room D :: H) X) : Gs w0 N env (cl b 76 (ndX y.p id n wall false y.dk) :: drv y.dk room D :: H) X :=
 Gs.toTwo (Gs.toA (fun h a => ⟨y, a⟩) g)
def memP (q : NdQ) : Nat → Value
 | 0 => ptr q.st
 | 1 => ptr q.ck
 | 2 => ptr q.sh
 | 3 => ptr q.tr
 | 4 => ptr q.he
 | _ => ptr q.lg
theorem ncrash_spec (b : Nat) (m : NdM) (st : Int) (hl : m.xs.length ≤ 900) (h0 : 0 ≤ st) (h1 : st ≤ 1000000) :
   Ct Tryz.prog 19 [ptr b, int st] [ndA b m] (fun v hs => v = int 0 ∧ hs = [ndD b m.id m.n m.wall m.room (crashL st (m.xs.map segF))]) := by
 refine Cti Tryz.func19 (by kernel_rfl) 20 Tryz.ntmps19 rfl rfl fun w0 R => ?_
 refine Gs.nd fun q => ?_
 refine Gsr (Las rfl rfl (Lnt (Gs.seq (Gsr (Lmv rfl rfl (La rfl (asC (ndown_spec b q m.id m.n m.wall)) ?_))))))
 rintro _ _ ⟨_, ⟨rfl, rfl⟩, rfl⟩
 refine Las rfl rfl (Lnt (Gsr (Lmv rfl rfl (Lq rfl (pu_ne rfl rfl) (Lnt (Gs.cond_ff rfl rfl (Gs.skip (Gn (Gsr (Lmv rfl rfl (Lq rfl (by first | exact pu_nil rfl | exact pu_nilF rfl) ?_)))))))))))
 refine Lq rfl (pu_fa fa_76_5 rfl) (Lr rfl (rd_ld na_40 rfl (Rdc.cl1 (by repeat constructor) rfl)) ?_)
 refine Lmv rfl rfl (La rfl (asC (crash_spec q.dk m.room (m.xs.map segF) st (by rw [List.length_map]; omega) (by omega) (by omega))) ?_)
 rintro _ _ ⟨_, ⟨rfl, rfl⟩, rfl⟩
 refine Lnt (Gsr (Lmv rfl rfl (Lq rfl (by first | exact pu_nil rfl | exact pu_nilF rfl) ?_)))
 refine Lq rfl (pu_fa fa_76_4 rfl) (Lac0 rfl trivial (ac_st sz_4 rfl rfl (by repeat constructor) rfl rfl rfl rfl) ?_)
 rintro _ _ rfl
 refine Lnt (Gsr (Las rfl rfl (Lnt (Gs.ret (Gs.takes (As := [cl b 76 (ndX (memP q) m.id m.n m.wall false q.dk), drv q.dk m.room (crashL st (m.xs.map segF))]) (by repeat constructor) (Gs.nddc ⟨memP q, q.dk⟩ ?_))))))
 exact Gs.fin1 Tryz.results19 rfl _ (⟨rfl, rfl⟩) (by repeat constructor)
theorem nrestart_spec {h0 : Hp} (T : TabX h0) (b id n : Nat) (wall room : Int) {cs : List Cs} (h1 : 1 ≤ n) (h8 : n ≤ 8) (h : CsOk n cs) (hl : cs.length ≤ 900) (hk : ∀ x ∈ cs, x.k < 98)
   (hr : cs.filterMap after = [] → ((layE (zeroB n)).length : Int) ≤ room) (hsz : ∀ made ys, OpRel n cs made ys → (playM n (flatS ys)).rs.length ≤ 700 ∧ (flatS ys).length ≤ 2000000) :
   Ct Tryz.prog 20 [ptr b] [ndD b id n wall room (cs.map csF), ro h0]
     (fun v hs => ∃ made ys, v = int 0 ∧ OpRel n cs made ys ∧ hs = [ndA b (openM id n wall room made ys), ro h0]) := by
 refine Cti Tryz.func20 (by kernel_rfl) 13 Tryz.ntmps20 rfl rfl fun w0 R => ?_
 refine Gs.ndd fun y => ?_
 refine Gsr (Las rfl rfl (Lnt (Gs.seq (Gs.block (Gsr (Lmv rfl rfl (Lq rfl (pu_eqN Tryz.underlying26 rfl rfl) (Las rfl rfl (Lnt (Gs.cond_ff rfl rfl (Gsr ?_)))))))))))
 refine Lmv rfl rfl (Lq rfl (by first | exact pu_nil rfl | exact pu_nilF rfl) ?_)
 refine Lq rfl (pu_fa fa_76_4 rfl) (Lr rfl (rd_ld na_4 rfl (Rdc.cl1 (by repeat constructor) rfl)) ?_)
 refine Las rfl rfl (Lnt (Gs.cond_ff rfl rfl (Gs.skip (Gs.blk_n (Gn (Gsr (Lmv rfl rfl (La rfl (asC (nopen_spec T b y.p id n wall room false y.dk h1 h8 h hl hk hr hsz)) ?_))))))))
 rintro _ _ ⟨_, ⟨q, made, ys, rfl, hop, rfl⟩, rfl⟩
 refine Las rfl rfl (Lnt (Gs.ret (Gs.takes (As := ndL b q (openM id n wall room made ys)) (by repeat constructor) (Gs.ndc q ?_))))
 exact Gs.fin1 Tryz.results20 rfl _ (⟨made, ys, rfl, hop, rfl⟩) (by repeat constructor)
def newM (id n : Nat) (room : Int) : NdM := ⟨id, n, 0, room, (0, 0), zeroM n, [], 1, [newSeg n 1]⟩
theorem recsK_zero (n : Nat) : recsK (zeroM n) = [] := by
 have := recsK_perm (OkM.zero n)
 exact List.Perm.eq_nil this
theorem openM_new {id n : Nat} (h1 : 1 ≤ n) (h8 : n ≤ 8) (room : Int) : openM id n 0 room 1 [newSeg n 1] = newM id n room := by
 have hf : flatS [newSeg n 1] = [zeroB n] := by simp [flatS, newSeg]
 unfold openM newM
 rw [hf, zero_play n h1 h8, recsK_zero]; rfl
theorem newM_ok {id n : Nat} (h1 : 1 ≤ n) (h8 : n ≤ 8) (hid : id < n) {room : Int} (hr : ((layE (zeroB n)).length : Int) ≤ room) (hr2 : room ≤ 1048576) : NdOk (newM id n room) :=
 ⟨h1, h8, hid, new_log h1 h8 (Nat.le_refl _), rfl, rfl, by show 0 ≤ 12; omega, (fun r h => by cases h), by
   have e3 : layS (newSeg n 1).es = layE (zeroB n) := by simp [newSeg, layS]
   show (usedS [newSeg n 1] : Int) ≤ room
   rw [used_one, e3]; exact hr, hr2⟩
theorem nnew_ok {h0 : Hp} (T : TabX h0) {id n : Nat} {room : Int} (h1 : 1 ≤ n) (h8 : n ≤ 8) (hid : id < n) (hr : ((layE (zeroB n)).length : Int) ≤ room) (hr2 : room ≤ 1048576) :
   Ct Tryz.prog 10 [int id, int n, int room] [ro h0] (fun v hs => ∃ b, v = .tuple #[ptr b, int 0] ∧ hs = [ndA b (newM id n room), ro h0]) := by
 have hcs : CsOk n [] := ⟨List.Pairwise.nil, (fun x hx => by cases hx), (fun x hx => by cases hx), fun x hx => by cases hx⟩
 have hop : ∀ made ys, OpRel n [] made ys → ys = [newSeg n 1] ∧ made = 1 := fun made ys ho => by
   rcases ho with ⟨e, -⟩ | ⟨-, e1, e2⟩
   · exact absurd rfl e
   · exact ⟨e1, e2⟩
 refine Cti Tryz.func10 (by kernel_rfl) 45 Tryz.ntmps10 rfl rfl fun w0 R => ?_
 refine Gsr (Las rfl rfl (Las rfl rfl (Lnt (Gs.seq (Gsr (Lmv rfl rfl (Lq rfl (pu_lt rfl rfl) (LpuBf rfl rfl trivial (pu_move rfl) (decide_eq_false (by omega)) (Lpu rfl rfl ⟨_, rfl, rfl⟩ (pu_move rfl) (Lpu rfl rfl ⟨_, rfl, rfl⟩ (pu_gt rfl rfl) (Lpk rfl rfl rfl ?_)))))))))))
 refine LpuBf rfl rfl trivial (pu_move rfl) (decide_eq_false (by omega)) (Lpu rfl rfl ⟨_, rfl, rfl⟩ (pu_move rfl) (Lpu rfl rfl ⟨_, rfl, rfl⟩ (pu_lt rfl rfl) (Lpk rfl rfl rfl (LpuBf rfl rfl trivial (pu_move rfl) (decide_eq_false (by omega)) (Lpu rfl rfl ⟨_, rfl, rfl⟩ (pu_move rfl) (Lpu rfl rfl ⟨_, rfl, rfl⟩ (pu_move rfl) (Lpu rfl rfl ⟨_, rfl, rfl⟩ (pu_ge rfl rfl) (Lpk rfl rfl rfl (LpuBf rfl rfl trivial (pu_move rfl) (decide_eq_false (by omega)) (Lpu rfl rfl ⟨_, rfl, rfl⟩ (pu_move rfl) (Lpu rfl rfl ⟨_, rfl, rfl⟩ (pu_lt rfl rfl) ?_)))))))))))
 refine Lpk rfl rfl rfl (LpuBf rfl rfl trivial (pu_move rfl) (decide_eq_false (by omega)) (Lpu rfl rfl ⟨_, rfl, rfl⟩ (pu_move rfl) (Lpu rfl rfl ⟨_, rfl, rfl⟩ (pu_gt rfl rfl) (Lpk rfl rfl rfl (Lnt (Gs.cond_ff rfl (decide_eq_false (by omega)) (Gs.skip (Gn (Gsr (Lmv rfl rfl (Lmv rfl rfl ?_)))))))))))
 refine Lmv rfl rfl (La rfl (asC (drvNew_ok room (by omega) hr2)) ?_)
 rintro _ _ ⟨_, ⟨dk, rfl, rfl⟩, rfl⟩
 refine Lq rfl (pu_build bd_76 (by repeat constructor) rfl) ?_
 refine La rfl (ac_box rfl rfl) ?_
 rintro _ _ ⟨nb, rfl, rfl⟩
 refine Las rfl rfl (Lnt (Gs.seq (Gsr (Lmv rfl rfl (La rfl (asC (nopen_spec T nb (fun _ => .pointer none) id n 0 room false dk (cs := []) h1 h8 hcs (by decide) (fun x hx => by cases hx) (fun _ => hr) (fun made ys ho => by obtain ⟨rfl, rfl⟩ := hop made ys ho; rw [show flatS [newSeg n 1] = [zeroB n] by simp [flatS, newSeg], zero_play n h1 h8]; exact ⟨Nat.zero_le _, Nat.le_of_ble_eq_true rfl⟩))) ?_)))))
 rintro _ _ ⟨_, ⟨q, made, ys, rfl, ho, rfl⟩, rfl⟩
 refine Las rfl rfl (Lnil ?_)
 obtain ⟨rfl, rfl⟩ := hop made ys ho
 rw [openM_new h1 h8]
 refine Gn (Gsr (Lmv rfl rfl (Lq rfl (pu_ne rfl rfl) (Lnt (Gs.cond_ff rfl rfl (Gs.skip (Gn (Gsr (Lmv rfl rfl (Las rfl rfl (Las rfl rfl ?_)))))))))))
 refine Lnt (Gs.ret (Gs.takes (As := ndL nb q (newM id n room)) (by repeat constructor) (Gs.ndc q ?_)))
 exact Gs.fin2 Tryz.results10 rfl rfl _ (⟨nb, rfl, rfl⟩) (by repeat constructor)
end Go.Proofs.YtflfhpokmidnmaaGreatDoor
namespace Go.Proofs.YtflfhpokmidnmaaGreatDoor
open Go Go.Sl Go.Gv Go.Kv Go.Po Go.Ix Go.Qu Go.Shelf Go.Dv Go.Bst
set_option maxRecDepth 100000
theorem add_yes {m : NdM} (h : NdOk m) {r : Rec} (hr : recB r = true) (ho : r.o < (m.n : Int)) (hu : (usedS m.xs : Int) + 190 ≤ m.room) : (addM m r).1 = 0 ∧ usedS (addM m r).2.xs ≤ usedS m.xs + 190 := by
 have hw := mayW_rec h.log.ok h.n1 h.n8 hr ho
 have h0 := wS_ok h.log.st hw hu
 have h1 := wS_used (most := m.room) (e := recE r) (v := m.s.v) (w := m.s.w) h.log.st
 unfold addM
 dsimp only
 rw [if_pos h0]
 exact ⟨rfl, h1⟩
end Go.Proofs.YtflfhpokmidnmaaGreatDoor
namespace Go.Sl
open Go
theorem big_perm {L M : List HProp} (p : List.Perm L M) : ∀ h, big L h → big M h := by
 induction p with
 | nil => exact fun _ x => x
 | cons A _ ih => exact fun h x => big_under ih x
 | swap A B L => exact fun h x => big_swap x
 | trans _ _ ih1 ih2 => exact fun h x => ih2 h (ih1 h x)
theorem Take.perm {A : HProp} {L L' : List HProp} (t : Take A L L') : List.Perm L (A :: L') := by
 induction t with
 | hd => exact List.Perm.refl _
 | tl _ ih => exact (ih.cons _).trans (List.Perm.swap _ _ _)
theorem Takes.perm {As L L' : List HProp} (t : Takes As L L') : List.Perm L (As ++ L') := by
 induction t with
 | nil => exact List.Perm.refl _
 | cons t _ ih => exact t.perm.trans (ih.cons _)
theorem Ct.inBig {P : Program} {f : FuncId} {args : List Value} {A L L' : List HProp} {φ : Value → List HProp → Prop} (c : Ct P f args A (fun v hs => ∃ r, φ v r ∧ hs = A ++ r)) (t : Takes A L L') : Ct P f args [big L] (fun v hs => ∃ r, φ v r ∧ hs = [big L] ++ r) :=
 ⟨c.enters, fun w0 w R s => by
   have s1 : Sat w0 w (A ++ (L' ++ R)) := (Sat.big.1 s).imp fun h x => by
     rw [← List.append_assoc]
     exact big_perm (List.Perm.append_right R t.perm) h x
   refine (c.calls w0 w (L' ++ R) s1).mono fun _ _ ⟨v, hs, he, ⟨r, hp, e2⟩, hsat⟩ => ⟨v, [big L] ++ r, he, ⟨r, hp, rfl⟩, ?_⟩
   subst e2
   refine Sat.big.2 (hsat.imp fun h x => ?_)
   refine big_perm ?_ h x
   have p1 : List.Perm (A ++ r ++ (L' ++ R)) (A ++ (r ++ (L' ++ R))) := by rw [List.append_assoc]
   have p2 : List.Perm (r ++ (L' ++ R)) (L' ++ (r ++ R)) := by
     rw [← List.append_assoc, ← List.append_assoc]
     exact List.Perm.append_right R List.perm_append_comm
   have p3 : List.Perm (A ++ (L' ++ (r ++ R))) (L ++ (r ++ R)) := by
     rw [← List.append_assoc]
     exact List.Perm.append_right _ t.perm.symm
   exact p1.trans ((List.Perm.append_left A p2).trans p3)⟩
end Go.Sl
namespace Go.Proofs.YtflfhpokmidnmaaGreatDoor
open Go Go.Sl Go.Gv Go.Kv Go.Po Go.Ix Go.Qu Go.Shelf Go.Dv Go.Bst
set_option maxRecDepth 100000
theorem sameInts2_spec {S U : HProp} {a b : Option Addr} {c d : Nat} {xs ys : List Int} (hS : Srd S 1 intC a xs) (hU : Srd U 1 intC b ys) (hl : xs.length ≤ 1000000) :
   Ct Tryz.prog 14 [.slice a xs.length c, .slice b ys.length d] [S, U] (fun v hs => v = .bool (decide (xs = ys)) ∧ hs = [S, U]) :=
 (Ct.two (sameInts_spec (S := two S U) (Srd.two1 hS) (Srd.two2 hU) hl) (by rintro _ _ ⟨_, rfl⟩; exact ⟨_, rfl⟩)).mono (by rintro v hs ⟨r, ⟨h1, h2⟩, rfl⟩; cases h2; exact ⟨h1, rfl⟩)
theorem nd_get {f : FuncId} {args : List Value} {b : Nat} {m : NdM} {A : NdQ → List HProp} {φ : Value → List HProp → Prop} (c : ∀ q, Ct Tryz.prog f args (A q) (fun v hs => ∃ r, φ v r ∧ hs = A q ++ r)) (L' : NdQ → List HProp) (t : ∀ q, Takes (A q) (ndL b q m) (L' q)) :
   Ct Tryz.prog f args [ndA b m] (fun v hs => ∃ r, φ v r ∧ hs = [ndA b m] ++ r) := by
 refine Ct.ex (A := fun q => big (ndL b q m)) (⟨0, 0, 0, 0, 0, 0, 0, 0⟩ : NdQ) fun q => ?_
 refine ((c q).inBig (t q)).imp ?_
 rintro v hs ⟨r, hp, rfl⟩
 exact ⟨_, ⟨r, hp, rfl⟩, big_hd fun h x => ⟨q, x⟩⟩
section
variable {b : Nat} {m : NdM} (h : NdOk m)
include h
theorem gV_spec : Ct Tryz.prog 11 [ptr b] [ndA b m] (fun v hs => ∃ a c, v = .slice a m.s.v.length c ∧ hs = [ndA b m, sl 3 1 intC a c m.s.v]) := by
 have hv := StOk.v h.log.ok
 have h8 := h.n8
 refine (nd_get (b := b) (m := m) (A := fun q => [cl b 76 (ndC q m.id m.n m.wall), stA q.st m.s.v m.s.w m.s.rs]) (φ := fun v r => ∃ a c, v = .slice a m.s.v.length c ∧ r = [sl 3 1 intC a c m.s.v]) (fun q => (nV_spec b q m.id m.n m.wall m.s.v m.s.w m.s.rs (by omega)).mono ?_) (fun q => _) (fun q => by repeat constructor)).mono ?_
 · rintro v hs ⟨a, c, rfl, rfl⟩; exact ⟨_, ⟨a, c, rfl, rfl⟩, rfl⟩
 · rintro v hs ⟨r, ⟨a, c, rfl, rfl⟩, rfl⟩; exact ⟨a, c, rfl, rfl⟩
theorem gRecords_spec : Ct Tryz.prog 12 [ptr b] [ndA b m] (fun v hs => ∃ a c, v = .slice a (recsK m.s).length c ∧ hs = [ndA b m, sl 50 5 recC a c (recsK m.s)]) := by
 refine (nd_get (b := b) (m := m) (A := fun q => [cl b 76 (ndC q m.id m.n m.wall), stA q.st m.s.v m.s.w m.s.rs]) (φ := fun v r => ∃ a c, v = .slice a (recsK m.s).length c ∧ r = [sl 50 5 recC a c (recsK m.s)]) (fun q => (nRecords_spec b q m.id m.n m.wall h.log.ok h.n8).mono ?_) (fun q => _) (fun q => by repeat constructor)).mono ?_
 · rintro v hs ⟨a, c, rfl, rfl⟩; exact ⟨_, ⟨a, c, rfl, rfl⟩, rfl⟩
 · rintro v hs ⟨r, ⟨a, c, rfl, rfl⟩, rfl⟩; exact ⟨a, c, rfl, rfl⟩
omit h in
theorem gUp_spec : Ct Tryz.prog 29 [ptr b] [ndA b m] (fun v hs => v = .bool true ∧ hs = [ndA b m]) := by
 refine (nd_get (b := b) (m := m) (A := fun q => [cl b 76 (ndC q m.id m.n m.wall)]) (φ := fun v r => v = .bool true ∧ r = []) (fun q => (nUp_spec b q m.id m.n m.wall).mono ?_) (fun q => _) (fun q => by repeat constructor)).mono ?_
 · rintro v hs ⟨rfl, rfl⟩; exact ⟨_, ⟨rfl, rfl⟩, rfl⟩
 · rintro v hs ⟨r, ⟨rfl, rfl⟩, rfl⟩; exact ⟨rfl, rfl⟩
end
theorem lrec_spec (o n : Int) (t : ByteArray) : Ct Tryz.prog 22 [int o, int n, .string t] [] (fun v hs => v = recV ⟨o, n, n, 0, t⟩ ∧ hs = []) := by
 refine Cti Tryz.func22 (by kernel_rfl) 14 Tryz.ntmps22 rfl rfl fun w0 R => ?_
 refine Gsr (La rfl (ac_alloc zv_50 rfl) ?_)
 rintro _ _ ⟨ob, rfl, rfl⟩
 refine Lnt (Gsr (Lmv rfl rfl (Lmv rfl rfl (Lq rfl (pu_build bd_35 (by repeat constructor) rfl) ?_))))
 refine Lmv rfl rfl (Lq rfl (pu_build bd_48 (by repeat constructor) rfl) ?_)
 refine Lmv rfl rfl (Lq rfl (pu_build bd_50 (by repeat constructor) rfl) ?_)
 refine Lac0 rfl trivial (ac_st sz_50 rfl rfl (by repeat constructor) rfl rfl rfl rfl) ?_
 rintro _ _ rfl
 refine Lnt (Gs.ret ?_)
 exact Gs.finc1 Tryz.results22 ag_50 rfl (Rdc.cl 5 (by repeat constructor) rfl) rfl _ (⟨rfl, rfl⟩) (by repeat constructor)
end Go.Proofs.YtflfhpokmidnmaaGreatDoor
namespace Go.Proofs.YtflfhpokmidnmaaGreatDoor
open Go Go.Sl Go.Gv Go.Kv Go.Po Go.Ix Go.Qu Go.Shelf Go.Dv Go.Bst
set_option maxRecDepth 100000
def lastLen (xs : List Seg) : Nat := match xs.getLast? with
 | some x => (layS x.es).length
 | none => 0
theorem lastLen_snoc (X : List Seg) (x : Seg) : lastLen (X ++ [x]) = (layS x.es).length := by
 unfold lastLen; rw [List.getLast?_concat]
theorem whole_ext : ∀ (a b : List EntP) {m : Nat}, m ≤ (layS a).length → wholeN (a ++ b) m ≤ a.length
 | [], b, m, h => by
   have hm : m = 0 := by simpa [layS] using h
   subst hm
   cases b with
   | nil => exact Nat.le_refl _
   | cons e b =>
     show wholeN (e :: b) 0 ≤ 0
     unfold wholeN
     rw [if_neg (by have := layE_pos e; omega)]; exact Nat.le_refl _
 | e :: a, b, m, h => by
   rw [List.cons_append]
   unfold wholeN
   split
   · have e1 : (layS (e :: a)).length = (layE e).length + (layS a).length := by rw [layS_cons, List.length_append]
     exact Nat.succ_le_succ (whole_ext a b (by omega))
   · exact Nat.zero_le _
theorem whole_same (a b : List EntP) {m : Nat} (h : m ≤ (layS a).length) : (a ++ b).take (wholeN (a ++ b) m) = a.take (wholeN a m) := by
 have h1 := whole_ext a b h
 have h2 : wholeN ((a ++ b).take a.length) m = wholeN (a ++ b) m := whole_cut _ h1
 rw [List.take_left] at h2
 rw [h2, List.take_append_of_le_length h1]
theorem recE_len (r : Rec) : (layE (recE r)).length = 24 + r.t.size := by
 unfold layE
 rw [frB_len]
 have : bodyE (recE r) = layB r := rfl
 rw [this, layR_len]; omega
theorem add_firm {m : NdM} (h : NdOk m) {r : Rec} (hr : recB r = true) (ho : r.o < (m.n : Int)) (hl : lastLen m.xs < 400) (hu : (usedS m.xs : Int) + 190 ≤ m.room) : firmE (addM m r).2.xs = firmE m.xs ∧ lastLen (addM m r).2.xs = lastLen m.xs + (24 + r.t.size) := by
 have hw := mayW_rec h.log.ok h.n1 h.n8 hr ho
 have h0 := wS_ok h.log.st hw hu
 have hx : (addM m r).2.xs = (wS m.room m.n m.made m.xs (recE r) m.s.v m.s.w).xs := by unfold addM; dsimp only; rw [if_pos h0]
 rw [hx]
 obtain ⟨X, x, hX⟩ := last_of h.log.st.ne
 have hsafe := h.log.st.inv.safe x (by rw [hX]; simp)
 rw [hX] at h0 hl ⊢
 rw [lastLen_snoc] at hl ⊢
 rw [wS_yes hw] at h0 ⊢
 unfold wrS at h0 ⊢
 rw [if_pos hl] at h0 ⊢
 split at h0
 · cases h0
 · rename_i hf
   rw [if_neg hf, firm_snoc, firm_snoc, lastLen_snoc]
   refine ⟨?_, ?_⟩
   · show flatS X ++ (x.es ++ [recE r]).take (wholeN (x.es ++ [recE r]) x.s) = _
     rw [whole_same _ _ hsafe]
   · show (layS (x.es ++ [recE r])).length = _
     rw [layS_snoc, List.length_append, recE_len]
theorem lastLen_drop : ∀ (K : Nat) (xs : List Seg), K < xs.length → lastLen (xs.drop K) = lastLen xs := fun K xs h => by
 unfold lastLen
 rw [List.getLast?_drop, if_neg (by omega)]
theorem lastLen_sync {n made : Nat} {xs : List Seg} {s : StM} (h : LogOk n made xs s) (hm : made < 98) : lastLen (syncX n s.w xs) = lastLen xs := by
 obtain ⟨-, h2, -⟩ := trim_is h hm s.w
 unfold syncX
 rw [lastLen_drop _ _ (by rw [List.length_map]; exact h2)]
 unfold lastLen
 rw [List.getLast?_map]
 cases xs.getLast? <;> rfl
theorem sync_firm {n made : Nat} {xs : List Seg} {s : StM} (h : LogOk n made xs s) (hm : made < 98) : playM n (firmE (syncX n s.w xs)) = s := by
 have hs := (h.sync hm).1
 rw [firm_all hs.all]; exact hs.play
theorem flat_len (xs : List Seg) : (flatS xs).length ≤ usedS xs := by
 induction xs with
 | nil => exact Nat.le_refl _
 | cons x xs ih =>
   have e : usedS (x :: xs) = (layS x.es).length + usedS xs := by simp [usedS]
   have := layS_len x.es
   rw [flatS_cons, List.length_append, e]; omega
theorem crash0 {m : NdM} (h : NdOk m) (hm : m.made < 98) (hz : ((layE (zeroB m.n)).length : Int) ≤ m.room) (hl : (playM m.n (firmE m.xs)).rs.length ≤ 700) :
   ∃ cs, crashL 0 (m.xs.map segF) = cs.map csF ∧ CsOk m.n cs ∧ (∀ c ∈ cs, c.k < 98) ∧ cs.length ≤ 900 ∧ (∀ made' ys, OpRel m.n cs made' ys → (playM m.n (flatS ys)).rs.length ≤ 700 ∧ (flatS ys).length ≤ 2000000) ∧
     ∀ made' ys, OpRel m.n cs made' ys → NdOk (openM m.id m.n m.wall m.room made' ys) ∧ (openM m.id m.n m.wall m.room made' ys).s = playM m.n (firmE m.xs) ∧ made' ≤ m.made + 1 := by
 have hxl := h.log.len
 have hu := h.used
 have hrm := h.room
 obtain ⟨cs, e1, e2, e3, e4, e5⟩ := h.log.crash h.n1 h.n8 hm 0
 refine ⟨cs, e1, e2, e3, by omega, fun made' ys ho => ?_, fun made' ys ho => ?_⟩
 · obtain ⟨es, g1, g2, g3, g4, g5, g6, g7, g8, -, -⟩ := e5 made' ys ho
   have := flat_len ys
   rw [g3, g8 rfl]
   exact ⟨hl, by omega⟩
 · obtain ⟨es, g1, g2, g3, g4, g5, g6, g7, g8, -, -⟩ := e5 made' ys ho
   have hs : (openM m.id m.n m.wall m.room made' ys).s = playM m.n (firmE m.xs) := by show playM m.n (flatS ys) = _; rw [g3, g8 rfl]
   have hok : OkM m.n (playM m.n (flatS ys)) := OkM.play _ _
   refine ⟨⟨h.n1, h.n8, h.idn, by rw [← g3] at g4; exact g4, lastR_ok _ fun r hr => StOk.may hok r (recsK_mem hok r hr), h.wall, by show 0 ≤ 12; omega, fun r hr => (by cases hr), ?_, h.room⟩, hs, g5⟩
   show (usedS ys : Int) ≤ m.room
   omega
theorem app_yes {m : NdM} (h : NdOk m) {t : ByteArray} (ht : textB t = true) (hq : at0 m.s.v m.id < 1023) (hc : (tickC m.clk m.wall).2 = 0) (hu : (usedS m.xs : Int) + 190 ≤ m.room) :
   ∃ r : Rec, r = ⟨m.id, at0 m.s.v m.id + 1, (tickC m.clk m.wall).1.1, (tickC m.clk m.wall).1.2, t⟩ ∧ (appM m t).1 = (⟨m.id, at0 m.s.v m.id + 1⟩, 0) ∧
     (appM m t).2 = (addM ⟨m.id, m.n, m.wall, m.room, (tickC m.clk m.wall).1, m.s, m.held, m.made, m.xs⟩ r).2 ∧ recB r = true ∧ (addM ⟨m.id, m.n, m.wall, m.room, (tickC m.clk m.wall).1, m.s, m.held, m.made, m.xs⟩ r).1 = 0 := by
 have hr := app_rec h ht (by omega)
 have h1 := h.clock (tickC_ok h.clk m.wall)
 have hid := h.idn
 obtain ⟨a1, a2⟩ := add_yes h1 hr (by show (m.id : Int) < (m.n : Int); omega) hu
 refine ⟨_, rfl, ?_, ?_, hr, a1⟩
 · unfold appM
   rw [if_neg (by rw [ht]; decide), if_neg (by omega)]
   dsimp only
   rw [if_neg (fun e => e hc), if_pos a1]
   rfl
 · unfold appM
   rw [if_neg (by rw [ht]; decide), if_neg (by omega)]
   dsimp only
   rw [if_neg (fun e => e hc), if_pos a1]
end Go.Proofs.YtflfhpokmidnmaaGreatDoor
namespace Go.Proofs.YtflfhpokmidnmaaGreatDoor
open Go Go.Sl Go.Gv Go.Kv Go.Po Go.Ix Go.Qu Go.Shelf Go.Dv Go.Bst
set_option maxRecDepth 100000
abbrev tA : ByteArray := ⟨#[97]⟩
abbrev tB : ByteArray := ⟨#[98]⟩
abbrev tC : ByteArray := ⟨#[99]⟩
abbrev tD : ByteArray := ⟨#[100]⟩
abbrev r12 : Rec := ⟨1, 2, 2, 0, tC⟩
abbrev r11 : Rec := ⟨1, 1, 1, 0, tD⟩
theorem text1 : textB tA = true ∧ textB tB = true ∧ recB r12 = true ∧ recB r11 = true := by decide
abbrev aw0 : NdM := newM 0 2 5000
abbrev aw1 : NdM := (appM aw0 tA).2
abbrev aw2 : NdM := syncM aw1
abbrev aw3 : NdM := (appM aw2 tB).2
abbrev aw4 : NdM := (ingA aw3 [r12, r11]).2
theorem zeroB_2 : (layE (zeroB 2)).length ≤ 46 := zeroB_len (by decide) (by decide)
structure AwI (m : NdM) (v : List Int) (L : List Rec) (cl : Int × Int) (mk : Nat) (ll : Nat) : Prop where
 ok : NdOk m
 id : m.id = 0
 n : m.n = 2
 wall : m.wall = 0
 room : m.room = 5000
 v : m.s.v = v
 w : m.s.w = [0, 0]
 held : m.held = L
 clk : m.clk = cl
 made : m.made ≤ mk
 last : lastLen m.xs ≤ ll
 used : usedS m.xs ≤ 46 + 190 * mk
theorem aw0_is : AwI aw0 [0, 0] [] (0, 0) 1 46 := by
 have hz := zeroB_2
 have hz' : (layE (zeroB ((2 : Nat) : Int))).length ≤ 46 := zeroB_2
 have e3 : layS [zeroB 2] = layE (zeroB 2) := by simp [layS]
 refine ⟨newM_ok (by decide) (by decide) (by decide) (by omega) (by decide), rfl, rfl, rfl, rfl, rfl, rfl, rfl, rfl, Nat.le_refl _, ?_, ?_⟩
 · show (layS [zeroB 2]).length ≤ 46; rw [e3]; exact hz
 · show (layS [zeroB 2]).length + 0 ≤ 236; rw [e3]; omega
theorem AwI.add {m : NdM} {v : List Int} {L : List Rec} {cl : Int × Int} {mk ll : Nat} (h : AwI m v L cl mk ll) {r : Rec} (hr : recB r = true) (hro : r.o < 2) (ht : r.t.size = 1) (hq : r.q = at0 v r.o.toNat + 1) (hL : dropL (v.set r.o.toNat r.q) L = L) (hmk : mk ≤ 10) (hll : ll ≤ 300) :
   (addM m r).1 = 0 ∧ AwI (addM m r).2 (v.set r.o.toNat r.q) L cl (mk + 1) (ll + 25) ∧ firmE (addM m r).2.xs = firmE m.xs ∧ (addM m r).2.s.rs = m.s.rs ++ [r] := by
 have hn := h.n
 have hu := h.used
 have ho : r.o < (m.n : Int) := by omega
 have hv := StOk.v h.ok.log.ok
 obtain ⟨a1, a2⟩ := add_yes h.ok hr ho (by rw [h.room]; omega)
 obtain ⟨f1, f2⟩ := add_firm h.ok hr ho (by have := h.last; omega) (by rw [h.room]; omega)
 obtain ⟨k1, k2, k3, k4, k5⟩ := addM_keep m r
 obtain ⟨s1, s2⟩ := addM_ok a1
 have hacc : accM m.s r = ⟨m.s.v.set r.o.toNat r.q, m.s.w, m.s.rs ++ [r]⟩ := accM_yes hr (by omega) (by rw [h.v]; exact hq)
 have hp := addM_pot h.ok r
 refine ⟨a1, ⟨h.ok.add hr ho, by rw [k1]; exact h.id, by rw [k2]; exact h.n, by rw [k3]; exact h.wall, by rw [k4]; exact h.room, by rw [s1, hacc, h.v], by rw [s1, hacc]; exact h.w, ?_, by rw [k5]; exact h.clk, by have := h.made; omega, by rw [f2, ht]; have := h.last; omega, by omega⟩, f1, by rw [s1, hacc]⟩
 rw [s2, hacc, h.held, h.v]; exact hL
theorem AwI.clock {m : NdM} {v : List Int} {L : List Rec} {cl : Int × Int} {mk ll : Nat} (h : AwI m v L cl mk ll) {c : Int × Int} (hc : clkB c = true) : AwI ⟨m.id, m.n, m.wall, m.room, c, m.s, m.held, m.made, m.xs⟩ v L c mk ll :=
 ⟨h.ok.clock hc, h.id, h.n, h.wall, h.room, h.v, h.w, h.held, rfl, h.made, h.last, h.used⟩
theorem AwI.app {m : NdM} {x y : Int} {k : Int} {mk ll : Nat} (h : AwI m [x, y] [] (0, k) mk ll) {t : ByteArray} (ht : textB t = true) (hs : t.size = 1) (hx : 0 ≤ x ∧ x < 100) (hk : 0 ≤ k ∧ k < 100) (hmk : mk ≤ 10) (hll : ll ≤ 300) :
   (appM m t).1 = (⟨0, x + 1⟩, 0) ∧ AwI (appM m t).2 [x + 1, y] [] (0, k + 1) (mk + 1) (ll + 25) ∧ firmE (appM m t).2.xs = firmE m.xs ∧ ∃ r : Rec, (appM m t).2.s.rs = m.s.rs ++ [r] := by
 have htick : tickC m.clk m.wall = ((0, k + 1), 0) := by
   rw [h.clk, h.wall]
   unfold tickC
   rw [if_pos (by decide)]
   show setC (0, k) (if (0 : Int) < 0 then (0, 0) else (0, k + 1)) = _
   rw [if_neg (by decide)]
   unfold setC
   rw [if_neg (by show ¬ 65535 < k + 1; omega)]
 have hid := h.id
 have hv0 : at0 m.s.v m.id = x := by rw [h.v, hid]; rfl
 obtain ⟨r, hr, e1, e2, e3, e4⟩ := app_yes h.ok ht (by rw [hv0]; omega) (by rw [htick]) (by rw [h.room]; have := h.used; omega)
 rw [htick] at e2 e4 hr
 rw [hv0] at hr e1
 rw [hid] at hr e1
 have h1 := h.clock (c := (0, k + 1)) (clkB_iff.2 ⟨by show (0 : Int) ≤ 0 ∧ (0 : Int) ≤ 1099511627776; decide, by show 0 ≤ k + 1 ∧ k + 1 ≤ 65535; omega⟩)
 have hro : r.o = 0 := by rw [hr]; rfl
 have hrq : r.q = x + 1 := by rw [hr]
 have hrt : r.t.size = 1 := by rw [hr]; exact hs
 obtain ⟨b1, b2, b3, b4⟩ := h1.add e3 (by omega) hrt (by rw [hro, hrq]; rfl) rfl hmk hll
 rw [hro, hrq] at b2
 rw [e2]
 exact ⟨e1, b2, b3, r, b4⟩
theorem aw_all : (appM aw0 tA).1 = (⟨0, 1⟩, 0) ∧ NdOk aw1 ∧ aw1.made ≤ 10 ∧ NdOk aw2 ∧ NdOk aw3 ∧ aw3.made + aw3.held.length + 2 ≤ 98 ∧ aw3.s.rs.length + aw3.held.length + 2 ≤ 700 ∧ aw1.s.rs.length ≤ 700 ∧ aw2.made ≤ 10 ∧ aw2.s.rs.length ≤ 700 ∧ (ingA aw3 [r12, r11]).1 = (2, 0) ∧ NdOk aw4 ∧ aw4.made ≤ 10 ∧ aw4.s.v = [2, 2] ∧
   playM 2 (firmE aw4.xs) = aw1.s ∧ aw1.s.v = [1, 0] ∧ aw1.s.rs.length = 1 ∧ aw4.id = 0 ∧ aw4.n = 2 ∧ aw4.wall = 0 ∧ aw4.room = 5000 ∧ aw4.xs.length ≤ 900 := by
 obtain ⟨t1, t2, t3, t4⟩ := text1
 obtain ⟨a1, a2, -, ra, a3⟩ := aw0_is.app t1 rfl ⟨by decide, by decide⟩ ⟨by decide, by decide⟩ (by decide) (by decide)
 have a3 : aw1.s.rs = [ra] := a3
 have hm1 : aw1.made < 98 := by have : aw1.made ≤ 2 := a2.made; omega
 have hn1 : aw1.n = 2 := a2.n
 have b2 : AwI aw2 [1, 0] [] (0, 1) 2 71 := by
   refine ⟨a2.ok.sync hm1, a2.id, a2.n, a2.wall, a2.room, a2.v, a2.w, a2.held, a2.clk, a2.made, ?_, ?_⟩
   · show lastLen (syncX aw1.n aw1.s.w aw1.xs) ≤ 71
     rw [lastLen_sync a2.ok.log hm1]; exact a2.last
   · have := sync_used aw1.n aw1.s.w aw1.xs
     have : usedS aw1.xs ≤ 46 + 190 * 2 := a2.used
     show usedS (syncX aw1.n aw1.s.w aw1.xs) ≤ _; omega
 have hfirm2 : playM 2 (firmE aw2.xs) = aw1.s := by
   have := sync_firm a2.ok.log hm1
   rw [hn1] at this
   show playM 2 (firmE (syncX aw1.n aw1.s.w aw1.xs)) = aw1.s
   rw [hn1]; exact this
 obtain ⟨c1, c2, c3, rb, c4⟩ := b2.app t2 rfl ⟨by decide, by decide⟩ ⟨by decide, by decide⟩ (by decide) (by decide)
 have c2 : AwI aw3 [2, 0] [] (0, 2) 3 96 := c2
 have c4 : aw3.s.rs = [ra, rb] := by
   have e : aw3.s.rs = aw2.s.rs ++ [rb] := c4
   rw [e]
   show aw1.s.rs ++ [rb] = _
   rw [a3]; rfl
 -- the first one waits
 have d1 : ingM aw3 r12 = ((0, 0), ⟨aw3.id, aw3.n, aw3.wall, aw3.room, aw3.clk, aw3.s, [r12], aw3.made, aw3.xs⟩) := by
   have hv : at0 aw3.s.v r12.o.toNat = 0 := by rw [c2.v]; rfl
   have hp : putE 12 aw3.held r12 = 0 := by
     rw [c2.held]; unfold putE; rw [if_pos t3]; rfl
   have hpl : putL 12 aw3.held r12 = [r12] := by unfold putL; rw [hp, if_pos rfl, c2.held]; rfl
   unfold ingM
   rw [if_neg (by
     rintro (e | e)
     · rw [t3] at e; cases e
     · rw [c2.n] at e; exact absurd e (by decide)), hv, if_neg (by decide), if_neg (by decide), hp, hpl]
   rfl
 obtain ⟨m4, hm4⟩ : ∃ m4 : NdM, m4 = ⟨aw3.id, aw3.n, aw3.wall, aw3.room, aw3.clk, aw3.s, [r12], aw3.made, aw3.xs⟩ := ⟨_, rfl⟩
 rw [← hm4] at d1
 have d2 : AwI m4 [2, 0] [r12] (0, 2) 3 96 := by
   have hok := (ing_all c2.ok r12).1
   rw [d1] at hok
   rw [hm4] at hok ⊢
   exact ⟨hok, c2.id, c2.n, c2.wall, c2.room, c2.v, c2.w, rfl, c2.clk, c2.made, c2.last, c2.used⟩
 have hx4 : m4.xs = aw3.xs := by rw [hm4]
 have hr4 : m4.s.rs = aw3.s.rs := by rw [hm4]
 -- the second one comes, and the first one behind it
 have s1 : seeC m4.clk (r11.w, r11.c) m4.wall = ((1, 1), 0) := by rw [d2.clk, d2.wall]; decide
 have g1 := d2.clock (c := (1, 1)) (by decide)
 obtain ⟨m5, hm5⟩ : ∃ m5 : NdM, m5 = ⟨m4.id, m4.n, m4.wall, m4.room, (1, 1), m4.s, m4.held, m4.made, m4.xs⟩ := ⟨_, rfl⟩
 rw [← hm5] at g1
 obtain ⟨h1, h2, h3, h4⟩ := g1.add (r := r11) t4 (by decide) rfl rfl rfl (by decide) (by decide)
 have h2 : AwI (addM m5 r11).2 [2, 1] [r12] (1, 1) 4 121 := h2
 obtain ⟨m6, hm6⟩ : ∃ m6 : NdM, m6 = ⟨m4.id, m4.n, m4.wall, m4.room, (1, 1), (addM m5 r11).2.s, delL (addM m5 r11).2.held ⟨r11.o, r11.q + 1⟩, (addM m5 r11).2.made, (addM m5 r11).2.xs⟩ := ⟨_, rfl⟩
 have i1 : AwI m6 [2, 1] [] (1, 1) 4 121 := by
   have hok := g1.ok.nexted (r := r11) ⟨t4, by rw [g1.n]; decide, by rw [g1.v]; rfl⟩ (c := (1, 1)) (by decide)
   have e : m6 = ⟨m5.id, m5.n, m5.wall, m5.room, (1, 1), (addM m5 r11).2.s, delL (addM m5 r11).2.held ⟨r11.o, r11.q + 1⟩, (addM m5 r11).2.made, (addM m5 r11).2.xs⟩ := by rw [hm6, hm5]
   rw [← e] at hok
   refine ⟨hok, by rw [hm6]; exact d2.id, by rw [hm6]; exact d2.n, by rw [hm6]; exact d2.wall, by rw [hm6]; exact d2.room, by rw [hm6]; exact h2.v, by rw [hm6]; exact h2.w, by rw [hm6]; show delL (addM m5 r11).2.held _ = []; rw [h2.held]; rfl, by rw [hm6], by rw [hm6]; exact h2.made, by rw [hm6]; exact h2.last, by rw [hm6]; exact h2.used⟩
 have s2 : seeC m6.clk (r12.w, r12.c) m6.wall = ((2, 1), 0) := by rw [i1.clk, i1.wall]; decide
 have g2 := i1.clock (c := (2, 1)) (by decide)
 obtain ⟨m7, hm7⟩ : ∃ m7 : NdM, m7 = ⟨m6.id, m6.n, m6.wall, m6.room, (2, 1), m6.s, m6.held, m6.made, m6.xs⟩ := ⟨_, rfl⟩
 rw [← hm7] at g2
 obtain ⟨j1, j2, j3, j4⟩ := g2.add (r := r12) t3 (by decide) rfl rfl rfl (by decide) (by decide)
 have j2 : AwI (addM m7 r12).2 [2, 2] [] (2, 1) 5 146 := j2
 obtain ⟨m8, hm8⟩ : ∃ m8 : NdM, m8 = ⟨m6.id, m6.n, m6.wall, m6.room, (2, 1), (addM m7 r12).2.s, delL (addM m7 r12).2.held ⟨r12.o, r12.q + 1⟩, (addM m7 r12).2.made, (addM m7 r12).2.xs⟩ := ⟨_, rfl⟩
 have k1 : chainM 1 m6 r12 = ((1, 0), m8) := by
   rw [chainM, s2, ← hm7]
   dsimp only
   rw [if_neg (fun h => h rfl), if_neg (fun h => h j1), j2.held, hm8, j2.held]
   rfl
 have k2 : chainM 2 m4 r11 = ((2, 0), m8) := by
   rw [chainM, s1, ← hm5]
   dsimp only
   rw [if_neg (fun h => h rfl), if_neg (fun h => h h1), h2.held]
   have e : look [r12] ⟨r11.o, r11.q + 1⟩ = some r12 := by decide
   rw [e]
   dsimp only
   rw [h2.held] at hm6
   rw [← hm6, k1]
 have d3 : ingM m4 r11 = ((2, 0), m8) := by
   have hv : at0 m4.s.v r11.o.toNat = 0 := by rw [d2.v]; rfl
   unfold ingM
   rw [if_neg (by
     rintro (e | e)
     · rw [t4] at e; cases e
     · rw [d2.n] at e; exact absurd e (by decide)), hv, if_neg (by decide), if_pos (by decide), d2.held]
   exact k2
 have d4 : ingA aw3 [r12, r11] = ((2, 0), m8) := by
   show ingS (ingS ((0, 0), aw3) r12) r11 = _
   rw [show ingS ((0, 0), aw3) r12 = ((0, 0), m4) by unfold ingS; rw [d1]; rfl]
   unfold ingS
   rw [d3]; rfl
 have l8 : aw4 = m8 := by show (ingA aw3 [r12, r11]).2 = m8; rw [d4]
 have f8 : firmE m8.xs = firmE aw2.xs := by
   have e1 : m8.xs = (addM m7 r12).2.xs := by rw [hm8]
   have e2 : m7.xs = (addM m5 r11).2.xs := by rw [hm7, hm6]
   have e3 : m5.xs = aw3.xs := by rw [hm5, hx4]
   rw [e1, j3, e2, h3, e3]; exact c3
 have hall := ingA_all c2.ok [r12, r11]
 rw [d4] at hall
 have hmd : m8.made ≤ 5 := by rw [hm8]; exact j2.made
 have hlen : m8.xs.length ≤ m8.made := hall.1.log.len
 refine ⟨a1, a2.ok, by have : aw1.made ≤ 2 := a2.made; omega, b2.ok, c2.ok, by rw [c2.held]; have := c2.made; simp; omega, by rw [c2.held, c4]; exact Nat.le_of_ble_eq_true rfl, by rw [a3]; exact Nat.le_of_ble_eq_true rfl, by have := b2.made; omega, ?_, by rw [d4], by rw [l8]; exact hall.1, by rw [l8]; omega, by rw [l8, hm8]; exact j2.v, by rw [l8, f8]; exact hfirm2, a2.v, by rw [a3]; rfl, by rw [l8, hm8]; exact i1.id, by rw [l8, hm8]; exact i1.n, by rw [l8, hm8]; exact i1.wall, by rw [l8, hm8]; exact i1.room, by rw [l8]; omega⟩
 show aw1.s.rs.length ≤ 700
 rw [a3]; exact Nat.le_of_ble_eq_true rfl
theorem awake_spec {h0 : Hp} (T : TabX h0) : Ct Tryz.prog 8 [] [ro h0] (fun v hs => v = .bool true ∧ hs = [ro h0]) := by
 obtain ⟨a1, a2, a3, a4, a5, a6, a7, a8, a9, a10, a11, a12, a13, a14, a15, a16, a17, a18, a19, a20, a21, a22⟩ := aw_all
 have hz := zeroB_2
 have hz' : (layE (zeroB ((2 : Nat) : Int))).length ≤ 46 := zeroB_2
 obtain ⟨cs, e1, e2, e3, e4, e5, e6⟩ := crash0 a12 (by omega) (by rw [a19, a21]; omega) (by rw [a19, a15]; omega)
 rw [a18, a19, a20, a21] at e6
 rw [a19] at e2 e5
 refine Cti Tryz.func8 (by kernel_rfl) 92 Tryz.ntmps8 rfl rfl fun w0 R => ?_
 refine Gsr (Las rfl rfl (Lnt (Gsr (La rfl (asC (nnew_ok T (id := 0) (n := 2) (room := 5000) (by decide) (by decide) (by decide) (by omega) (by decide))) ?_))))
 rintro _ _ ⟨_, ⟨b, rfl, rfl⟩, rfl⟩
 refine Lmv rfl rfl (Lq rfl (pu_extract rfl rfl) (Lq rfl (pu_extract rfl rfl) (Las rfl rfl (Las rfl rfl (Lnt (Gs.seq (Gsr (Lmv rfl rfl (Lq rfl (pu_ne rfl rfl) (LpuBf rfl rfl trivial (pu_move rfl) rfl (Lpu rfl rfl ⟨_, rfl, rfl⟩ (pu_move rfl) ?_)))))))))))
 refine Lpu rfl rfl ⟨_, rfl, rfl⟩ (pu_eqN Tryz.underlying26 rfl rfl) (Lpk rfl rfl rfl (Lnt (Gs.cond_ff rfl rfl (Gs.skip (Gn (Gsr (Lmv rfl rfl (La rfl (asC (nappend_spec T b aw0 aw0_is.ok tA (by decide) (by decide))) ?_))))))))
 rintro _ _ ⟨_, ⟨rfl, rfl⟩, rfl⟩
 rw [a1]
 refine Lmv rfl rfl (Lq rfl (pu_extract rfl rfl) (Lq rfl (pu_extract rfl rfl) (La rfl (ac_alloc zv_35 rfl) ?_)))
 rintro _ _ ⟨kb, rfl, rfl⟩
 refine Lac0 rfl trivial (ac_st sz_35 rfl rfl (by repeat constructor) rfl rfl rfl rfl) ?_
 rintro _ _ rfl
 refine Las rfl rfl (Lnt (Gsr (Lmv rfl rfl (La rfl (asC (nsync_spec b aw1 a2 (by omega))) ?_))))
 rintro _ _ ⟨_, ⟨rfl, rfl⟩, rfl⟩
 refine Las rfl rfl (Lnt (Gsr (Lmv rfl rfl (La rfl (asC (nappend_spec T b aw2 a4 tB (by omega) a10)) ?_))))
 rintro _ _ ⟨_, ⟨rfl, rfl⟩, rfl⟩
 refine Lnt (Gsr (Lmv rfl rfl (La rfl (asC (lrec_spec 1 2 tC)) ?_)))
 rintro _ _ ⟨_, ⟨rfl, rfl⟩, rfl⟩
 refine La rfl (asC (lrec_spec 1 1 tD)) ?_
 rintro _ _ ⟨_, ⟨rfl, rfl⟩, rfl⟩
 refine La rfl (ac_lit encC_50 ([r12, r11]) et_32 ek_50 rfl (by repeat constructor) rfl rfl (by decide)) ?_
 rintro _ _ ⟨a34, rfl, rfl⟩
 refine La rfl (asC (ingest_spec T b aw3 a5 (S := sl 50 5 recC (some ⟨a34, 0, none⟩) 2 [r12, r11]) (rs := [r12, r11]) Srd.own a6 a7)) ?_
 rintro _ _ ⟨_, ⟨rfl, rfl⟩, rfl⟩
 rw [a11]
 refine Lmv rfl rfl (Lq rfl (pu_extract rfl rfl) (Lq rfl (pu_extract rfl rfl) (Las rfl rfl (Las rfl rfl (Lnt (Gsr (Lmv rfl rfl (La rfl (asC (gV_spec a12)) ?_))))))))
 rintro _ _ ⟨_, ⟨va, vc, rfl, rfl⟩, rfl⟩
 rw [a14]
 refine Las rfl rfl (Lnt (Gsr (Lmv rfl rfl (La rfl (asC (ncrash_spec b aw4 0 a22 (by decide) (by decide))) ?_))))
 rintro _ _ ⟨_, ⟨rfl, rfl⟩, rfl⟩
 rw [e1, a18, a19, a20, a21]
 refine Lmv rfl rfl (La rfl (asC (nrestart_spec T b 0 2 0 5000 (by decide) (by decide) e2 e4 e3 (fun _ => by omega) e5)) ?_)
 rintro _ _ ⟨_, ⟨made, ys, rfl, hop, rfl⟩, rfl⟩
 obtain ⟨g1, g2, -⟩ := e6 made ys hop
 rw [a15] at g2
 refine Las rfl rfl (Las rfl rfl (Lnt (Gsr (Lr rfl (rd_lda ag_35 rfl (Rdc.cl 2 (by repeat constructor) rfl) rfl) ?_))))
 refine Lq rfl (pu_build bd_35 (by repeat constructor) rfl) ?_
 refine Lq rfl (pu_eqT (a := (⟨0, 1⟩ : Key)) (b := (⟨0, 1⟩ : Key)) cmp_35 (by decide) Tryz.eqGuardType35 rfl rfl) ?_
 refine LpuBt rfl rfl trivial (pu_move rfl) rfl (Lpu rfl rfl ⟨_, rfl, rfl⟩ (pu_move rfl) (Lpu rfl rfl ⟨_, rfl, rfl⟩ (pu_eq rfl rfl) (Lpk rfl rfl rfl (LpuBt rfl rfl trivial (pu_move rfl) rfl (Lpu rfl rfl ⟨_, rfl, rfl⟩ (pu_move rfl) (Lpu rfl rfl ⟨_, rfl, rfl⟩ (pu_eq rfl rfl) (Lpk rfl rfl rfl (LpuBt rfl rfl trivial (pu_move rfl) rfl (Lpu rfl rfl ⟨_, rfl, rfl⟩ (pu_move rfl) (Lpu rfl rfl ⟨_, rfl, rfl⟩ (pu_eq rfl rfl) (Lpk rfl rfl rfl ?_)))))))))))
 refine LpuBt rfl rfl trivial (pu_move rfl) rfl (Lpu rfl rfl ⟨_, rfl, rfl⟩ (pu_move rfl) (Lpu rfl rfl ⟨_, rfl, rfl⟩ (pu_eq rfl rfl) (Lpk rfl rfl rfl (LpuBt rfl rfl trivial (pu_move rfl) rfl (Lpu rfl rfl ⟨_, rfl, rfl⟩ (pu_move rfl) (Lac rfl rfl ⟨_, rfl, rfl⟩ (ac_lit encC_3 ([(2 : Int), 2]) et_30 ek_3 rfl (by repeat constructor) rfl rfl (by decide)) ?_))))))
 rintro _ _ ⟨a65, rfl, rfl⟩
 refine Lac rfl rfl ⟨_, rfl, rfl⟩ (asC (sameInts2_spec (S := sl 3 1 intC va vc [2, 2]) (U := sl 3 1 intC (some ⟨a65, 0, none⟩) 2 [2, 2]) (xs := [2, 2]) (ys := [2, 2]) Srd.own Srd.own (by decide))) ?_
 rintro _ _ ⟨_, ⟨rfl, rfl⟩, rfl⟩
 refine Lpk rfl rfl rfl (LpuBt rfl rfl trivial (pu_move rfl) rfl (Lpu rfl rfl ⟨_, rfl, rfl⟩ (pu_move rfl) (Lpu rfl rfl ⟨_, rfl, rfl⟩ (pu_eq rfl rfl) (Lpk rfl rfl rfl (LpuBt rfl rfl trivial (pu_move rfl) rfl (Lpu rfl rfl ⟨_, rfl, rfl⟩ (pu_move rfl) (Lpu rfl rfl ⟨_, rfl, rfl⟩ (pu_eq rfl rfl) (Lpk rfl rfl rfl (LpuBt rfl rfl trivial (pu_move rfl) rfl (Lpu rfl rfl ⟨_, rfl, rfl⟩ (pu_move rfl) (Lac rfl rfl ⟨_, rfl, rfl⟩ (asC (gV_spec g1)) ?_)))))))))))
 rintro _ _ ⟨_, ⟨wa, wc, rfl, rfl⟩, rfl⟩
 rw [g2, a16]
 refine Lac rfl rfl ⟨_, rfl, rfl⟩ (ac_lit encC_3 ([(1 : Int), 0]) et_30 ek_3 rfl (by repeat constructor) rfl rfl (by decide)) ?_
 rintro _ _ ⟨a79, rfl, rfl⟩
 refine Lac rfl rfl ⟨_, rfl, rfl⟩ (asC (sameInts2_spec (S := sl 3 1 intC wa wc [1, 0]) (U := sl 3 1 intC (some ⟨a79, 0, none⟩) 2 [1, 0]) (xs := [1, 0]) (ys := [1, 0]) Srd.own Srd.own (by decide))) ?_
 rintro _ _ ⟨_, ⟨rfl, rfl⟩, rfl⟩
 refine Lpk rfl rfl rfl (LpuBt rfl rfl trivial (pu_move rfl) rfl (Lpu rfl rfl ⟨_, rfl, rfl⟩ (pu_move rfl) (Lac rfl rfl ⟨_, rfl, rfl⟩ (asC (gUp_spec)) ?_)))
 rintro _ _ ⟨_, ⟨rfl, rfl⟩, rfl⟩
 refine Lpk rfl rfl rfl (LpuBt rfl rfl trivial (pu_move rfl) rfl (Lpu rfl rfl ⟨_, rfl, rfl⟩ (pu_move rfl) (Lac rfl rfl ⟨_, rfl, rfl⟩ (asC (gRecords_spec g1)) ?_)))
 rintro _ _ ⟨_, ⟨xa, xc, rfl, rfl⟩, rfl⟩
 rw [recsK_len g1.log.ok, g2, a17]
 refine Lpu rfl rfl ⟨_, rfl, rfl⟩ (pu_len Tryz.underlying32 rfl) (Lpu rfl rfl ⟨_, rfl, rfl⟩ (pu_eq rfl rfl) (Lpk rfl rfl rfl (Las rfl rfl (Lnt (Gs.ret ?_)))))
 exact Gs.fin1 Tryz.results8 rfl _ (⟨rfl, rfl⟩) (by repeat constructor)
end Go.Proofs.YtflfhpokmidnmaaGreatDoor
namespace Go.Proofs.YtflfhpokmidnmaaGreatDoor
open Go Go.Sl Go.Gv Go.Kv Go.Po Go.Ix Go.Qu Go.Shelf Go.Dv Go.Bst
set_option maxRecDepth 100000
abbrev msgC (k f t : Int) (v w r : Value) : List Value := [int k, int f, int t, v, w, r]
abbrev msgV (k f t : Int) (v w r : Value) : Value := .agg (msgC k f t v w r).toArray
theorem message_spec (b : Nat) (m : NdM) (h : NdOk m) (k t : Int) (ra : Option Addr) (rl rc : Nat) :
   Ct Tryz.prog 52 [ptr b, int k, int t, .slice ra rl rc] [ndA b m]
     (fun v hs => ∃ va vc wa wc, v = msgV k m.id t (.slice va m.s.v.length vc) (.slice wa m.s.w.length wc) (.slice ra rl rc) ∧ hs = [ndA b m, sl 3 1 intC va vc m.s.v, sl 3 1 intC wa wc m.s.w]) := by
 have hv := StOk.v h.log.ok
 have hw := StOk.w h.log.ok
 have h8 := h.n8
 refine Cti Tryz.func52 (by kernel_rfl) 21 Tryz.ntmps52 rfl rfl fun w0 R => ?_
 refine Gs.nd fun q => ?_
 refine Gsr (La rfl (ac_alloc zv_61 rfl) ?_)
 rintro _ _ ⟨ob, rfl, rfl⟩
 refine Lnt (Gs.seq (Gs.regD mixed (by kernel_rfl) (Rmv 0 rfl (by kernel_rfl) rfl (Rmv 1 rfl (by kernel_rfl) rfl (Rq 2 rfl (by kernel_rfl) (by first | exact pu_nil rfl | exact pu_nilF rfl) ?_)))))
 refine Rq 3 rfl (by kernel_rfl) (pu_fa fa_76_1 rfl) (Rr 4 rfl (by kernel_rfl) (rd_ld na_3 rfl (Rdc.cl1 (by repeat constructor) rfl)) ?_)
 refine Rmv 5 rfl (by kernel_rfl) rfl (Rmv 6 rfl (by kernel_rfl) rfl (Rmv 8 rfl (by kernel_rfl) rfl (Rmv 10 rfl (by kernel_rfl) rfl (Rg.one (by kernel_rfl) (Stp.acR 7 [4] rfl rfl (by kernel_rfl) trivial (asC (nV_spec b q m.id m.n m.wall m.s.v m.s.w m.s.rs (by omega))) (by rintro _ _ ⟨_, ⟨va, vc, rfl, rfl⟩, rfl⟩; exact (Reads.cons rfl rfl rfl trivial rfl (rd_ld na_3 rfl (Rdc.cl1 (by repeat constructor) rfl)) Reads.nil)) ?_)))))
 rintro _ _ ⟨_, ⟨va, vc, rfl, rfl⟩, rfl⟩
 refine Rg.one (by kernel_rfl) (Stp.acR 9 [4] rfl rfl (by kernel_rfl) trivial (asC (nW_spec b q m.id m.n m.wall m.s.v m.s.w m.s.rs (by omega))) (by rintro _ _ ⟨_, ⟨wa, wc, rfl, rfl⟩, rfl⟩; exact (Reads.cons rfl rfl rfl trivial rfl (rd_ld na_3 rfl (Rdc.cl1 (by repeat constructor) rfl)) Reads.nil)) ?_)
 rintro _ _ ⟨_, ⟨wa, wc, rfl, rfl⟩, rfl⟩
 refine Rq 11 rfl (by kernel_rfl) (pu_build bd_61 (by repeat constructor) rfl) ?_
 refine Rg.one (by kernel_rfl) (Stp.ac0 12 rfl rfl (by kernel_rfl) trivial (ac_st sz_61 rfl rfl (by repeat constructor) rfl rfl rfl rfl)  ?_)
 rintro _ _ rfl
 refine Rg.end (by kernel_rfl) (Gn (Gs.ret (Gs.takes (As := ndL b q m) (by repeat constructor) (Gs.ndc q ?_))))
 exact Gs.finc1 Tryz.results52 ag_61 rfl (Rdc.cl 6 (by repeat constructor) rfl) rfl _ (⟨va, vc, wa, wc, rfl, rfl⟩) (by repeat constructor)
theorem hello_spec (b : Nat) (m : NdM) (h : NdOk m) (hm : m.made < 98) (t : Int) (h0 : 0 ≤ t) (h1 : t < (m.n : Int)) (h2 : t ≠ (m.id : Int)) :
   Ct Tryz.prog 28 [ptr b, int t] [ndA b m]
     (fun v hs => ∃ va vc wa wc, v = .tuple #[msgV 1 m.id t (.slice va m.s.v.length vc) (.slice wa m.s.w.length wc) (.slice none 0 0), int 0] ∧ hs = [ndA b (syncM m), sl 3 1 intC va vc m.s.v, sl 3 1 intC wa wc m.s.w]) := by
 have hs := h.sync hm
 refine Cti Tryz.func28 (by kernel_rfl) 37 Tryz.ntmps28 rfl rfl fun w0 R => ?_
 refine Gs.nd fun q => ?_
 refine Gsr (La rfl (ac_alloc zv_61 rfl) ?_)
 rintro _ _ ⟨ob, rfl, rfl⟩
 refine Las rfl rfl (Lnt (Gs.seq (Gsr (Lmv rfl rfl (La rfl (asC (ndown_spec b q m.id m.n m.wall)) ?_)))))
 rintro _ _ ⟨_, ⟨rfl, rfl⟩, rfl⟩
 refine Las rfl rfl (Lnt (Gsr (Lmv rfl rfl (Lq rfl (pu_ne rfl rfl) (Lnt (Gs.cond_ff rfl rfl (Gs.skip (Gn (Gs.seq (Gsr (Lmv rfl rfl ?_)))))))))))
 refine Lq rfl (pu_lt rfl rfl) (LpuBf rfl rfl trivial (pu_move rfl) (decide_eq_false (by omega)) (Lpu rfl rfl ⟨_, rfl, rfl⟩ (pu_move rfl) (Lpu rfl rfl ⟨_, rfl, rfl⟩ (pu_move rfl) (Lpu rfl rfl ⟨_, rfl, rfl⟩ (by first | exact pu_nil rfl | exact pu_nilF rfl) ?_))))
 refine Lpu rfl rfl ⟨_, rfl, rfl⟩ (pu_fa fa_76_2 rfl) (Lrd rfl rfl ⟨_, rfl, rfl⟩ (rd_ld na_3 rfl (Rdc.cl1 (by repeat constructor) rfl)) ?_)
 refine Lpu rfl rfl ⟨_, rfl, rfl⟩ (pu_ge rfl rfl) (Lpk rfl rfl rfl (LpuBf rfl rfl trivial (pu_move rfl) (decide_eq_false (by omega)) (Lpu rfl rfl ⟨_, rfl, rfl⟩ (pu_move rfl) (Lpu rfl rfl ⟨_, rfl, rfl⟩ (pu_move rfl) (Lpu rfl rfl ⟨_, rfl, rfl⟩ (by first | exact pu_nil rfl | exact pu_nilF rfl) ?_)))))
 refine Lpu rfl rfl ⟨_, rfl, rfl⟩ (pu_fa fa_76_1 rfl) (Lrd rfl rfl ⟨_, rfl, rfl⟩ (rd_ld na_3 rfl (Rdc.cl1 (by repeat constructor) rfl)) ?_)
 refine Lpu rfl rfl ⟨_, rfl, rfl⟩ (pu_eq rfl rfl) (Lpk rfl rfl rfl (Lnt (Gs.cond_ff rfl (decide_eq_false (by omega)) (Gs.skip (Gn (Gs.seq (Gs.takes (As := ndL b q m) (by repeat constructor) (Gs.ndc q ?_))))))))
 refine Gs.reg (Lmv rfl rfl (La rfl (asC (nsync_spec b m h hm)) ?_))
 rintro _ _ ⟨_, ⟨rfl, rfl⟩, rfl⟩
 refine Lnt (Gsr (Lmv rfl rfl (Lmv rfl rfl (La rfl (asC (message_spec b (syncM m) hs 1 t none 0 0)) ?_))))
 rintro _ _ ⟨_, ⟨va, vc, wa, wc, rfl, rfl⟩, rfl⟩
 refine Lac0 rfl trivial (ac_st sz_61 rfl rfl (by repeat constructor) rfl rfl rfl rfl) ?_
 rintro _ _ rfl
 refine Las rfl rfl (Lnt (Gs.ret ?_))
 exact Gs.finc2 Tryz.results28 ag_61 rfl (Rdc.cl 6 (by repeat constructor) rfl) rfl rfl _ (⟨va, vc, wa, wc, rfl, rfl⟩) (by repeat constructor)
end Go.Proofs.YtflfhpokmidnmaaGreatDoor
namespace Go.Proofs.YtflfhpokmidnmaaGreatDoor
open Go Go.Sl Go.Gv Go.Kv Go.Po Go.Ix Go.Qu Go.Shelf Go.Dv Go.Bst
set_option maxRecDepth 100000
theorem play_vmono {n : Nat} (h1 : 1 ≤ n) (h8 : n ≤ 8) {a b : List EntP} (h : a <+: b) {o : Nat} (ho : o < n) : at0 (playM n a).v o ≤ at0 (playM n b).v o := by
 obtain ⟨t, rfl⟩ := h
 by_cases ha : a = []
 · subst ha
   rw [play_nil]
   have h2 := StOk.le (OkM.play n ([] ++ t)) o ho
   have h3 : at0 (zeroM n).v o = 0 := zeroM_w n ho
   omega
 · rw [play_app ha]
   have hok := OkM.play n a
   exact sim_steps_v (hok.vecs h1 h8).1 t hok (fun o _ => Int.le_refl _) o ho
theorem step_rs {s : StM} {e : EntP} {r : Rec} (h : r ∈ (stepM s e).rs) : r ∈ s.rs ∨ (e.kind = 2 ∧ e.r = r) := by
 unfold stepM at h
 split at h
 · rename_i hk
   unfold accM at h
   split at h
   · rcases List.mem_append.1 h with h | h
     · exact .inl h
     · exact .inr ⟨hk, (List.mem_singleton.1 h).symm⟩
   · exact .inl h
 · unfold raiM at h
   split at h
   · exact .inl (List.mem_filter.1 h).1
   · exact .inl h
theorem steps_rs : ∀ (es : List EntP) {s : StM} {r : Rec}, r ∈ (es.foldl stepM s).rs → r ∈ s.rs ∨ ∃ e ∈ es, e.kind = 2 ∧ e.r = r
 | [], _, _, h => .inl h
 | e :: es, s, r, h => by
   rcases steps_rs es h with h | ⟨x, hx, h⟩
   · rcases step_rs h with h | h
     · exact .inl h
     · exact .inr ⟨e, by simp, h⟩
   · exact .inr ⟨x, by simp [hx], h⟩
theorem play_rs {n : Nat} {es : List EntP} {r : Rec} (h : r ∈ (playM n es).rs) : ∃ e ∈ es, e.kind = 2 ∧ e.r = r := by
 rcases steps_rs es h with h | h
 · unfold raiM at h
   split at h
   · cases (List.mem_filter.1 h).1
   · cases h
 · exact h
theorem add_ents {m : NdM} (h : NdOk m) (r : Rec) : ∀ e ∈ flatS (addM m r).2.xs, e ∈ flatS m.xs ∨ e.kind = 1 ∨ e = recE r := by
 have hx : (addM m r).2.xs = (wS m.room m.n m.made m.xs (recE r) m.s.v m.s.w).xs := by unfold addM; dsimp only; split <;> rfl
 rw [hx]
 obtain ⟨X, x, hX⟩ := last_of h.log.st.ne
 rw [hX]
 cases hw : mayW m.n (recE r) m.s.v m.s.w with
 | false => rw [wS_no hw]; exact fun e he => .inl he
 | true =>
   rw [wS_yes hw]
   unfold wrS
   have hs : flatS (X ++ [syn x]) = flatS (X ++ [x]) := by rw [flat_snoc, flat_snoc]; rfl
   intro e he
   split at he
   · split at he
     · exact .inl he
     · have he : e ∈ flatS (X ++ [⟨x.k, x.es ++ [recE r], x.s⟩]) := he
       rw [flat_snoc, ← List.append_assoc, ← flat_snoc] at he
       rcases List.mem_append.1 he with he | he
       · exact .inl he
       · exact .inr (.inr (List.mem_singleton.1 he))
   · split at he
     · have he : e ∈ flatS (X ++ [syn x]) := he
       rw [hs] at he; exact .inl he
     · have he : e ∈ flatS (X ++ [syn x] ++ [⟨m.made + 1, [baseE m.s.v m.s.w, recE r], 0⟩]) := he
       rw [flat_snoc, hs] at he
       rcases List.mem_append.1 he with he | he
       · exact .inl he
       · simp only [List.mem_cons, List.not_mem_nil, or_false] at he
         rcases he with rfl | rfl
         · exact .inr (.inl rfl)
         · exact .inr (.inr rfl)
theorem segs_sub {xs ys : List Seg} (h : ∀ x ∈ ys, x ∈ xs) : ∀ e ∈ flatS ys, e ∈ flatS xs := fun e he => by
 unfold flatS at he ⊢
 obtain ⟨x, hx, hex⟩ := List.mem_flatMap.1 he
 exact List.mem_flatMap.2 ⟨x, h x hx, hex⟩
theorem sync_ents (n : Int) (w : List Int) (xs : List Seg) : ∀ e ∈ flatS (syncX n w xs), e ∈ flatS xs := fun e he => by
 unfold syncX at he
 have := segs_sub (fun x hx => List.mem_of_mem_drop hx) e he
 rwa [syn_flat] at this
theorem lastR_bound {k : Int} (hk : 0 ≤ k) : ∀ (rs : List Rec) (t : Int × Int), t.1 = 0 ∧ t.2 ≤ k → (∀ r ∈ rs, r.w = 0 ∧ r.c ≤ k) → (rs.foldl (fun t r => maxS [t, (r.w, r.c)]) t).1 = 0 ∧ (rs.foldl (fun t r => maxS [t, (r.w, r.c)]) t).2 ≤ k
 | [], _, h, _ => h
 | r :: rs, t, h, hr => by
   rw [List.foldl_cons]
   refine lastR_bound hk rs _ ?_ fun x hx => hr x (by simp [hx])
   have h2 := hr r (by simp)
   rw [max2]
   unfold topC
   split
   · exact h2
   · exact h
structure NuI (i mk : Nat) (told : Int) (m : NdM) : Prop where
 ok : NdOk m
 id : m.id = 0
 n : m.n = 2
 wall : m.wall = 0
 room : m.room = 200000
 clk : m.clk.1 = 0 ∧ m.clk.2 ≤ i
 ents : ∀ e ∈ flatS m.xs, e.kind = 2 → e.r.w = 0 ∧ e.r.c ≤ i
 made : m.made ≤ mk
 used : usedS m.xs ≤ 46 + 190 * i
 told0 : 0 ≤ told
 told : told ≤ at0 (playM 2 (firmE m.xs)).v 0
 v : ∀ o, o < 2 → at0 m.s.v o ≤ i
theorem NuI.recs {i mk : Nat} {told : Int} {m : NdM} (h : NuI i mk told m) : m.s.rs.length ≤ i * 2 := by
 have hok := h.ok.log.ok
 have hv := StOk.v hok
 have hn := h.n
 rw [← recsK_len hok]
 unfold recsK
 rw [ofR_len]
 unfold lackK
 rw [hv, hn]
 refine lackN_len (k := i) 2 fun o ho => ?_
 have h1 := StOk.le hok o (by omega)
 have h2 := h.v o ho
 rw [topAt_self]; omega
theorem NuI.firm {i mk : Nat} {told : Int} {m : NdM} (h : NuI i mk told m) : told ≤ at0 m.s.v 0 := by
 have := play_vmono (n := 2) (by first | decide | exact of_decide_eq_true rfl) (by first | decide | exact of_decide_eq_true rfl) (firm_pre h.ok.log.st) (o := 0) (by first | decide | exact of_decide_eq_true rfl)
 have hp := h.ok.log.play
 rw [h.n] at hp
 rw [hp] at this
 have := h.told; omega
abbrev nu0 : NdM := newM 0 2 200000
theorem nu_start : NuI 0 1 0 nu0 := by
 have hz := zeroB_2
 have hz' : (layE (zeroB ((2 : Nat) : Int))).length ≤ 46 := zeroB_2
 have e3 : layS [zeroB 2] = layE (zeroB 2) := by simp [layS]
 have hf : flatS [newSeg 2 1] = [zeroB 2] := by simp [flatS, newSeg]
 refine ⟨newM_ok (by first | decide | exact of_decide_eq_true rfl) (by first | decide | exact of_decide_eq_true rfl) (by first | decide | exact of_decide_eq_true rfl) (by omega) (by first | decide | exact of_decide_eq_true rfl), rfl, rfl, rfl, rfl, ⟨rfl, by first | decide | exact of_decide_eq_true rfl⟩, fun e he hk => ?_, by first | decide | exact of_decide_eq_true rfl, ?_, Int.le_refl _, ?_, fun o ho => ?_⟩
 · have he : e ∈ flatS [newSeg 2 1] := he
   rw [hf, List.mem_singleton] at he
   rw [he] at hk; cases hk
 · show (layS [zeroB 2]).length + 0 ≤ 46; rw [e3]; omega
 · have := StOk.le (OkM.play 2 (firmE [newSeg 2 1])) 0 (by first | decide | exact of_decide_eq_true rfl)
   show (0 : Int) ≤ at0 (playM 2 (firmE [newSeg 2 1])).v 0; omega
 · have : at0 (zeroM 2).v o = 0 := zeroM_w 2 ho
   show at0 (zeroM 2).v o ≤ ((0 : Nat) : Int); omega
theorem NuI.app {i mk : Nat} {told : Int} {m : NdM} (h : NuI i mk told m) (hi : i < 20) (t : ByteArray) : ((appM m t).1.2 = 3 ∧ (appM m t).2 = m) ∨ ((appM m t).1 = (⟨0, at0 m.s.v 0 + 1⟩, 0) ∧ NuI (i + 1) (mk + 1) told (appM m t).2 ∧ at0 (appM m t).2.s.v 0 = at0 m.s.v 0 + 1) := by
 by_cases ht : textB t = false
 · refine .inl ?_
   unfold appM
   rw [if_pos ht]; exact ⟨rfl, rfl⟩
 · have ht' : textB t = true := by
     cases hb : textB t with
     | true => rfl
     | false => exact (ht hb).elim
   refine .inr ?_
   have hid := h.id
   have hn := h.n
   have hv := StOk.v h.ok.log.ok
   have hv0 := h.v 0 (by first | decide | exact of_decide_eq_true rfl)
   have hc := clkB_iff.1 h.ok.clk
   have hc2 := h.clk
   have hu := h.used
   have htick : tickC m.clk m.wall = ((0, m.clk.2 + 1), 0) := by
     rw [h.wall]
     unfold tickC
     rw [if_pos (by first | decide | exact of_decide_eq_true rfl), if_neg (by omega)]
     unfold setC
     rw [if_neg (by show ¬ 65535 < m.clk.2 + 1; omega), hc2.1]
   obtain ⟨r, hr, x1, x2, x3, x4⟩ := app_yes h.ok ht' (by rw [hid]; omega) (by rw [htick]) (by rw [h.room]; omega)
   rw [htick] at hr x2 x4
   rw [hid] at hr x1
   obtain ⟨m1, hm1⟩ : ∃ m1 : NdM, m1 = ⟨m.id, m.n, m.wall, m.room, (0, m.clk.2 + 1), m.s, m.held, m.made, m.xs⟩ := ⟨_, rfl⟩
   have hclk : clkB (0, m.clk.2 + 1) = true := clkB_iff.2 ⟨by first | decide | exact of_decide_eq_true rfl, by show 0 ≤ m.clk.2 + 1 ∧ m.clk.2 + 1 ≤ 65535; omega⟩
   have h1 : NdOk m1 := by rw [hm1]; exact h.ok.clock hclk
   rw [← hm1] at x2 x4
   have e1 : m1.s = m.s := by rw [hm1]
   have e2 : m1.xs = m.xs := by rw [hm1]
   have e3 : m1.made = m.made := by rw [hm1]
   have hro : r.o < (m1.n : Int) := by rw [hr, hm1]; show ((0 : Nat) : Int) < (m.n : Int); rw [hn]; first | decide | exact of_decide_eq_true rfl
   obtain ⟨k1, k2, k3, k4, k5⟩ := addM_keep m1 r
   obtain ⟨s1, s2⟩ := addM_ok x4
   have hrq : r.q = at0 m.s.v 0 + 1 := by rw [hr]
   have hacc : accM m1.s r = ⟨m.s.v.set 0 r.q, m.s.w, m.s.rs ++ [r]⟩ := by
     rw [e1, accM_yes x3 (by rw [hr]; show ((0 : Nat) : Int) < _; rw [hv, hn]; first | decide | exact of_decide_eq_true rfl) (by rw [hr]; rfl)]
     rw [hr]; rfl
   rw [hacc] at s1
   have hp := addM_pot h1 r
   obtain ⟨a1, a2⟩ := add_yes h1 x3 hro (by rw [e2, hm1]; show (usedS m.xs : Int) + 190 ≤ m.room; rw [h.room]; omega)
   have hadd := h1.add x3 hro
   have hents := add_ents h1 r
   have hok' := hadd.log.play
   have hfirm : firmE m.xs <+: firmE (addM m1 r).2.xs := by
     have hw := mayW_rec h1.log.ok h1.n1 h1.n8 x3 hro
     have hx : (addM m1 r).2.xs = (wS m1.room m1.n m1.made m1.xs (recE r) m1.s.v m1.s.w).xs := by unfold addM; dsimp only; split <;> rfl
     rw [← e2, hx]; exact wS_firm h1.log hw
   rw [x2]
   have hset : at0 (addM m1 r).2.s.v 0 = at0 m.s.v 0 + 1 := by rw [s1]; show at0 (m.s.v.set 0 r.q) 0 = _; rw [at0_set (by omega), if_pos rfl, hrq]
   refine ⟨x1, ⟨hadd, by rw [k1, hm1]; exact hid, by rw [k2, hm1]; exact hn, by rw [k3, hm1]; exact h.wall, by rw [k4, hm1]; exact h.room, by rw [k5, hm1]; exact ⟨rfl, by show m.clk.2 + 1 ≤ ((i + 1 : Nat) : Int); omega⟩, fun e he hk => ?_, by have := h.made; omega, by rw [e2] at a2; omega, h.told0, ?_, fun o ho => ?_⟩, hset⟩
   · rcases hents e he with he | he | he
     · rw [e2] at he
       have := h.ents e he hk
       exact ⟨this.1, by omega⟩
     · rw [he] at hk; cases hk
     · rw [he]
       show r.w = 0 ∧ r.c ≤ ((i + 1 : Nat) : Int)
       rw [hr]
       exact ⟨rfl, by show m.clk.2 + 1 ≤ ((i + 1 : Nat) : Int); omega⟩
   · exact Int.le_trans h.told (play_vmono (by first | decide | exact of_decide_eq_true rfl) (by first | decide | exact of_decide_eq_true rfl) hfirm (by first | decide | exact of_decide_eq_true rfl))
   · rw [s1]
     show at0 (m.s.v.set 0 r.q) o ≤ _
     rw [at0_set (by omega)]
     have := h.v o ho
     split <;> omega
theorem NuI.synced {i mk : Nat} {told : Int} {m : NdM} (h : NuI i mk told m) (hi : mk < 97) : NuI i mk (at0 m.s.v 0) (syncM m) := by
 have hm := h.made
 have hsm := h.ok.sync (by omega)
 have hf : playM 2 (firmE (syncM m).xs) = m.s := by
   have := sync_firm h.ok.log (by omega)
   rw [h.n] at this
   show playM 2 (firmE (syncX m.n m.s.w m.xs)) = m.s
   rw [h.n]; exact this
 have hu := sync_used m.n m.s.w m.xs
 have hle := StOk.le h.ok.log.ok 0 (by rw [h.n]; first | decide | exact of_decide_eq_true rfl)
 exact ⟨hsm, h.id, h.n, h.wall, h.room, h.clk, fun e he hk => h.ents e (sync_ents _ _ _ e he) hk, h.made, by have := h.used; show usedS (syncX m.n m.s.w m.xs) ≤ _; omega, by omega, by rw [hf]; exact Int.le_refl _, h.v⟩
theorem NuI.crash {i mk : Nat} {told : Int} {m : NdM} (h : NuI i mk told m) (hi : i < 40) (hmk : mk < 97) (st : Int) :
   ∃ cs, crashL st (m.xs.map segF) = cs.map csF ∧ CsOk 2 cs ∧ (∀ c ∈ cs, c.k < 98) ∧ cs.length ≤ 900 ∧ (∀ made' ys, OpRel 2 cs made' ys → (playM 2 (flatS ys)).rs.length ≤ 700 ∧ (flatS ys).length ≤ 2000000) ∧
     ∀ made' ys, OpRel 2 cs made' ys → NuI i (mk + 1) told (openM 0 2 0 200000 made' ys) ∧ told ≤ at0 (openM 0 2 0 200000 made' ys).s.v 0 ∧ at0 (openM 0 2 0 200000 made' ys).s.v 0 ≤ at0 m.s.v 0 := by
 have hn := h.n
 have hmd := h.made
 have hus := h.used
 have hxl := h.ok.log.len
 have hz := zeroB_2
 have hz' : (layE (zeroB ((2 : Nat) : Int))).length ≤ 46 := zeroB_2
 obtain ⟨cs, e1, e2, e3, e4, e5⟩ := h.ok.log.crash h.ok.n1 h.ok.n8 (by omega) st
 rw [hn] at e2
 have hall : ∀ made' ys, OpRel 2 cs made' ys → NuI i (mk + 1) told (openM 0 2 0 200000 made' ys) ∧ told ≤ at0 (openM 0 2 0 200000 made' ys).s.v 0 ∧ at0 (openM 0 2 0 200000 made' ys).s.v 0 ≤ at0 m.s.v 0 := fun made' ys ho => by
   obtain ⟨es, g1, g2, g3, g4, g5, g6, g7, g8, g9, g10⟩ := e5 made' ys (by rw [hn]; exact ho)
   rw [hn] at g3 g4 g6
   have hp := h.ok.log.play
   rw [hn] at hp
   have hvle : ∀ o, o < 2 → at0 (playM 2 es).v o ≤ at0 m.s.v o := fun o ho => by
     rw [← hp]; exact play_vmono (by first | decide | exact of_decide_eq_true rfl) (by first | decide | exact of_decide_eq_true rfl) g2 ho
   have hs : (openM 0 2 0 200000 made' ys).s = playM 2 es := g3
   have hok : OkM 2 (playM 2 (flatS ys)) := OkM.play _ _
   have hents : ∀ e ∈ flatS ys, e.kind = 2 → e.r.w = 0 ∧ e.r.c ≤ (i : Int) := fun e he hk => by
     rcases Classical.em (cs.filterMap after = []) with hc | hc
     · rw [g7 hc] at he
       rw [show flatS [newSeg (m.n : Int) made'] = [zeroB m.n] by simp [flatS, newSeg], List.mem_singleton] at he
       rw [he] at hk; cases hk
     · rw [g10 hc] at he
       exact h.ents e (g2.subset he) hk
   have hrs : ∀ r ∈ recsK (playM 2 (flatS ys)), r.w = 0 ∧ r.c ≤ (i : Int) := fun r hr => by
     obtain ⟨e, he, hk, rfl⟩ := play_rs (recsK_mem hok r hr)
     exact hents e he hk
   have hlast := lastR_bound (k := (i : Int)) (by omega) (recsK (playM 2 (flatS ys))) (0, 0) ⟨rfl, by show (0 : Int) ≤ i; omega⟩ hrs
   have hnd : NdOk (openM 0 2 0 200000 made' ys) := ⟨by first | decide | exact of_decide_eq_true rfl, by first | decide | exact of_decide_eq_true rfl, by first | decide | exact of_decide_eq_true rfl, by rw [← g3] at g4; exact g4, lastR_ok _ fun r hr => StOk.may hok r (recsK_mem hok r hr), by first | decide | exact of_decide_eq_true rfl, by show 0 ≤ 12; omega, (fun r hr => by cases hr), by show (usedS ys : Int) ≤ 200000; omega, by first | decide | exact of_decide_eq_true rfl⟩
   have hfm : told ≤ at0 (playM 2 (firmE ys)).v 0 := by
     rcases g9 with g9 | g9
     · exact Int.le_trans h.told (play_vmono (by first | decide | exact of_decide_eq_true rfl) (by first | decide | exact of_decide_eq_true rfl) g9 (by first | decide | exact of_decide_eq_true rfl))
     · have h1 := h.told
       rw [g9, play_nil] at h1
       have h2 : at0 (zeroM 2).v 0 = 0 := zeroM_w 2 (by first | decide | exact of_decide_eq_true rfl)
       have := StOk.le (OkM.play 2 (firmE ys)) 0 (by first | decide | exact of_decide_eq_true rfl)
       omega
   refine ⟨⟨hnd, rfl, rfl, rfl, rfl, ⟨hlast.1, by have := hlast.2; show (lastR _).2 ≤ _; unfold lastR; omega⟩, hents, by show made' ≤ _; omega, by show usedS ys ≤ _; omega, h.told0, hfm, fun o ho => ?_⟩, ?_, ?_⟩
   · rw [hs]
     have := hvle o ho
     have := h.v o ho
     omega
   · rw [hs]
     exact Int.le_trans h.told (play_vmono (by first | decide | exact of_decide_eq_true rfl) (by first | decide | exact of_decide_eq_true rfl) g1 (by first | decide | exact of_decide_eq_true rfl))
   · rw [hs]; exact hvle 0 (by first | decide | exact of_decide_eq_true rfl)
 refine ⟨cs, e1, e2, e3, by omega, fun made' ys ho => ?_, hall⟩
 obtain ⟨a1, -, -⟩ := hall made' ys ho
 have a2 := a1.recs
 have a3 := flat_len ys
 have a4 := a1.used
 refine ⟨by show (openM 0 2 0 200000 made' ys).s.rs.length ≤ 700; omega, ?_⟩
 have a4 : usedS ys ≤ _ := a4
 omega
theorem nodeNumbers_spec {h0 : Hp} (T : TabX h0) (many0 stay0 : Int) {ta : Option Addr} {tc : Nat} {ts : List ByteArray} (hS : Srd (ro h0) 1 strC ta ts) (htl : ts.length ≤ maxLen) :
   Ct Tryz.prog 6 [int many0, .slice ta ts.length tc, int stay0] [ro h0] (fun v hs => v = .bool true ∧ hs = [ro h0]) := by
 have hz := zeroB_2
 have hz' : (layE (zeroB ((2 : Nat) : Int))).length ≤ 46 := zeroB_2
 obtain ⟨b1, b2⟩ := lowZ_in (a := many0) (b := 12) (by first | decide | exact of_decide_eq_true rfl) (by first | decide | exact of_decide_eq_true rfl)
 refine Cti Tryz.func6 (by kernel_rfl) 127 Tryz.ntmps6 rfl rfl fun w0 R => ?_
 refine Gs.slAddr (hS.h (by repeat constructor)) fun tb tq hta => ?_
 refine Gsr (Las rfl rfl (Lnt (Gs.seq (Gsr (Lmv rfl rfl (Lq rfl (pu_len Tryz.underlying22 rfl) (Lq rfl (pu_eq rfl rfl) (LpuB rfl rfl trivial (pu_move rfl) (fun hg3 => ?_) (fun hg3 => ?_)))))))))
 ·
  refine Lof rfl (Lof rfl (Lpk rfl rfl rfl (Lnt (Gs.cond_t rfl (Gsr (La rfl (asC (awake_spec T)) ?_))))))
  rintro _ _ ⟨_, ⟨rfl, rfl⟩, rfl⟩
  refine Las rfl rfl (Lnt (Gs.ret (Gr ?_)))
  exact Gs.fin1 Tryz.results6 rfl _ (⟨rfl, rfl⟩) (by repeat constructor)
 refine Lpu rfl rfl ⟨_, rfl, rfl⟩ (pu_move rfl) (Lac rfl rfl ⟨_, rfl, rfl⟩ (asC (greatTexts_spec hS htl 10 100)) ?_)
 rintro _ _ ⟨_, ⟨⟨g, rfl, hg⟩, rfl⟩, rfl⟩
 refine Lpk rfl rfl rfl (Lnt (Gs.cond rfl (fun hc0 => ?_) (fun hc0 => ?_)))
 ·
  refine Gsr (La rfl (asC (awake_spec T)) ?_)
  rintro _ _ ⟨_, ⟨rfl, rfl⟩, rfl⟩
  refine Las rfl rfl (Lnt (Gs.ret (Gr ?_)))
  exact Gs.fin1 Tryz.results6 rfl _ (⟨rfl, rfl⟩) (by repeat constructor)
 obtain ⟨hl10, -⟩ := hg hc0
 have hne : 0 < ts.length := by have := of_decide_eq_false hg3; omega
 refine Gs.skip (Gn (Gsr (La rfl (asC (nnew_ok T (id := 0) (n := 2) (room := 200000) (by decide) (by decide) (by decide) (by omega) (by decide))) ?_)))
 rintro _ _ ⟨_, ⟨b, rfl, rfl⟩, rfl⟩
 refine Lmv rfl rfl (Lq rfl (pu_extract rfl rfl) (Lq rfl (pu_extract rfl rfl) (Las rfl rfl (Las rfl rfl (Lnt (Gs.seq (Gsr (Lmv rfl rfl (Lq rfl (pu_eqN Tryz.underlying26 rfl rfl) (LpuBf rfl rfl trivial (pu_move rfl) rfl (Lpu rfl rfl ⟨_, rfl, rfl⟩ (pu_move rfl) ?_)))))))))))
 refine Lpu rfl rfl ⟨_, rfl, rfl⟩ (pu_ne rfl rfl) (Lpk rfl rfl rfl (Lnt (Gs.cond_ff rfl rfl (Gs.skip (Gn (Gsr (Las rfl rfl (Lnt (Gs.seq (Gsr (Las rfl rfl ?_)))))))))))
 refine Lnt (Gs.block (Gs.loop1 (fun s : Nat × Int × NdM => s.1 ≤ 12 ∧ NuI s.1 (1 + 2 * s.1) s.2.1 s.2.2) (fun s => [(0, int many0), (1, .slice ta ts.length tc), (2, int stay0), (7, ptr b), (9, int s.2.1), (10, int s.1)]) (fun s => [ndA b s.2.2, ro h0] ++ R) (fun s => 12 - s.1) (0, 0, nu0) (⟨Nat.zero_le _, nu_start⟩) (by repeat constructor) (by repeat constructor) (fun s hs => ?_)))
 obtain ⟨i, told, m⟩ := s
 obtain ⟨hi, hN⟩ := hs
 dsimp only at hi hN ⊢
 refine Gs.seq (Gsr (Lmv rfl rfl (Lmv rfl rfl (La rfl (asC (low_spec many0 12 (by decide) (by decide))) ?_))))
 rintro _ _ ⟨_, ⟨rfl, rfl⟩, rfl⟩
 refine Lq rfl (pu_lt rfl rfl) (Lnt (Gs.cond rfl (fun hc2 => ?_) (fun hc2 => ?_)))
 ·
  have hlt : i < 12 := by have := of_decide_eq_true hc2; omega
  have hji : (i % ts.length : Nat) < ts.length := Nat.mod_lt _ hne
  obtain ⟨x, hx⟩ : ∃ x, ts[i % ts.length]? = some x := ⟨ts[i % ts.length], by simp [hji]⟩
  obtain rfl := hta (by rintro rfl; simp at hne)
  have htm : (i : Int).tmod (ts.length : Int) = ((i % ts.length : Nat) : Int) := by
    rw [Int.tmod_eq_emod_of_nonneg (by omega)]; rfl
  have hok := hN.ok
  have p1 := hN.made
  have p2 := hN.recs
  have p3 := hN.firm
  have hcase := hN.app (by omega) x
  obtain ⟨z, hzz⟩ : ∃ z, z = appM m x := ⟨_, rfl⟩
  rw [← hzz] at hcase
  obtain ⟨v, hv⟩ : ∃ v, v = at0 m.s.v 0 := ⟨_, rfl⟩
  rw [← hv] at hcase p3
  refine Gs.skip (Gn (Gs.seq (Gs.block (Gsr (Lmv rfl rfl (Lmv rfl rfl (Lmv rfl rfl (Lmv rfl rfl (Lq rfl (pu_len Tryz.underlying22 rfl) (Lq rfl (pu_rem rfl rfl (by omega)) ?_))))))))))
  rw [htm]
  refine Lq rfl (pu_ia se_22 rfl rfl (by omega) (by omega)) (Lr rfl (rd_ld na_9 rfl (Rdc.el0 (hS.h (by repeat constructor)) hx rfl rfl)) ?_)
  refine La rfl (asC (nappend_spec T b m hok x (by omega) (by omega))) ?_
  rintro _ _ ⟨_, ⟨rfl, rfl⟩, rfl⟩
  rw [← hzz]
  refine Lmv rfl rfl (Lq rfl (pu_extract rfl rfl) (Lq rfl (pu_extract rfl rfl) (La rfl (ac_alloc zv_35 rfl) ?_)))
  rintro _ _ ⟨kb, rfl, rfl⟩
  refine Lac0 rfl trivial (ac_st sz_35 rfl rfl (by repeat constructor) rfl rfl rfl rfl) ?_
  rintro _ _ rfl
  refine Las rfl rfl (Lnt (Gs.seq (Gsr (Lmv rfl rfl (Lq rfl (pu_eq rfl rfl) (Lnt (Gs.cond rfl (fun hc3 => ?_) (fun hc3 => ?_))))))))
  ·
   have h3 := of_decide_eq_true hc3
   have hz2 : z.2 = m := by
     rcases hcase with ⟨-, h⟩ | ⟨h, -⟩
     · exact h
     · rw [h] at h3; cases h3
   rw [hz2]
   have hN1 : NuI (i + 1) (1 + 2 * (i + 1)) told m := ⟨hN.ok, hN.id, hN.n, hN.wall, hN.room, ⟨hN.clk.1, by have := hN.clk.2; omega⟩, fun e he hk => by have := hN.ents e he hk; exact ⟨this.1, by omega⟩, by omega, by have := hN.used; omega, hN.told0, hN.told, fun o ho => by have := hN.v o ho; omega⟩
   refine Gs.exit (Gx (Gs.blk_hit (Gn (Gs.reg (Lmv rfl rfl (Lq rfl (by first | exact pu_addI rfl rfl rfl (by omega) (by omega) | exact pu_add rfl rfl) ?_))))))
   refine Las rfl rfl (Lnt ?_)
   first | exact Ag (i + 1, told', openM 0 2 0 200000 made ys) ⟨hlt, n1⟩ (by show 12 - (i + 1) < 12 - i; omega) | exact Ag (i + 1, told, m) ⟨hlt, hN1⟩ (by show 12 - (i + 1) < 12 - i; omega)
  have h3 := of_decide_eq_false hc3
  obtain ⟨hz1, hN1, hv1⟩ : z.1 = (⟨0, v + 1⟩, 0) ∧ NuI (i + 1) (1 + 2 * i + 1) told z.2 ∧ at0 z.2.s.v 0 = v + 1 := by
    rcases hcase with ⟨h, -⟩ | h
    · exact (h3 h).elim
    · exact h
  rw [hz1]
  have hok1 := hN1.ok
  have q1 := hN1.made
  have hvl : z.2.s.v.length = 2 := by rw [StOk.v hok1.log.ok, hN1.n]
  have gV := at0_get (v := z.2.s.v) (i := 0) (by omega)
  rw [hv1] at gV
  refine Gs.skip (Gn (Gs.seq (Gsr (Lmv rfl rfl (Lq rfl (pu_ne rfl rfl) (LpuBf rfl rfl trivial (pu_move rfl) rfl (Lpu rfl rfl ⟨_, rfl, rfl⟩ (pu_fa fa_35_0 rfl) (Lrd rfl rfl ⟨_, rfl, rfl⟩ (rd_ld na_3 rfl (Rdc.cl1 (by repeat constructor) rfl)) ?_))))))))
  refine Lpu rfl rfl ⟨_, rfl, rfl⟩ (pu_ne rfl rfl) (Lpk rfl rfl rfl (LpuBf rfl rfl trivial (pu_move rfl) rfl (Lpu rfl rfl ⟨_, rfl, rfl⟩ (pu_fa fa_35_1 rfl) (Lrd rfl rfl ⟨_, rfl, rfl⟩ (rd_ld na_3 rfl (Rdc.cl1 (by repeat constructor) rfl)) ?_))))
  refine Lpu rfl rfl ⟨_, rfl, rfl⟩ (pu_move rfl) (Lpu rfl rfl ⟨_, rfl, rfl⟩ (pu_le rfl rfl) (Lpk rfl rfl rfl (Lnt (Gs.cond_ff rfl (decide_eq_false (by show ¬ v + 1 ≤ told; omega)) ?_))))
  refine Gs.skip (Gn (Gs.seq (Gsr (Lmv rfl rfl (Lq rfl (pu_rem rfl rfl (by omega)) (Lq rfl (pu_eq rfl rfl) (Lnt (Gs.cutS (σ := {p : Int × NdM // NuI (i + 1) (1 + 2 * i + 1) p.1 p.2 ∧ at0 p.2.s.v 0 = v + 1}) (fun s : {p : Int × NdM // NuI (i + 1) (1 + 2 * i + 1) p.1 p.2 ∧ at0 p.2.s.v 0 = v + 1} => [(0, int many0), (1, .slice (some ⟨tb, tq, none⟩) ts.length tc), (2, int stay0), (7, ptr b), (9, int s.1.1), (10, int i), (11, ptr kb)]) (fun s : {p : Int × NdM // NuI (i + 1) (1 + 2 * i + 1) p.1 p.2 ∧ at0 p.2.s.v 0 = v + 1} => [ndA b s.1.2, cl kb 35 (keyC ⟨0, v + 1⟩), ro h0] ++ R) ?_ ?_))))))))
  ·
   refine Gs.cond rfl (fun hc5 => ?_) (fun hc5 => ?_)
   ·
    have hsy : NuI (i + 1) (1 + 2 * i + 1) (v + 1) (syncM z.2) := by have := hN1.synced (by omega); rw [hv1] at this; exact this
    refine Gsr (Lmv rfl rfl (La rfl (asC (hello_spec b z.2 hok1 (by omega) 1 (by decide) (by rw [hN1.n]; decide) (by rw [hN1.id]; decide))) ?_))
    rintro _ _ ⟨_, ⟨va, vc, wa, wc, rfl, rfl⟩, rfl⟩
    refine Lmv rfl rfl (Lq rfl (pu_extract rfl rfl) (Lq rfl (pu_extract rfl rfl) (La rfl (ac_alloc zv_61 rfl) ?_)))
    rintro _ _ ⟨mb, rfl, rfl⟩
    refine Lac0 rfl trivial (ac_st sz_61 rfl rfl (by repeat constructor) rfl rfl rfl rfl) ?_
    rintro _ _ rfl
    refine Las rfl rfl (Lnil (Gs.slAddr (xs := z.2.s.v) (SlH.own (E := 3) (enc := intC) (a := va) (c := vc) (by repeat constructor)) fun vb vo hva => ?_))
    obtain rfl := hva (by intro e; rw [e] at hvl; cases hvl)
    refine Gn (Gs.seq (Gs.seq (Gs.regD mixed (by kernel_rfl) (Rmv 0 rfl (by kernel_rfl) rfl (Rq 1 rfl (by kernel_rfl) (pu_ne rfl rfl) (Rg.puBf 2 rfl rfl (by kernel_rfl) trivial (pu_move rfl) rfl (Rg.pu 3 rfl rfl (by kernel_rfl) ⟨_, rfl, rfl⟩ (pu_fa fa_61_3 rfl) (Rg.rd 4 rfl rfl (by kernel_rfl) ⟨_, rfl, rfl⟩ (rd_ld na_30 rfl (Rdc.cl1 (by repeat constructor) rfl)) ?_))))))))
    refine Rg.pu 5 rfl rfl (by kernel_rfl) ⟨_, rfl, rfl⟩ (pu_len Tryz.underlying30 rfl) (Rg.pu 6 rfl rfl (by kernel_rfl) ⟨_, rfl, rfl⟩ (pu_ne rfl rfl) (Rpk 7 rfl (by kernel_rfl) rfl rfl (Rg.puBf 8 rfl rfl (by kernel_rfl) trivial (pu_move rfl) (decide_eq_false (by omega)) (Rg.pu 9 rfl rfl (by kernel_rfl) ⟨_, rfl, rfl⟩ (pu_fa fa_61_3 rfl) (Rg.rd 10 rfl rfl (by kernel_rfl) ⟨_, rfl, rfl⟩ (rd_ld na_30 rfl (Rdc.cl1 (by repeat constructor) rfl)) ?_)))))
    refine Rg.pu 11 rfl rfl (by kernel_rfl) ⟨_, rfl, rfl⟩ (pu_ia se_30 rfl rfl (by omega) (by omega)) (Rg.rd 12 rfl rfl (by kernel_rfl) ⟨_, rfl, rfl⟩ (rd_ld na_3 rfl (Rdc.el0 (SlH.own (xs := z.2.s.v) (E := 3) (enc := intC) (by repeat constructor)) gV rfl rfl)) ?_)
    refine Rg.pu 13 rfl rfl (by kernel_rfl) ⟨_, rfl, rfl⟩ (pu_fa fa_35_1 rfl) (Rg.rd 14 rfl rfl (by kernel_rfl) ⟨_, rfl, rfl⟩ (rd_ld na_3 rfl (Rdc.cl1 (by repeat constructor) rfl)) ?_)
    refine Rg.pu 15 rfl rfl (by kernel_rfl) ⟨_, rfl, rfl⟩ (pu_ne rfl rfl) (Rpk 16 rfl (by kernel_rfl) rfl rfl (Rg.end (by kernel_rfl) (Gn (Gs.cond_ff rfl (decide_eq_false (by simp)) ?_))))
    refine Gs.skip (Gn (Gs.reg (Lq rfl (pu_fa fa_35_1 rfl) (Lr rfl (rd_ld na_3 rfl (Rdc.cl1 (by repeat constructor) rfl)) ?_))))
    refine Las rfl rfl (Lnt (Gs.cutEndS (E := fun s : {p : Int × NdM // NuI (i + 1) (1 + 2 * i + 1) p.1 p.2 ∧ at0 p.2.s.v 0 = v + 1} => [(0, int many0), (1, .slice (some ⟨tb, tq, none⟩) ts.length tc), (2, int stay0), (7, ptr b), (9, int s.1.1), (10, int i), (11, ptr kb)]) (I := fun s : {p : Int × NdM // NuI (i + 1) (1 + 2 * i + 1) p.1 p.2 ∧ at0 p.2.s.v 0 = v + 1} => [ndA b s.1.2, cl kb 35 (keyC ⟨0, v + 1⟩), ro h0] ++ R) (by first | exact ⟨(v + 1, syncM z.2), hsy, hv1⟩ | exact ⟨(told, z.2), hN1, hv1⟩) ?_ ?_))
    · repeat constructor
    · repeat constructor
   refine Gs.skip (Gn (Gs.cutEndS (E := fun s : {p : Int × NdM // NuI (i + 1) (1 + 2 * i + 1) p.1 p.2 ∧ at0 p.2.s.v 0 = v + 1} => [(0, int many0), (1, .slice (some ⟨tb, tq, none⟩) ts.length tc), (2, int stay0), (7, ptr b), (9, int s.1.1), (10, int i), (11, ptr kb)]) (I := fun s : {p : Int × NdM // NuI (i + 1) (1 + 2 * i + 1) p.1 p.2 ∧ at0 p.2.s.v 0 = v + 1} => [ndA b s.1.2, cl kb 35 (keyC ⟨0, v + 1⟩), ro h0] ++ R) (by first | exact ⟨(v + 1, syncM z.2), hsy, hv1⟩ | exact ⟨(told, z.2), hN1, hv1⟩) ?_ ?_))
   · repeat constructor
   · repeat constructor
  rintro ⟨⟨told', m'⟩, hN', hv'⟩
  dsimp only at hN' hv' ⊢
  have r1 := hN'.made
  have r2 := hN'.ok.log.len
  have r3 := hN'.id
  have r4 := hN'.n
  have r5 := hN'.wall
  have r6 := hN'.room
  obtain ⟨d1, d2⟩ := lowZ_in (a := IntKind.i64.wrap (stay0 + (i : Int))) (b := 60) (by first | decide | exact of_decide_eq_true rfl) (by first | decide | exact of_decide_eq_true rfl)
  obtain ⟨st, hst⟩ : ∃ st, st = lowZ (IntKind.i64.wrap (stay0 + (i : Int))) 60 := ⟨_, rfl⟩
  rw [← hst] at d1 d2
  obtain ⟨cs, e1, e2, e3, e4, e5, e6⟩ := hN'.crash (by omega) (by omega) st
  refine Gs.seq (Gsr (Lmv rfl rfl (Lmv rfl rfl (Lmv rfl rfl (Lq rfl (pu_add rfl rfl) (La rfl (asC (low_spec (IntKind.i64.wrap (stay0 + (i : Int))) 60 (by decide) (by decide))) ?_))))))
  rintro _ _ ⟨_, ⟨rfl, rfl⟩, rfl⟩
  rw [← hst]
  refine La rfl (asC (ncrash_spec b m' st (by omega) d1 (by omega))) ?_
  rintro _ _ ⟨_, ⟨rfl, rfl⟩, rfl⟩
  rw [e1, r3, r4, r5, r6]
  refine Lq rfl (pu_ne rfl rfl) (LpuBf rfl rfl trivial (pu_move rfl) rfl (Lpu rfl rfl ⟨_, rfl, rfl⟩ (pu_move rfl) (Lac rfl rfl ⟨_, rfl, rfl⟩ (asC (nrestart_spec T b 0 2 0 200000 (by decide) (by decide) e2 e4 e3 (fun _ => by omega) e5)) ?_)))
  rintro _ _ ⟨_, ⟨made, ys, rfl, hop, rfl⟩, rfl⟩
  obtain ⟨n1, n2, n3⟩ := e6 made ys hop
  rw [hv'] at n3
  have hwl : (openM 0 2 0 200000 made ys).s.v.length = 2 := StOk.v n1.ok.log.ok
  have gW := at0_get (v := (openM 0 2 0 200000 made ys).s.v) (i := 0) (by omega)
  refine Lpu rfl rfl ⟨_, rfl, rfl⟩ (pu_ne rfl rfl) (Lpk rfl rfl rfl (Lnt (Gs.cond_ff rfl rfl (Gs.skip (Gn (Gsr (Lmv rfl rfl (La rfl (asC (gV_spec n1.ok)) ?_))))))))
  rintro _ _ ⟨_, ⟨xa, xc, rfl, rfl⟩, rfl⟩
  refine Las rfl rfl (Lnil (Gs.slAddr (xs := (openM 0 2 0 200000 made ys).s.v) (SlH.own (E := 3) (enc := intC) (a := xa) (c := xc) (by repeat constructor)) fun xb xo hxa => ?_))
  obtain rfl := hxa (by intro e; rw [e] at hwl; cases hwl)
  refine Gn (Gs.seq (Gs.regD mixed (by kernel_rfl) (Rmv 0 rfl (by kernel_rfl) rfl (Rq 1 rfl (by kernel_rfl) (pu_len Tryz.underlying30 rfl) (Rq 2 rfl (by kernel_rfl) (pu_ne rfl rfl) (Rg.puBf 3 rfl rfl (by kernel_rfl) trivial (pu_move rfl) (decide_eq_false (by omega)) (Rg.pu 4 rfl rfl (by kernel_rfl) ⟨_, rfl, rfl⟩ (pu_move rfl) (Rg.pu 5 rfl rfl (by kernel_rfl) ⟨_, rfl, rfl⟩ (pu_ia se_30 rfl rfl (by omega) (by omega)) (Rg.rd 6 rfl rfl (by kernel_rfl) ⟨_, rfl, rfl⟩ (rd_ld na_3 rfl (Rdc.el0 (SlH.own (xs := (openM 0 2 0 200000 made ys).s.v) (E := 3) (enc := intC) (by repeat constructor)) gW rfl rfl)) ?_)))))))))
  refine Rg.pu 7 rfl rfl (by kernel_rfl) ⟨_, rfl, rfl⟩ (pu_move rfl) (Rg.pu 8 rfl rfl (by kernel_rfl) ⟨_, rfl, rfl⟩ (pu_lt rfl rfl) (Rpk 9 rfl (by kernel_rfl) rfl rfl (Rg.puBf 10 rfl rfl (by kernel_rfl) trivial (pu_move rfl) (decide_eq_false (by omega)) (Rg.pu 11 rfl rfl (by kernel_rfl) ⟨_, rfl, rfl⟩ (pu_move rfl) (Rg.pu 12 rfl rfl (by kernel_rfl) ⟨_, rfl, rfl⟩ (pu_ia se_30 rfl rfl (by omega) (by omega)) (Rg.rd 13 rfl rfl (by kernel_rfl) ⟨_, rfl, rfl⟩ (rd_ld na_3 rfl (Rdc.el0 (SlH.own (xs := (openM 0 2 0 200000 made ys).s.v) (E := 3) (enc := intC) (by repeat constructor)) gW rfl rfl)) ?_))))))
  refine Rg.pu 14 rfl rfl (by kernel_rfl) ⟨_, rfl, rfl⟩ (pu_fa fa_35_1 rfl) (Rg.rd 15 rfl rfl (by kernel_rfl) ⟨_, rfl, rfl⟩ (rd_ld na_3 rfl (Rdc.cl1 (by repeat constructor) rfl)) ?_)
  refine Rg.pu 16 rfl rfl (by kernel_rfl) ⟨_, rfl, rfl⟩ (pu_gt rfl rfl) (Rpk 17 rfl (by kernel_rfl) rfl rfl (Rg.end (by kernel_rfl) (Gn (Gs.cond_ff rfl (decide_eq_false (by show ¬ (at0 (openM 0 2 0 200000 made ys).s.v 0 > v + 1); omega)) ?_))))
  refine Gs.skip (Gs.blk_n (Gn (Gs.reg (Lmv rfl rfl (Lq rfl (by first | exact pu_addI rfl rfl rfl (by omega) (by omega) | exact pu_add rfl rfl) ?_)))))
  refine Las rfl rfl (Lnt ?_)
  first | exact Ag (i + 1, told', openM 0 2 0 200000 made ys) ⟨hlt, n1⟩ (by show 12 - (i + 1) < 12 - i; omega) | exact Ag (i + 1, told, m) ⟨hlt, hN1⟩ (by show 12 - (i + 1) < 12 - i; omega)
 refine Gs.exit (Gx (Gx (Gs.blk_hit (Gn (Gsr (La rfl (asC (awake_spec T)) ?_))))))
 rintro _ _ ⟨_, ⟨rfl, rfl⟩, rfl⟩
 refine Las rfl rfl (Lnt (Gs.ret ?_))
 exact Gs.fin1 Tryz.results6 rfl _ (⟨rfl, rfl⟩) (by repeat constructor)
end Go.Proofs.YtflfhpokmidnmaaGreatDoor
