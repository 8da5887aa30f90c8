/- Walks: index.Put. -/
import Derived.Test.YtmbikfojljnnkaaGreatDoorIxS
import Derived.Test.YtmbikfojljnnkaaGreatDoorIxT
namespace Go.Ix
open Go Go.Sl Go.Gv Go.Kv Go.Po Go.Bst
def posStep (m : List (ByteArray × List Int)) (p : WordP) : List (ByteArray × List Int) := mput m p.1 ((mget m p.1).getD [] ++ [p.2])
def posL (T : List WordP) : List (ByteArray × List Int) := T.foldl posStep []
def putW (k : Key) (m : PL) (e : ByteArray × List Int) : PL := mput m e.1 (putP ((mget m e.1).getD []) (k, e.2))
theorem filter_two {α : Type} {f g : α → Bool} (h : ∀ x, f x = true → g x = true → False) : ∀ L : List α, (L.filter f).length + (L.filter g).length ≤ L.length
  | [] => Nat.le_refl _
  | x :: L => by
    have ih := filter_two h L
    have := h x
    rw [List.filter_cons, List.filter_cons]
    cases hf : f x <;> cases hg : g x <;> simp_all <;> omega
theorem putP_le (L : List PostP) (x : PostP) : (putP L x).length ≤ L.length + 1 := by
  unfold putP
  split
  · split
    · have := filter_two (f := fun y : PostP => before y.1 x.1) (g := fun y : PostP => before x.1 y.1) (fun y h1 h2 => by have := before_asymm h1; simp_all) L
      simp only [List.length_append, List.length_cons, List.length_nil]; omega
    · omega
  · exact Nat.zero_le _
theorem putP_sub {L : List PostP} {x p : PostP} (h : p ∈ putP L x) : p = x ∨ p ∈ L := by
  unfold putP at h
  split at h
  · split at h
    · simp only [List.mem_append, List.mem_filter, List.mem_cons, List.not_mem_nil, or_false] at h
      rcases h with (h | h) | h
      · exact .inr h.1
      · exact .inl h
      · exact .inr h.1
    · exact .inr h
  · cases h
section
variable {α : Type}
theorem del_none {κ : Type} [DecidableEq κ] : ∀ {m : List (κ × α)} {k : κ}, mget m k = none → mdel m k = m
  | [], _, _ => rfl
  | (j, u) :: m, k, h => by
    unfold mget at h
    split at h
    · cases h
    · rename_i e; unfold mdel; rw [if_neg e, del_none h]
theorem take_del {κ : Type} [DecidableEq κ] {f : κ × α → HProp} : ∀ {m : List (κ × α)} {k : κ} {v : α}, mget m k = some v → Take (f (k, v)) (m.map f) ((mdel m k).map f)
  | [], _, _, h => by cases h
  | (j, u) :: m, k, v, h => by
    unfold mget at h; unfold mdel
    split at h
    · rename_i e; cases h; subst e; rw [if_pos rfl]; exact .hd
    · rename_i e; rw [if_neg e]; exact .tl (take_del h)
theorem take_put {κ : Type} [DecidableEq κ] {f : κ × α → HProp} : ∀ {m : List (κ × α)} {k : κ} {v : α}, Take (f (k, v)) ((mput m k v).map f) ((mdel m k).map f)
  | [], _, _ => .hd
  | (j, u) :: m, k, v => by
    unfold mput mdel
    split
    · rename_i e; subst e; exact .hd
    · exact .tl take_put
theorem mput_len {κ : Type} [DecidableEq κ] (m : List (κ × α)) (k : κ) (v : α) : (mput m k v).length ≤ m.length + 1 := by
  induction m with
  | nil => exact Nat.le_refl _
  | cons p m ih =>
    obtain ⟨j, u⟩ := p
    unfold mput
    split
    · simp
    · simp only [List.length_cons]; omega
end
end Go.Ix
namespace Go.Proofs.YtmbikfojljnnkaaGreatDoor
open Go Go.Sl Go.Gv Go.Kv Go.Po Go.Ix Go.Bst
set_option maxRecDepth 100000
/-- The answer of a put; what it makes. -/
def putN (W : PW) (r : Rec) : Int := if recB r then (if (mget W r.key).isSome then 6 else 0) else 2
def PutI (r : Rec) (T : List WordP) (s s' : PL × PW) : Prop :=
  if putN s.2 r = 0 then ∃ es, List.Perm es (posL T) ∧ s' = (es.foldl (putW r.key) s.1, mput s.2 r.key (sortB (mkeys (posL T)))) else s' = s
/-- The places of a word that is being counted, in memory. -/
abbrev atM (p : ByteArray × SlV Int) : HProp := sl 3 1 intC p.2.a p.2.c p.2.xs
theorem Gs.atTake {w0 : World} {n : Nat} {env : Env} {H : List HProp} {X : Act → World → Prop} {M : List (ByteArray × SlV Int)} (w : ByteArray) (g : Gs w0 n env (atM (w, (mget M w).getD slZ) :: big ((mdel M w).map atM) :: H) X) : Gs w0 n env (big (M.map atM) :: H) X := by
  cases h : mget M w with
  | some s => rw [h] at g; exact Gs.bigTake (take_del h) g
  | none =>
    rw [h, del_none h] at g
    exact Gs.slNil 3 1 intC g
theorem RdW.put {S : HProp} {W : List (Key × SlV ByteArray)} (h : RdW S W) {k : Key} {a : Option Addr} {c : Nat} {ws : List ByteArray} (hl : ws.length ≤ 1000) : RdW (two S (sl 9 1 strC a c ws)) (mput W k ⟨a, ws, c⟩) := fun p hp => by
  rcases mem_put hp with rfl | hp
  · exact ⟨Srd.two2 Srd.own, hl⟩
  · exact ⟨Srd.two1 (h p hp).1, (h p hp).2⟩
theorem put_spec {h0 : Hp} (T : TabX h0) (x : Nat) (L : List (ByteArray × SlV PostV)) (W : List (Key × SlV ByteArray)) (r : Rec) (hlen : ∀ p ∈ L, p.2.xs.length ≤ 800) :
    Ct Tryz.prog 14 [ptr x, recV r] [ixA x L W, ro h0] (fun v hs => ∃ L' W', v = int (putN (plW W) r) ∧ PutI r (toksV r.t) (plL L, plW W) (plL L', plW W') ∧ hs = [ixA x L' W', ro h0]) := by
  refine Ct.intro Tryz.func14 rfl (by kernel_rfl) 81 Tryz.ntmps14 (Nat.le_of_ble_eq_true rfl) fun w0 R => ?_
  refine Gs.seq ?_
  refine Gs.reg ?_
  refine Go.Sl.L.ac rfl rfl trivial (ac_box rfl rfl) ?_
  rintro _ _ ⟨rb, rfl, rfl⟩
  refine Go.Sl.L.pu rfl rfl trivial (pu_assign rfl) ?_
  refine Go.Sl.L.nil ?_
  refine Gs.then_n ?_
  refine Gs.seq ?_
  refine Gs.seq ?_
  refine Gs.reg ?_
  refine Go.Sl.L.pu rfl rfl trivial (pu_move rfl) ?_
  refine Go.Sl.L.pu rfl rfl trivial (pu_eqN Tryz.underlying25 rfl rfl) ?_
  refine Go.Sl.L.nil ?_
  refine Gs.then_n ?_
  refine Gs.cond_ff rfl rfl ?_
  refine Gs.skip ?_
  refine Gs.then_n ?_
  refine Gs.seq ?_
  refine Gs.seq ?_
  refine Gs.reg ?_
  refine Go.Sl.L.rd rfl rfl trivial (rd_lda ag_35 rfl (Rdc.cl 5 (by repeat constructor) rfl) rfl) ?_
  refine Go.Sl.L.ac rfl rfl trivial (as_call (recMay_spec T.1 r) (by repeat constructor) (by repeat constructor)) ?_
  rintro _ _ ⟨_, ⟨rfl, rfl⟩, rfl⟩
  refine Go.Sl.L.pu rfl rfl trivial (pu_not rfl) ?_
  refine Go.Sl.L.nil ?_
  refine Gs.then_n ?_
  refine Gs.cond rfl (fun hc1 => ?_) (fun hc1 => ?_)
  · skip
    have hno : putN (plW W) r = 2 := by unfold putN; rw [not_t hc1]; rfl
    refine Gs.seq ?_
    refine Gs.reg ?_
    refine Go.Sl.L.pu rfl rfl trivial (pu_assign rfl) ?_
    refine Go.Sl.L.nil ?_
    refine Gs.then_n ?_
    refine Gs.ret ?_
    refine Gs.then_r ?_
    exact Gs.fin1 Tryz.results14 rfl _ (⟨L, W, by rw [hno], by unfold PutI; rw [if_neg (by rw [hno]; decide)], rfl⟩) (by repeat constructor)
  · skip
    have hmay := not_f hc1
    refine Gs.takes (As := [ixA x L W]) (by repeat constructor) (Gs.ix fun ml mw S hL hW => ?_)
    refine Gs.skip ?_
    refine Gs.then_n ?_
    refine Gs.seq ?_
    refine Gs.seq ?_
    refine Gs.regD mixed (by kernel_rfl) ?_
    refine Rg.pu 0 rfl rfl (by kernel_rfl) trivial (pu_move rfl) ?_
    refine Rg.pu 1 rfl rfl (by kernel_rfl) trivial (by first | exact pu_nil rfl | exact pu_nilF rfl) ?_
    refine Rg.pu 2 rfl rfl (by kernel_rfl) trivial (pu_fa fa_72_1 rfl) ?_
    refine Rg.rd 3 rfl rfl (by kernel_rfl) trivial (rd_ld na_70 rfl (Rdc.cl1 (by repeat constructor) rfl)) ?_
    refine Rg.pu 4 rfl rfl (by kernel_rfl) trivial (pu_fa fa_35_0 rfl) ?_
    refine Rg.rd 5 rfl rfl (by kernel_rfl) trivial (rd_lda ag_31 rfl (Rdc.cl 2 (by repeat constructor) rfl) rfl) ?_
    refine Rg.rd 6 rfl rfl (by kernel_rfl) trivial (rd_look2 (k := r.key) Tryz.underlying70 kt_31 zvk_58 rfl rfl (by repeat constructor)) ?_
    refine Rg.pu 7 rfl rfl (by kernel_rfl) trivial (pu_move rfl) ?_
    refine Rg.pu 8 rfl rfl (by kernel_rfl) trivial (pu_extract rfl rfl) ?_
    refine Rg.pu 9 rfl rfl (by kernel_rfl) trivial (pu_extract rfl rfl) ?_
    refine Rg.pu 10 rfl rfl (by kernel_rfl) trivial (pu_assign rfl) ?_
    refine Rg.pu 11 rfl rfl (by kernel_rfl) trivial (pu_assign rfl) ?_
    refine Rg.end (by kernel_rfl) ?_
    refine Gs.then_n ?_
    refine Gs.seq ?_
    refine Gs.reg ?_
    refine Go.Sl.L.pu rfl rfl trivial (pu_move rfl) ?_
    refine Go.Sl.L.nil ?_
    refine Gs.then_n ?_
    refine Gs.cond rfl (fun hc2 => ?_) (fun hc2 => ?_)
    · skip
      have hno : putN (plW W) r = 6 := by
        unfold putN; rw [if_pos hmay, plW, mm_get]
        cases h : mget W r.key with
        | none => rw [h] at hc2; cases hc2
        | some s => rfl
      refine Gs.seq ?_
      refine Gs.reg ?_
      refine Go.Sl.L.pu rfl rfl trivial (pu_assign rfl) ?_
      refine Go.Sl.L.nil ?_
      refine Gs.then_n ?_
      refine Gs.ret ?_
      refine Gs.then_r ?_
      refine Gs.takes (As := [cl x 72 [.map (some ml), .map (some mw)], mp strV slV ml L, mp keyV slV mw W, S]) (by repeat constructor) (Gs.ixc hL hW ?_)
      exact Gs.fin1 Tryz.results14 rfl _ (⟨L, W, by rw [hno], by unfold PutI; rw [if_neg (by rw [hno]; decide)], rfl⟩) (by repeat constructor)
    · skip
      have hyes : putN (plW W) r = 0 := by
        unfold putN; rw [if_pos hmay, plW, mm_get]
        cases h : mget W r.key with
        | none => rfl
        | some s => rw [h] at hc2; cases hc2
      refine Gs.skip ?_
      refine Gs.then_n ?_
      refine Gs.seq ?_
      refine Gs.reg ?_
      refine Go.Sl.L.ac rfl rfl trivial (ac_mkmap enck_9 encv_64) ?_
      rintro _ _ ⟨m, rfl, rfl⟩
      refine Go.Sl.L.pu rfl rfl trivial (pu_assign rfl) ?_
      refine Go.Sl.L.nil ?_
      refine Gs.then_n ?_
      refine Gs.seq ?_
      refine Gs.seq ?_
      refine Gs.reg ?_
      refine Go.Sl.L.pu rfl rfl trivial (pu_fa fa_35_2 rfl) ?_
      refine Go.Sl.L.rd rfl rfl trivial (rd_ld na_9 rfl (Rdc.cl1 (by repeat constructor) rfl)) ?_
      refine Go.Sl.L.ac rfl rfl trivial (as_call (of_spec T r.t) (by repeat constructor) (by repeat constructor)) ?_
      rintro _ _ ⟨_, ⟨ta, tc, rfl, rfl⟩, rfl⟩
      refine Go.Sl.L.pu rfl rfl trivial (pu_len Tryz.underlying49 rfl) ?_
      refine Go.Sl.L.pu rfl rfl trivial (pu_move rfl) ?_
      refine Go.Sl.L.nil ?_
      have htl : (toksV r.t).length ≤ 121 := by rw [toksV, toks_length]; exact words_len _
      refine Gs.slAddr (xs := toksV r.t) (SlH.own (E := 52) (enc := wordC) (a := ta) (c := tc) (by repeat constructor)) fun tb tof hta => ?_
      refine Gs.bigNil ?_
      refine Gs.then_n ?_
      refine Gs.block ?_
      refine Gs.loop1 (fun s : Nat × List (ByteArray × SlV Int) => s.1 ≤ (toksV r.t).length ∧ mm (fun s => s.xs) s.2 = posL ((toksV r.t).take s.1) ∧ s.2.length ≤ s.1 ∧ ∀ p ∈ s.2, p.2.xs.length ≤ s.1) (fun s => [(0, ptr x), (3, ptr rb), (7, .map (some m)), (31, .slice ta (toksV r.t).length tc), (32, int (toksV r.t).length), (33, int s.1)]) (fun s => [cl rb 35 (recC r), cl x 72 [.map (some ml), .map (some mw)], mp strV slV ml L, mp keyV slV mw W, S, ro h0, sl 52 2 wordC ta tc (toksV r.t), mp strV slV m s.2, big (s.2.map atM)] ++ R) (fun s => (toksV r.t).length - s.1) (0, []) (⟨Nat.zero_le _, rfl, Nat.zero_le _, fun _ h => by cases h⟩) (by repeat constructor) (by repeat constructor) (fun s hs => ?_)
      obtain ⟨i, M⟩ := s
      obtain ⟨hi, hM, hMl, hMb⟩ := hs
      dsimp only at hi hM hMl hMb ⊢
      refine Gs.seq ?_
      refine Gs.reg ?_
      refine Go.Sl.L.pu rfl rfl trivial (pu_lt rfl rfl) ?_
      refine Go.Sl.L.nil ?_
      refine Gs.then_n ?_
      refine Gs.seq ?_
      refine Gs.cond rfl (fun hc3 => ?_) (fun hc3 => ?_)
      · skip
        have hlt : i < (toksV r.t).length := by have := of_decide_eq_true hc3; omega
        obtain ⟨p, hp⟩ : ∃ z, (toksV r.t)[i]? = some z := ⟨(toksV r.t)[i], by simp [hlt]⟩
        obtain rfl := hta (by rintro h; rw [h] at hlt; simp at hlt)
        have hnx := fold_take posStep [] hp
        rw [show ((toksV r.t).take i).foldl posStep [] = mm (fun s => s.xs) M from hM.symm] at hnx
        have hgl : ((mget M p.1).getD (slZ : SlV Int)).xs.length ≤ i := by
          cases h : mget M p.1 with
          | none => exact Nat.zero_le _
          | some s => exact hMb (p.1, s) (mget_mem h)
        refine Gs.skip ?_
        refine Gs.then_n ?_
        refine Gs.seq ?_
        refine Gs.block ?_
        refine Gs.seq ?_
        refine Gs.reg ?_
        refine Go.Sl.L.pu rfl rfl trivial (pu_ia se_49 rfl rfl (by omega) (by omega)) ?_
        refine Go.Sl.L.rd rfl rfl trivial (rd_lda ag_52 rfl (Rdc.el0 (SlH.own (xs := toksV r.t) (E := 52) (enc := wordC) (sz := 2) (by repeat constructor)) hp rfl rfl) rfl) ?_
        refine Go.Sl.L.ac rfl rfl trivial (ac_alloc zv_52 rfl) ?_
        rintro _ _ ⟨wb, rfl, rfl⟩
        refine Go.Sl.L.ac0 rfl trivial (ac_st sz_52 rfl rfl (by repeat constructor) rfl rfl rfl rfl) ?_
        rintro _ _ rfl
        refine Go.Sl.L.nil ?_
        refine Gs.then_n ?_
        refine Gs.takes (As := [big (M.map atM)]) (by repeat constructor) (Gs.atTake p.1 ?_)
        refine Gs.regD mixed (by kernel_rfl) ?_
        refine Rg.pu 0 rfl rfl (by kernel_rfl) trivial (pu_move rfl) ?_
        refine Rg.pu 1 rfl rfl (by kernel_rfl) trivial (pu_fa fa_52_0 rfl) ?_
        refine Rg.rd 2 rfl rfl (by kernel_rfl) trivial (rd_ld na_9 rfl (Rdc.cl1 (by repeat constructor) rfl)) ?_
        refine Rg.pu 3 rfl rfl (by kernel_rfl) trivial (pu_move rfl) ?_
        refine Rg.pu 4 rfl rfl (by kernel_rfl) trivial (pu_fa fa_52_0 rfl) ?_
        refine Rg.rd 5 rfl rfl (by kernel_rfl) trivial (rd_ld na_9 rfl (Rdc.cl1 (by repeat constructor) rfl)) ?_
        refine Rg.rd 6 rfl rfl (by kernel_rfl) trivial (rd_look1 Tryz.underlying76 kt_9 zvk_64 rfl rfl (by repeat constructor)) ?_
        refine Rg.pu 7 rfl rfl (by kernel_rfl) trivial (pu_fa fa_52_1 rfl) ?_
        refine Rg.rd 8 rfl rfl (by kernel_rfl) trivial (rd_ld na_3 rfl (Rdc.cl1 (by repeat constructor) rfl)) ?_
        refine Rg.one (by kernel_rfl) (Stp.acK 9 rfl rfl (by kernel_rfl) trivial (ac_lit encC_3 ([p.2]) et_64 ek_3 rfl (by repeat constructor) rfl rfl (by decide)) (by rintro _ _ ⟨a46, rfl, rfl⟩ w s; first | exact s.drop | exact s | exact Ent.sat (by repeat constructor) s) ?_)
        rintro _ _ ⟨a46, rfl, rfl⟩
        refine Rg.one (by kernel_rfl) (Stp.acR 10 [2] rfl rfl (by kernel_rfl) trivial (ac_append (xs := ((mget M p.1).getD (slZ : SlV Int)).xs) (ys := [p.2]) et_64 ek_3 rfl rfl (by repeat constructor) (SrcH.sl Tryz.underlying64 ek_3 (SlH.own (by repeat constructor))) (by first | omega | (simp; omega)) (by first | omega | (simp; omega))) (by rintro _ _ ⟨a47, c47, rfl, rfl⟩; exact (Reads.cons rfl rfl rfl trivial rfl (rd_ld na_9 rfl (Rdc.cl1 (by repeat constructor) rfl)) Reads.nil)) ?_)
        rintro _ _ ⟨a47, c47, rfl, rfl⟩
        refine Rg.one (by kernel_rfl) (Stp.ac0 11 rfl rfl (by kernel_rfl) trivial (ac_put (encv := slV) (k := p.1) (v := (⟨a47, ((mget M p.1).getD (slZ : SlV Int)).xs ++ [p.2], c47⟩ : SlV Int)) Tryz.underlying76 kt_9 rfl rfl rfl (by repeat constructor))  ?_)
        rintro _ _ rfl
        refine Rg.end (by kernel_rfl) ?_
        refine Gs.takes (As := [atM (p.1, (⟨a47, ((mget M p.1).getD (slZ : SlV Int)).xs ++ [p.2], c47⟩ : SlV Int)), big ((mdel M p.1).map atM)]) (by repeat constructor) (Gs.bigBack take_put ?_)
        have hM2 : mm (fun s => s.xs) (mput M p.1 (⟨a47, ((mget M p.1).getD (slZ : SlV Int)).xs ++ [p.2], c47⟩ : SlV Int)) = posL ((toksV r.t).take (i + 1)) := by
          rw [posL, hnx, mm_put, posStep, mm_get]
          congr 2
          cases mget M p.1 <;> rfl
        have hl2 := mput_len M p.1 (⟨a47, ((mget M p.1).getD (slZ : SlV Int)).xs ++ [p.2], c47⟩ : SlV Int)
        have hb2 : ∀ q ∈ mput M p.1 (⟨a47, ((mget M p.1).getD (slZ : SlV Int)).xs ++ [p.2], c47⟩ : SlV Int), q.2.xs.length ≤ i + 1 := fun q hq => by
          rcases mem_put hq with rfl | hq
          · simp only [List.length_append, List.length_cons, List.length_nil]; omega
          · have := hMb q hq; omega
        refine Gs.blk_n ?_
        refine Gs.then_n ?_
        refine Gs.reg ?_
        refine Go.Sl.L.pu rfl rfl trivial (by first | exact pu_addI rfl rfl rfl (by omega) (by omega) | exact pu_add rfl rfl) ?_
        refine Go.Sl.L.pu rfl rfl trivial (pu_move rfl) ?_
        refine Go.Sl.L.nil ?_
        refine Gs.then_n ?_
        exact Gs.again1 (i + 1, mput M p.1 (⟨a47, ((mget M p.1).getD (slZ : SlV Int)).xs ++ [p.2], c47⟩ : SlV Int)) ⟨hlt, hM2, Nat.le_trans hl2 (Nat.succ_le_succ hMl), hb2⟩ (by show (toksV r.t).length - (i + 1) < (toksV r.t).length - i; omega) (by repeat constructor) (by repeat constructor)
      · skip
        have hge : i = (toksV r.t).length := by have := of_decide_eq_false hc3; omega
        rw [hge, List.take_length] at hM
        refine Gs.exit ?_
        refine Gs.then_x ?_
        refine Gs.then_x ?_
        refine Gs.blk_hit ?_
        refine Gs.then_n ?_
        refine Gs.seq ?_
        refine Gs.regD mixed (by kernel_rfl) ?_
        refine Rg.pu 0 rfl rfl (by kernel_rfl) trivial (pu_move rfl) ?_
        refine Rg.pu 1 rfl rfl (by kernel_rfl) trivial (by first | exact pu_nil rfl | exact pu_nilF rfl) ?_
        refine Rg.pu 2 rfl rfl (by kernel_rfl) trivial (pu_fa fa_72_1 rfl) ?_
        refine Rg.rd 3 rfl rfl (by kernel_rfl) trivial (rd_ld na_70 rfl (Rdc.cl1 (by repeat constructor) rfl)) ?_
        refine Rg.pu 4 rfl rfl (by kernel_rfl) trivial (pu_fa fa_35_0 rfl) ?_
        refine Rg.rd 5 rfl rfl (by kernel_rfl) trivial (rd_lda ag_31 rfl (Rdc.cl 2 (by repeat constructor) rfl) rfl) ?_
        refine Rg.pu 6 rfl rfl (by kernel_rfl) trivial (pu_move rfl) ?_
        refine Rg.one (by kernel_rfl) (Stp.acR 7 [3, 5] rfl rfl (by kernel_rfl) trivial (as_call (t_keysFn_spec m) (by repeat constructor) (by repeat constructor)) (by rintro _ _ ⟨_, ⟨fb, rfl, rfl⟩, rfl⟩; exact (Reads.cons rfl rfl rfl trivial rfl (rd_ld na_70 rfl (Rdc.cl1 (by repeat constructor) rfl)) (Reads.cons rfl rfl rfl trivial rfl (rd_lda ag_31 rfl (Rdc.cl 2 (by repeat constructor) rfl) rfl) Reads.nil))) ?_)
        rintro _ _ ⟨_, ⟨fb, rfl, rfl⟩, rfl⟩
        refine Rg.one (by kernel_rfl) (Stp.acR 8 [3, 5] rfl rfl (by kernel_rfl) trivial (as_call (sortedT_spec fb m M (by omega)) (by repeat constructor) (by repeat constructor)) (by rintro _ _ ⟨_, ⟨sa, sc, rfl, rfl⟩, rfl⟩; exact (Reads.cons rfl rfl rfl trivial rfl (rd_ld na_70 rfl (Rdc.cl1 (by repeat constructor) rfl)) (Reads.cons rfl rfl rfl trivial rfl (rd_lda ag_31 rfl (Rdc.cl 2 (by repeat constructor) rfl) rfl) Reads.nil))) ?_)
        rintro _ _ ⟨_, ⟨sa, sc, rfl, rfl⟩, rfl⟩
        refine Rg.one (by kernel_rfl) (Stp.ac0 9 rfl rfl (by kernel_rfl) trivial (ac_put (encv := slV) (k := r.key) (v := (⟨sa, sortB (mkeys M), sc⟩ : SlV ByteArray)) Tryz.underlying70 kt_31 rfl rfl rfl (by repeat constructor))  ?_)
        rintro _ _ rfl
        refine Rg.end (by kernel_rfl) ?_
        have hkM : mkeys M = mkeys (posL (toksV r.t)) := by rw [← hM]; simp [mm, mkeys]
        have hsl : (sortB (mkeys M)).length ≤ 1000 := by rw [sortB_length]; simp [mkeys]; omega
        have hW2 := hW.put (k := r.key) (a := sa) (c := sc) hsl
        have hpW : plW (mput W r.key ⟨sa, sortB (mkeys M), sc⟩) = mput (plW W) r.key (sortB (mkeys (posL (toksV r.t)))) := by rw [plW, mm_put, hkM]; rfl
        refine Gs.takes (As := [S, sl 9 1 strC sa sc (sortB (mkeys M))]) (by repeat constructor) (Gs.toTwo ?_)
        refine Gs.then_n ?_
        refine Gs.seq ?_
        refine Gs.seq ?_
        refine Gs.reg ?_
        refine Go.Sl.L.pu rfl rfl trivial (pu_move rfl) ?_
        refine Go.Sl.L.ac rfl rfl trivial (ac_range (enck := strV) (encv := slV) Tryz.underlying76 rfl (by repeat constructor)) ?_
        rintro _ _ ⟨ri, rfl, rfl⟩
        refine Go.Sl.L.nil ?_
        refine Gs.then_n ?_
        refine Gs.block ?_
        refine Gs.loop1 (fun s : List (ByteArray × SlV Int) × List (ByteArray × SlV Int) × Option (ByteArray × SlV Int) × List (ByteArray × SlV PostV) × HProp => List.Perm (s.1 ++ s.2.1) M ∧ plL s.2.2.2.1 = (mm (fun s : SlV Int => s.xs) s.1).foldl (putW r.key) (plL L) ∧ RdL s.2.2.2.2 s.2.2.2.1 ∧ RdW s.2.2.2.2 (mput W r.key ⟨sa, sortB (mkeys M), sc⟩) ∧ ∀ p ∈ s.2.2.2.1, p.2.xs.length ≤ 800 + s.1.length) (fun s => [(0, ptr x), (3, ptr rb), (59, ptr ri)]) (fun s => [itr strV slV ri m M s.2.1 s.2.2.1, cl x 72 [.map (some ml), .map (some mw)], mp strV slV ml s.2.2.2.1, mp keyV slV mw (mput W r.key ⟨sa, sortB (mkeys M), sc⟩), s.2.2.2.2, big (M.map atM), cl rb 35 (recC r), ro h0] ++ R) (fun s => s.2.1.length) ([], M, none, L, two S (sl 9 1 strC sa sc (sortB (mkeys M)))) (⟨List.Perm.refl _, rfl, hL.l, hW2, fun p hp => hlen p hp⟩) (by repeat constructor) (by repeat constructor) (fun s hs => ?_)
        obtain ⟨pre, left, last, L1, S1⟩ := s
        obtain ⟨hs, hst, hL1, hW1, hb1⟩ := hs
        dsimp only at hs hst hL1 hW1 hb1 ⊢
        refine Gs.seq ?_
        refine Gs.reg ?_
        refine Go.Sl.L.ac rfl rfl trivial (ac_next rfl (by repeat constructor)) ?_
        rintro _ _ (⟨hl, rfl, rfl⟩ | ⟨j, e, he, rfl, rfl⟩)
        · skip
          have hl' : left = [] := hl
          subst hl'
          rw [List.append_nil] at hs
          refine Go.Sl.L.pu rfl rfl trivial (pu_extract rfl rfl) ?_
          refine Go.Sl.L.nil ?_
          refine Gs.then_n ?_
          refine Gs.seq ?_
          refine Gs.cond_f rfl ?_
          refine Gs.exit ?_
          refine Gs.then_x ?_
          refine Gs.then_x ?_
          refine Gs.blk_hit ?_
          refine Gs.then_n ?_
          refine Gs.seq ?_
          refine Gs.reg ?_
          refine Go.Sl.L.pu rfl rfl trivial (pu_assign rfl) ?_
          refine Go.Sl.L.nil ?_
          refine Gs.then_n ?_
          refine Gs.ret ?_
          refine Gs.takes (As := [cl x 72 [.map (some ml), .map (some mw)], mp strV slV ml L1, mp keyV slV mw (mput W r.key ⟨sa, sortB (mkeys M), sc⟩), S1]) (by repeat constructor) (Gs.ixc hL1 hW1 ?_)
          exact Gs.fin1 Tryz.results14 rfl _ (⟨L1, mput W r.key ⟨sa, sortB (mkeys M), sc⟩, by rw [hyes], by unfold PutI; rw [if_pos hyes, hst, hpW]; exact ⟨mm (fun s : SlV Int => s.xs) pre, by rw [← hM]; exact hs.map _, rfl⟩, rfl⟩) (by repeat constructor)
        · skip
          have hjl := (List.getElem?_eq_some_iff.1 he).1
          have hperm : List.Perm ((pre ++ [e]) ++ left.eraseIdx j) M := by
            refine List.Perm.trans ?_ hs
            rw [List.append_assoc]
            exact List.Perm.append_left pre (l_erase_perm he)
          have hlt : (left.eraseIdx j).length < left.length := by
            rw [List.length_eraseIdx_of_lt hjl]; omega
          have hpl : pre.length + left.length = M.length := by have := hs.length_eq; simpa using this
          have heM : e ∈ M := hs.subset (List.mem_append_right _ (List.mem_of_getElem? he))
          have hU : Srd (big (M.map atM)) 1 intC e.2.a e.2.xs := Srd.bigs Srd.own (List.mem_map.2 ⟨e, heM, rfl⟩)
          have heb := hMb e heM
          have hrd := lisT_rd hL1 e.1
          have hll : (lisT L1 e.1).xs.length ≤ 800 + pre.length := by
            unfold lisT
            cases h : mget L1 e.1 with
            | none => exact Nat.zero_le _
            | some s => exact hb1 (e.1, s) (mget_mem h)
          refine Go.Sl.L.pu rfl rfl trivial (pu_extract rfl rfl) ?_
          refine Go.Sl.L.nil ?_
          refine Gs.then_n ?_
          refine Gs.seq ?_
          refine Gs.cond_t rfl ?_
          refine Gs.skip ?_
          refine Gs.then_n ?_
          refine Gs.block ?_
          refine Gs.seq ?_
          refine Gs.reg ?_
          refine Go.Sl.L.rd rfl rfl trivial (ac_entry rfl (by repeat constructor)) ?_
          refine Go.Sl.L.pu rfl rfl trivial (pu_extract rfl rfl) ?_
          refine Go.Sl.L.pu rfl rfl trivial (pu_extract rfl rfl) ?_
          refine Go.Sl.L.pu rfl rfl trivial (pu_assign rfl) ?_
          refine Go.Sl.L.pu rfl rfl trivial (pu_assign rfl) ?_
          refine Go.Sl.L.nil ?_
          refine Gs.then_n ?_
          refine Gs.regD mixed (by kernel_rfl) ?_
          refine Rg.pu 0 rfl rfl (by kernel_rfl) trivial (pu_move rfl) ?_
          refine Rg.pu 1 rfl rfl (by kernel_rfl) trivial (by first | exact pu_nil rfl | exact pu_nilF rfl) ?_
          refine Rg.pu 2 rfl rfl (by kernel_rfl) trivial (pu_fa fa_72_0 rfl) ?_
          refine Rg.rd 3 rfl rfl (by kernel_rfl) trivial (rd_ld na_69 rfl (Rdc.cl1 (by repeat constructor) rfl)) ?_
          refine Rg.pu 4 rfl rfl (by kernel_rfl) trivial (pu_move rfl) ?_
          refine Rg.pu 5 rfl rfl (by kernel_rfl) trivial (pu_move rfl) ?_
          refine Rg.pu 6 rfl rfl (by kernel_rfl) trivial (by first | exact pu_nil rfl | exact pu_nilF rfl) ?_
          refine Rg.pu 7 rfl rfl (by kernel_rfl) trivial (pu_fa fa_72_0 rfl) ?_
          refine Rg.rd 8 rfl rfl (by kernel_rfl) trivial (rd_ld na_69 rfl (Rdc.cl1 (by repeat constructor) rfl)) ?_
          refine Rg.pu 9 rfl rfl (by kernel_rfl) trivial (pu_move rfl) ?_
          refine Rg.rd 10 rfl rfl (by kernel_rfl) trivial (rd_look1 Tryz.underlying69 kt_9 zvk_42 rfl rfl (by repeat constructor)) ?_
          refine Rg.pu 11 rfl rfl (by kernel_rfl) trivial (pu_fa fa_35_0 rfl) ?_
          refine Rg.rd 12 rfl rfl (by kernel_rfl) trivial (rd_lda ag_31 rfl (Rdc.cl 2 (by repeat constructor) rfl) rfl) ?_
          refine Rg.pu 13 rfl rfl (by kernel_rfl) trivial (pu_move rfl) ?_
          refine Rg.pu 14 rfl rfl (by kernel_rfl) trivial (pu_build bd_66 (by repeat constructor) rfl) ?_
          refine Rg.one (by kernel_rfl) (Stp.acR 15 [3] rfl rfl (by kernel_rfl) trivial (as_call (Ct.two (pput_spec (S := two S1 (big (M.map atM))) (a := (lisT L1 e.1).a) (c := (lisT L1 e.1).c) (ps := (lisT L1 e.1).xs) (p := ⟨r.key, e.2⟩) hrd.1.l hrd.2 (Srd.two2 hU) (by dsimp only; omega)) (by rintro _ _ ⟨_, _, _, _, _, rfl⟩; exact ⟨_, rfl⟩)) (by repeat constructor) (by repeat constructor)) (by rintro _ _ ⟨_, ⟨_, ⟨da, dc, qs, rfl, hq, ⟨⟩⟩, rfl⟩, rfl⟩; exact (Reads.cons rfl rfl rfl trivial rfl (rd_ld na_69 rfl (Rdc.cl1 (by repeat constructor) rfl)) Reads.nil)) ?_)
          rintro _ _ ⟨_, ⟨_, ⟨da, dc, qs, rfl, hq, ⟨⟩⟩, rfl⟩, rfl⟩
          refine Rg.one (by kernel_rfl) (Stp.ac0 16 rfl rfl (by kernel_rfl) trivial (ac_put (encv := slV) (k := e.1) (v := (⟨da, qs, dc⟩ : SlV PostV)) Tryz.underlying69 kt_9 rfl rfl rfl (by repeat constructor))  ?_)
          rintro _ _ rfl
          refine Rg.end (by kernel_rfl) ?_
          have hqe : plain1 qs = putP ((mget (plL L1) e.1).getD []) (r.key, e.2.xs) := by rw [hq, plL_get]; rfl
          have hql : qs.length ≤ 800 + (pre.length + 1) := by
            have h1 := congrArg List.length hqe
            have h2 := putP_le ((mget (plL L1) e.1).getD []) (r.key, e.2.xs)
            rw [plL_get] at h1 h2
            simp only [List.length_map] at h1 h2
            omega
          have hqb : ∀ q ∈ qs, q.t.xs.length ≤ 1000 := fun q hqm => by
            have : q.p ∈ plain1 qs := List.mem_map.2 ⟨q, hqm, rfl⟩
            rw [hqe] at this
            rcases putP_sub this with h | h
            · have h2 : q.t.xs = e.2.xs := congrArg Prod.snd h
              rw [h2]; omega
            · rw [plL_get] at h
              obtain ⟨y, hy, hye⟩ := List.mem_map.1 h
              have h2 : y.t.xs = q.t.xs := congrArg Prod.snd hye
              rw [← h2]; exact hL1.at e.1 y hy
          have hL3 := hL1.put (w := e.1) (a := da) (c := dc) hqb (by omega)
          have hpl3 : plL (mput L1 e.1 ⟨da, qs, dc⟩) = (mm (fun s : SlV Int => s.xs) (pre ++ [e])).foldl (putW r.key) (plL L) := by
            rw [mm, List.map_append, List.foldl_append, ← mm, ← hst, plL, mm_put, ← plL]
            show mput (plL L1) e.1 (plain1 qs) = _
            rw [hqe]; rfl
          have hb3 : ∀ p ∈ mput L1 e.1 ⟨da, qs, dc⟩, p.2.xs.length ≤ 800 + (pre ++ [e]).length := fun p hp => by
            rw [List.length_append]
            rcases mem_put hp with rfl | hp
            · exact hql
            · have := hb1 p hp; simp; omega
          refine Gs.blk_n ?_
          refine Gs.then_n ?_
          exact Gs.takes (As := [S1, plO da dc qs]) (by repeat constructor) (Gs.toTwo (Gs.again1 (pre ++ [e], left.eraseIdx j, some e, mput L1 e.1 ⟨da, qs, dc⟩, two S1 (plO da dc qs)) ⟨hperm, hpl3, hL3, hW1.l, hb3⟩ hlt (by repeat constructor) (by repeat constructor)))
end Go.Proofs.YtmbikfojljnnkaaGreatDoor
