/- Walks: index.Prefix. -/
import Derived.Test.YtmbikfojljnnkaaGreatDoorIxP
namespace Go.Ix
open Go Go.Sl Go.Gv Go.Kv Go.Po Go.Bst
def preB (s w : ByteArray) : Bool := Lib.hasPrefix s.data.toList w.data.toList
abbrev PM : Type := List (Key × List Int)
def catP (M : PM) (p : PostP) : PM := mput M p.1 ((mget M p.1).getD [] ++ p.2)
def preStep (w : ByteArray) (P : PL) (M : PM) (s : ByteArray) : PM := if preB s w then ((mget P s).getD []).foldl catP M else M
def prefM (w : ByteArray) (P : PL) : PM := (sortB (mkeys P)).foldl (preStep w P) []
theorem take_erase {α : Type} {f : α → HProp} : ∀ {l : List α} {j : Nat} {e : α}, l[j]? = some e → Take (f e) (l.map f) ((l.eraseIdx j).map f)
  | [], _, _, h => by cases h
  | x :: l, 0, e, h => by cases h; exact .hd
  | x :: l, j + 1, e, h => .tl (take_erase (by simpa using h))
end Go.Ix
namespace Go.Sl
open Go
variable {w0 w : World} {M : List HProp}
theorem Sat.bigPerm {L L' : List HProp} (p : List.Perm L L') : ∀ {M : List HProp}, Sat w0 w (Sl.big L :: M) → Sat w0 w (Sl.big L' :: M) := by
  induction p with
  | nil => exact fun s => s
  | cons x p ih => exact fun s => Sat.bigBack .hd ((ih ((Sat.bigTake .hd s).take (.tl .hd))).take (.tl .hd))
  | swap x y l => exact fun s => Sat.bigBack (.tl .hd) (Sat.bigTake .hd s)
  | trans p q ih1 ih2 => exact fun s => ih2 (ih1 s)
theorem Gs.bigPerm {n : Nat} {env : Env} {X : Act → World → Prop} {L L' : List HProp} (p : List.Perm L L') (g : Gs w0 n env (Sl.big L' :: M) X) : Gs w0 n env (Sl.big L :: M) X := fun a w e s => g a w e (s.bigPerm p)
end Go.Sl
namespace Go.Proofs.YtmbikfojljnnkaaGreatDoor
open Go Go.Sl Go.Gv Go.Kv Go.Po Go.Ix Go.Bst
set_option maxRecDepth 100000
abbrev atK {κ : Type} (p : κ × SlV Int) : HProp := sl 3 1 intC p.2.a p.2.c p.2.xs
theorem Gs.atTakeK {κ : Type} [DecidableEq κ] {w0 : World} {n : Nat} {env : Env} {H : List HProp} {X : Act → World → Prop} {M : List (κ × SlV Int)} (w : κ) (g : Gs w0 n env (atK (w, (mget M w).getD slZ) :: big ((mdel M w).map atK) :: H) X) : Gs w0 n env (big (M.map atK) :: H) X := by
  cases h : mget M w with
  | some s => rw [h] at g; exact Gs.bigTake (take_del h) g
  | none =>
    rw [h, del_none h] at g
    exact Gs.slNil 3 1 intC g
theorem hasPrefix_spec (s p : ByteArray) : Ct Tryz.prog 38 [.string s, .string p] [] (fun v hs => v = .bool (preB s p) ∧ hs = []) := by
  refine ⟨enters_of Tryz.func38 (by kernel_rfl) rfl _, fun w0 w R st => ?_⟩
  refine (Any.strings_HasPrefix Tryz.laysHP s p w).mono ?_
  rintro e w' ⟨rfl, rfl⟩
  exact ⟨_, _, rfl, ⟨rfl, rfl⟩, st⟩
/-- A key and its places, told as a posting. -/
abbrev srtP (e : Key × SlV Int) : PostV := ⟨e.1, ⟨e.2.a, sortI e.2.xs, e.2.c⟩⟩
theorem prefix_spec (x : Nat) (L : List (ByteArray × SlV PostV)) (W : List (Key × SlV ByteArray)) (q : ByteArray) (hl : L.length ≤ 100000) :
    Ct Tryz.prog 16 [ptr x, .string q] [ixA x L W] (fun v hs => ∃ a' c' qs, v = .slice a' qs.length c' ∧ List.Perm (plain1 qs) (mm sortI (prefM q (plL L))) ∧ (qs.Pairwise fun p q => before q.k p.k = false) ∧ hs = [ixA x L W, plO a' c' qs]) := by
  refine Ct.intro Tryz.func16 rfl (by kernel_rfl) 65 Tryz.ntmps16 (Nat.le_of_ble_eq_true rfl) fun w0 R => ?_
  refine Gs.seq ?_
  refine Gs.reg ?_
  refine Go.Sl.L.pu rfl rfl trivial (pu_assign rfl) ?_
  refine Go.Sl.L.nil ?_
  refine Gs.then_n ?_
  refine Gs.seq ?_
  refine Gs.reg ?_
  refine Go.Sl.L.ac rfl rfl trivial (ac_mkmap enck_31 encv_64) ?_
  rintro _ _ ⟨m, rfl, rfl⟩
  refine Go.Sl.L.pu rfl rfl trivial (pu_assign rfl) ?_
  refine Go.Sl.L.nil ?_
  refine Gs.then_n ?_
  refine Gs.seq ?_
  refine Gs.seq ?_
  refine Gs.reg ?_
  refine Go.Sl.L.pu rfl rfl trivial (pu_move rfl) ?_
  refine Go.Sl.L.ac rfl rfl trivial (as_call (words_spec x L W hl) (by repeat constructor) (by repeat constructor)) ?_
  rintro _ _ ⟨_, ⟨wa, wc, rfl, rfl⟩, rfl⟩
  refine Go.Sl.L.pu rfl rfl trivial (pu_len Tryz.underlying58 rfl) ?_
  refine Go.Sl.L.pu rfl rfl trivial (pu_move rfl) ?_
  refine Go.Sl.L.nil ?_
  have hkl : mkeys (plL L) = mkeys L := by simp [plL, mm, mkeys]
  obtain ⟨ws, hws⟩ : ∃ ws, ws = sortB (mkeys L) := ⟨_, rfl⟩
  rw [← hws]
  have hwl : ws.length ≤ 100000 := by rw [hws, sortB_length]; simp [mkeys]; exact hl
  refine Gs.slAddr (xs := ws) (SlH.own (E := 9) (enc := strC) (a := wa) (c := wc) (by repeat constructor)) fun wb wo hwa => ?_
  refine Gs.bigNil ?_
  refine Gs.takes (As := [ixA x L W]) (by repeat constructor) (Gs.ix fun ml mw S hL hW => ?_)
  refine Gs.then_n ?_
  refine Gs.block ?_
  refine Gs.loop1 (fun s : Nat × List (Key × SlV Int) => s.1 ≤ ws.length ∧ mm (fun s => s.xs) s.2 = (ws.take s.1).foldl (preStep q (plL L)) [] ∧ s.2.length ≤ 1000 * s.1 ∧ ∀ p ∈ s.2, p.2.xs.length ≤ 1000000 * s.1) (fun s => [(0, ptr x), (1, .string q), (5, .map (some m)), (15, .slice wa ws.length wc), (16, int ws.length), (17, int s.1)]) (fun s => [cl x 72 [.map (some ml), .map (some mw)], mp strV slV ml L, mp keyV slV mw W, S, sl 9 1 strC wa wc ws, mp keyV slV m s.2, big (s.2.map atK)] ++ R) (fun s => ws.length - s.1) (0, []) (⟨Nat.zero_le _, rfl, Nat.zero_le _, fun _ h => by cases h⟩) (by repeat constructor) (by repeat constructor) (fun s hs => ?_)
  obtain ⟨i, M⟩ := s
  obtain ⟨hi, hM, hMl, hMb⟩ := hs
  dsimp only at hi hM hMl hMb ⊢
  refine Gs.seq ?_
  refine Gs.reg ?_
  refine Go.Sl.L.pu rfl rfl trivial (pu_lt rfl rfl) ?_
  refine Go.Sl.L.nil ?_
  refine Gs.then_n ?_
  refine Gs.seq ?_
  refine Gs.cond rfl (fun hc0 => ?_) (fun hc0 => ?_)
  · skip
    have hlt : i < ws.length := by have := of_decide_eq_true hc0; omega
    obtain ⟨sw, hsw⟩ : ∃ z, ws[i]? = some z := ⟨ws[i], by simp [hlt]⟩
    obtain rfl := hwa (by rintro h; rw [h] at hlt; simp at hlt)
    have hnx := fold_take (preStep q (plL L)) [] hsw
    rw [← hM] at hnx
    refine Gs.skip ?_
    refine Gs.then_n ?_
    refine Gs.seq ?_
    refine Gs.block ?_
    refine Gs.seq ?_
    refine Gs.reg ?_
    refine Go.Sl.L.pu rfl rfl trivial (pu_ia se_58 rfl rfl (by omega) (by omega)) ?_
    refine Go.Sl.L.rd rfl rfl trivial (rd_ld na_9 rfl (Rdc.el0 (SlH.own (xs := ws) (E := 9) (enc := strC) (sz := 1) (by repeat constructor)) hsw rfl rfl)) ?_
    refine Go.Sl.L.pu rfl rfl trivial (pu_assign rfl) ?_
    refine Go.Sl.L.nil ?_
    refine Gs.then_n ?_
    refine Gs.seq ?_
    refine Gs.seq ?_
    refine Gs.reg ?_
    refine Go.Sl.L.pu rfl rfl trivial (pu_move rfl) ?_
    refine Go.Sl.L.pu rfl rfl trivial (pu_move rfl) ?_
    refine Go.Sl.L.ac rfl rfl trivial (as_call (hasPrefix_spec sw q) (by repeat constructor) (by repeat constructor)) ?_
    rintro _ _ ⟨_, ⟨rfl, rfl⟩, rfl⟩
    refine Go.Sl.L.pu rfl rfl trivial (pu_not rfl) ?_
    refine Go.Sl.L.nil ?_
    refine Gs.then_n ?_
    refine Gs.cond rfl (fun hc1 => ?_) (fun hc1 => ?_)
    · skip
      have hsame : mm (fun s : SlV Int => s.xs) M = (ws.take (i + 1)).foldl (preStep q (plL L)) [] := by
        rw [hnx, preStep, if_neg (by rw [not_t hc1]; decide)]
      have hl2 : M.length ≤ 1000 * (i + 1) := by omega
      have hb2 : ∀ p ∈ M, p.2.xs.length ≤ 1000000 * (i + 1) := fun p hp => by have := hMb p hp; omega
      refine Gs.exit ?_
      refine Gs.then_x ?_
      refine Gs.blk_hit ?_
      refine Gs.then_n ?_
      refine Gs.reg ?_
      refine Go.Sl.L.pu rfl rfl trivial (by first | exact pu_addI rfl rfl rfl (by omega) (by omega) | exact pu_add rfl rfl) ?_
      refine Go.Sl.L.pu rfl rfl trivial (pu_move rfl) ?_
      refine Go.Sl.L.nil ?_
      refine Gs.then_n ?_
      first | exact Gs.again1 (i + 1, M) ⟨hlt, hsame, hl2, hb2⟩ (by show ws.length - (i + 1) < ws.length - i; omega) (by repeat constructor) (by repeat constructor) | exact Gs.again1 (i + 1, M1) ⟨hlt, hsame, hl2, hb2⟩ (by show ws.length - (i + 1) < ws.length - i; omega) (by repeat constructor) (by repeat constructor)
    · skip
      have hpre := not_f hc1
      obtain ⟨la, lxs, lc, hlT⟩ : ∃ a xs c, lisT L sw = ⟨a, xs, c⟩ := ⟨_, _, _, rfl⟩
      have hrd := lisT_rd hL sw
      rw [preStep, if_pos hpre, plL_get] at hnx
      rw [hlT] at hrd hnx
      dsimp only at hrd hnx
      have hrl := hrd.2
      refine Gs.slAddr (xs := lxs) (hrd.1.1.h (by repeat constructor)) fun pb po hpa => ?_
      refine Gs.skip ?_
      refine Gs.then_n ?_
      refine Gs.seq ?_
      refine Gs.reg ?_
      refine Go.Sl.L.pu rfl rfl trivial (pu_move rfl) ?_
      refine Go.Sl.L.pu rfl rfl trivial (by first | exact pu_nil rfl | exact pu_nilF rfl) ?_
      refine Go.Sl.L.pu rfl rfl trivial (pu_fa fa_72_0 rfl) ?_
      refine Go.Sl.L.rd rfl rfl trivial (rd_ld na_69 rfl (Rdc.cl1 (by repeat constructor) rfl)) ?_
      refine Go.Sl.L.pu rfl rfl trivial (pu_move rfl) ?_
      refine Go.Sl.L.rd rfl rfl trivial (rd_look1 Tryz.underlying69 kt_9 zvk_42 rfl rfl (by repeat constructor)) ?_
      rw [show (mget L sw).getD (slZ : SlV PostV) = ⟨la, lxs, lc⟩ from hlT]
      refine Go.Sl.L.pu rfl rfl trivial (pu_len Tryz.underlying42 rfl) ?_
      refine Go.Sl.L.pu rfl rfl trivial (pu_move rfl) ?_
      refine Go.Sl.L.nil ?_
      refine Gs.then_n ?_
      refine Gs.block ?_
      refine Gs.loop1 (fun s : Nat × List (Key × SlV Int) => s.1 ≤ lxs.length ∧ mm (fun s => s.xs) s.2 = ((plain1 lxs).take s.1).foldl catP (mm (fun s : SlV Int => s.xs) M) ∧ s.2.length ≤ 1000 * i + s.1 ∧ ∀ p ∈ s.2, p.2.xs.length ≤ 1000000 * i + 1000 * s.1) (fun s => [(0, ptr x), (1, .string q), (5, .map (some m)), (15, .slice (some ⟨wb, wo, none⟩) ws.length wc), (16, int ws.length), (17, int i), (30, .slice la lxs.length lc), (31, int lxs.length), (32, int s.1)]) (fun s => [cl x 72 [.map (some ml), .map (some mw)], mp strV slV ml L, mp keyV slV mw W, S, sl 9 1 strC (some ⟨wb, wo, none⟩) wc ws, mp keyV slV m s.2, big (s.2.map atK)] ++ R) (fun s => lxs.length - s.1) (0, M) (⟨Nat.zero_le _, rfl, hMl, hMb⟩) (by repeat constructor) (by repeat constructor) (fun s hs1 => ?_)
      obtain ⟨j, M1⟩ := s
      obtain ⟨hj, hM1, hMl1, hMb1⟩ := hs1
      dsimp only at hj hM1 hMl1 hMb1 ⊢
      refine Gs.seq ?_
      refine Gs.reg ?_
      refine Go.Sl.L.pu rfl rfl trivial (pu_lt rfl rfl) ?_
      refine Go.Sl.L.nil ?_
      refine Gs.then_n ?_
      refine Gs.seq ?_
      refine Gs.cond rfl (fun hc2 => ?_) (fun hc2 => ?_)
      · skip
        have hlt2 : j < lxs.length := by have := of_decide_eq_true hc2; omega
        obtain ⟨p, hp⟩ : ∃ z, lxs[j]? = some z := ⟨lxs[j], by simp [hlt2]⟩
        obtain rfl := hpa (by rintro h; rw [h] at hlt2; simp at hlt2)
        have hnx2 := fold_take catP (mm (fun s : SlV Int => s.xs) M) (show (plain1 lxs)[j]? = some p.p by rw [List.getElem?_map, hp]; rfl)
        rw [← hM1] at hnx2
        obtain ⟨hpt, hptl⟩ := hrd.1.2 p (List.mem_of_getElem? hp)
        have hgl : ((mget M1 p.k).getD (slZ : SlV Int)).xs.length ≤ 1000000 * i + 1000 * j := by
          cases h : mget M1 p.k with
          | none => exact Nat.zero_le _
          | some s => exact hMb1 (p.k, s) (mget_mem h)
        refine Gs.skip ?_
        refine Gs.then_n ?_
        refine Gs.seq ?_
        refine Gs.block ?_
        refine Gs.seq ?_
        refine Gs.reg ?_
        refine Go.Sl.L.pu rfl rfl trivial (pu_ia se_42 rfl rfl (by omega) (by omega)) ?_
        refine Go.Sl.L.rd rfl rfl trivial (rd_lda ag_66 rfl (Rdc.el0 (hrd.1.1.h (by repeat constructor)) hp rfl rfl) rfl) ?_
        refine Go.Sl.L.ac rfl rfl trivial (ac_alloc zv_66 rfl) ?_
        rintro _ _ ⟨cb, rfl, rfl⟩
        refine Go.Sl.L.ac0 rfl trivial (ac_st sz_66 rfl rfl (by repeat constructor) rfl rfl rfl rfl) ?_
        rintro _ _ rfl
        refine Go.Sl.L.nil ?_
        refine Gs.then_n ?_
        refine Gs.takes (As := [big (M1.map atK)]) (by repeat constructor) (Gs.atTakeK p.k ?_)
        refine Gs.reg ?_
        refine Go.Sl.L.pu rfl rfl trivial (pu_move rfl) ?_
        refine Go.Sl.L.pu rfl rfl trivial (pu_fa fa_66_0 rfl) ?_
        refine Go.Sl.L.rd rfl rfl trivial (rd_lda ag_31 rfl (Rdc.cl 2 (by repeat constructor) rfl) rfl) ?_
        refine Go.Sl.L.pu rfl rfl trivial (pu_fa fa_66_1 rfl) ?_
        refine Go.Sl.L.rd rfl rfl trivial (rd_ld na_64 rfl (Rdc.cl1 (by repeat constructor) rfl)) ?_
        refine Go.Sl.L.ac rfl rfl trivial (ac_mapEntry (enck := keyV) (encv := slV) (m := M1) (k := p.k) (z := (slZ : SlV Int)) Tryz.underlying83 kt_31 zvk_64 rfl rfl (by repeat constructor)) ?_
        rintro _ _ ⟨st, rfl, rfl⟩
        refine Go.Sl.L.pu rfl rfl trivial (pu_extract rfl rfl) ?_
        refine Go.Sl.L.ac rfl rfl trivial (ac_append (xs := ((mget M1 p.k).getD (slZ : SlV Int)).xs) et_64 ek_3 rfl rfl (by repeat constructor) (SrcH.sl Tryz.underlying64 ek_3 (hpt.h (by repeat constructor))) (by omega) (by omega)) ?_
        rintro _ _ ⟨aa, ac', rfl, rfl⟩
        refine Go.Sl.L.pu rfl rfl trivial (pu_extract rfl rfl) ?_
        refine Go.Sl.L.ac0 rfl trivial (ac_entryStore (enck := keyV) (encv := slV) (m := M1) (k := p.k) (z := (slZ : SlV Int)) (v := (⟨aa, ((mget M1 p.k).getD (slZ : SlV Int)).xs ++ p.t.xs, ac'⟩ : SlV Int)) rfl rfl rfl (by repeat constructor)) ?_
        rintro _ _ rfl
        refine Go.Sl.L.nil ?_
        refine Gs.takes (As := [atK (p.k, (⟨aa, ((mget M1 p.k).getD (slZ : SlV Int)).xs ++ p.t.xs, ac'⟩ : SlV Int)), big ((mdel M1 p.k).map atK)]) (by repeat constructor) (Gs.bigBack take_put ?_)
        have hM3 : mm (fun s => s.xs) (mput M1 p.k (⟨aa, ((mget M1 p.k).getD (slZ : SlV Int)).xs ++ p.t.xs, ac'⟩ : SlV Int)) = ((plain1 lxs).take (j + 1)).foldl catP (mm (fun s : SlV Int => s.xs) M) := by
          rw [hnx2, mm_put, catP, mm_get]
          congr 1
          show _ = ((mget M1 p.k).map fun s => s.xs).getD [] ++ p.t.xs
          cases mget M1 p.k <;> rfl
        have hl3 := mput_len M1 p.k (⟨aa, ((mget M1 p.k).getD (slZ : SlV Int)).xs ++ p.t.xs, ac'⟩ : SlV Int)
        have hb3 : ∀ q ∈ mput M1 p.k (⟨aa, ((mget M1 p.k).getD (slZ : SlV Int)).xs ++ p.t.xs, ac'⟩ : SlV Int), q.2.xs.length ≤ 1000000 * i + 1000 * (j + 1) := fun q hq => by
          rcases mem_put hq with rfl | hq
          · simp only [List.length_append]; omega
          · have := hMb1 q hq; omega
        refine Gs.blk_n ?_
        refine Gs.then_n ?_
        refine Gs.reg ?_
        refine Go.Sl.L.pu rfl rfl trivial (by first | exact pu_addI rfl rfl rfl (by omega) (by omega) | exact pu_add rfl rfl) ?_
        refine Go.Sl.L.pu rfl rfl trivial (pu_move rfl) ?_
        refine Go.Sl.L.nil ?_
        refine Gs.then_n ?_
        exact Gs.again1 (j + 1, mput M1 p.k (⟨aa, ((mget M1 p.k).getD (slZ : SlV Int)).xs ++ p.t.xs, ac'⟩ : SlV Int)) ⟨hlt2, hM3, Nat.le_trans hl3 (by omega), hb3⟩ (by show lxs.length - (j + 1) < lxs.length - j; omega) (by repeat constructor) (by repeat constructor)
      · skip
        have hge2 : j = lxs.length := by have := of_decide_eq_false hc2; omega
        have hsame : mm (fun s : SlV Int => s.xs) M1 = (ws.take (i + 1)).foldl (preStep q (plL L)) [] := by
          rw [hnx, hM1, List.take_of_length_le (by rw [List.length_map]; omega)]
        have hl2 : M1.length ≤ 1000 * (i + 1) := by omega
        have hb2 : ∀ p ∈ M1, p.2.xs.length ≤ 1000000 * (i + 1) := fun p hp => by have := hMb1 p hp; omega
        refine Gs.exit ?_
        refine Gs.then_x ?_
        refine Gs.then_x ?_
        refine Gs.blk_hit ?_
        refine Gs.blk_n ?_
        refine Gs.then_n ?_
        refine Gs.reg ?_
        refine Go.Sl.L.pu rfl rfl trivial (by first | exact pu_addI rfl rfl rfl (by omega) (by omega) | exact pu_add rfl rfl) ?_
        refine Go.Sl.L.pu rfl rfl trivial (pu_move rfl) ?_
        refine Go.Sl.L.nil ?_
        refine Gs.then_n ?_
        first | exact Gs.again1 (i + 1, M) ⟨hlt, hsame, hl2, hb2⟩ (by show ws.length - (i + 1) < ws.length - i; omega) (by repeat constructor) (by repeat constructor) | exact Gs.again1 (i + 1, M1) ⟨hlt, hsame, hl2, hb2⟩ (by show ws.length - (i + 1) < ws.length - i; omega) (by repeat constructor) (by repeat constructor)
  · skip
    have hge : i = ws.length := by have := of_decide_eq_false hc0; omega
    rw [hge, List.take_length] at hM
    refine Gs.exit ?_
    refine Gs.then_x ?_
    refine Gs.then_x ?_
    refine Gs.blk_hit ?_
    refine Gs.then_n ?_
    refine Gs.seq ?_
    refine Gs.reg ?_
    refine Go.Sl.L.pu rfl rfl trivial (pu_assign rfl) ?_
    refine Go.Sl.L.nil ?_
    refine Gs.then_n ?_
    refine Gs.seq ?_
    refine Gs.seq ?_
    refine Gs.bigNil (Gs.slNil 66 3 postC ?_)
    have hMle : M.length ≤ 100000000 := by omega
    have hMb' : ∀ p ∈ M, p.2.xs.length ≤ 100000000000 := fun p hp => by have := hMb p hp; omega
    refine Gs.reg ?_
    refine Go.Sl.L.pu rfl rfl trivial (pu_move rfl) ?_
    refine Go.Sl.L.ac rfl rfl trivial (ac_range (enck := keyV) (encv := slV) Tryz.underlying83 rfl (by repeat constructor)) ?_
    rintro _ _ ⟨ri, rfl, rfl⟩
    refine Go.Sl.L.nil ?_
    refine Gs.then_n ?_
    refine Gs.block ?_
    refine Gs.loop1 (fun s : (Option Addr × Nat) × List (Key × SlV Int) × List (Key × SlV Int) × Option (Key × SlV Int) => List.Perm (s.2.1 ++ s.2.2.1) M) (fun s => [(0, ptr x), (1, .string q), (10, .slice s.1.1 (s.2.1.map srtP).length s.1.2), (48, ptr ri)]) (fun s => [itr keyV slV ri m M s.2.2.1 s.2.2.2, cl x 72 [.map (some ml), .map (some mw)], mp strV slV ml L, mp keyV slV mw W, S, sl 66 3 postC s.1.1 s.1.2 (s.2.1.map srtP), big (s.2.2.1.map atK), big ((s.2.1.map srtP).map atO)] ++ R) (fun s => s.2.2.1.length) ((none, 0), [], M, none) (List.Perm.refl _) (by repeat constructor) (by repeat constructor) (fun s hs => ?_)
    obtain ⟨⟨oa, oc⟩, pre, left, last⟩ := s
    dsimp only at hs ⊢
    refine Gs.seq ?_
    refine Gs.reg ?_
    refine Go.Sl.L.ac rfl rfl trivial (ac_next rfl (by repeat constructor)) ?_
    rintro _ _ (⟨hl, rfl, rfl⟩ | ⟨j, e, he, rfl, rfl⟩)
    · skip
      have hl' : left = [] := hl
      subst hl'
      rw [List.append_nil] at hs
      have hpm := hs.length_eq
      refine Go.Sl.L.pu rfl rfl trivial (pu_extract rfl rfl) ?_
      refine Go.Sl.L.nil ?_
      refine Gs.then_n ?_
      refine Gs.seq ?_
      refine Gs.cond_f rfl ?_
      refine Gs.exit ?_
      refine Gs.then_x ?_
      refine Gs.then_x ?_
      refine Gs.blk_hit ?_
      refine Gs.then_n ?_
      refine Gs.seq ?_
      refine Gs.reg ?_
      refine Go.Sl.L.pu rfl rfl trivial (pu_move rfl) ?_
      refine Go.Sl.L.ac rfl rfl trivial (as_call (sortPI_spec oa oc (pre.map srtP) (by simp; omega)) (by repeat constructor) (by repeat constructor)) ?_
      rintro _ _ ⟨_, ⟨rfl, ys, hys, hpw, rfl⟩, rfl⟩
      refine Go.Sl.L.nil ?_
      refine Gs.takes (As := [big ((pre.map srtP).map atO)]) (by repeat constructor) (Gs.bigPerm (hys.symm.map atO) ?_)
      refine Gs.takes (As := [sl 66 3 postC oa oc ys, big (ys.map atO)]) (by repeat constructor) (Gs.toTwo ?_)
      have hpe : List.Perm (plain1 ys) (mm sortI (prefM q (plL L))) := by
        refine (hys.map PostV.p).trans ?_
        rw [prefM, hkl, ← hws, ← hM]
        have : (pre.map srtP).map PostV.p = mm sortI (mm (fun s : SlV Int => s.xs) pre) := by simp [mm, PostV.p]
        rw [this]
        exact (hs.map _).map _
      refine Gs.then_n ?_
      refine Gs.seq ?_
      refine Gs.reg ?_
      refine Go.Sl.L.pu rfl rfl trivial (pu_move rfl) ?_
      refine Go.Sl.L.pu rfl rfl trivial (pu_assign rfl) ?_
      refine Go.Sl.L.nil ?_
      refine Gs.then_n ?_
      refine Gs.ret ?_
      refine Gs.takes (As := [cl x 72 [.map (some ml), .map (some mw)], mp strV slV ml L, mp keyV slV mw W, S]) (by repeat constructor) (Gs.ixc hL hW ?_)
      exact Gs.fin1 Tryz.results16 rfl _ (⟨oa, oc, ys, by rw [hys.length_eq], hpe, hpw, rfl⟩) (by repeat constructor)
    · skip
      have hjl := (List.getElem?_eq_some_iff.1 he).1
      have hperm : List.Perm ((pre ++ [e]) ++ left.eraseIdx j) M := by
        refine List.Perm.trans ?_ hs
        rw [List.append_assoc]
        exact List.Perm.append_left pre (l_erase_perm he)
      have hlt : (left.eraseIdx j).length < left.length := by
        rw [List.length_eraseIdx_of_lt hjl]; omega
      have hpl : pre.length + left.length = M.length := by have := hs.length_eq; simpa using this
      have heM : e ∈ M := hs.subset (List.mem_append_right _ (List.mem_of_getElem? he))
      have heb := hMb' e heM
      refine Go.Sl.L.pu rfl rfl trivial (pu_extract rfl rfl) ?_
      refine Go.Sl.L.nil ?_
      refine Gs.then_n ?_
      refine Gs.seq ?_
      refine Gs.cond_t rfl ?_
      refine Gs.skip ?_
      refine Gs.then_n ?_
      refine Gs.block ?_
      refine Gs.seq ?_
      refine Gs.reg ?_
      refine Go.Sl.L.rd rfl rfl trivial (ac_entry rfl (by repeat constructor)) ?_
      refine Go.Sl.L.pu rfl rfl trivial (pu_extract rfl rfl) ?_
      refine Go.Sl.L.pu rfl rfl trivial (pu_extract rfl rfl) ?_
      refine Go.Sl.L.ac rfl rfl trivial (ac_alloc zv_31 rfl) ?_
      rintro _ _ ⟨kb, rfl, rfl⟩
      refine Go.Sl.L.ac0 rfl trivial (ac_st sz_31 rfl rfl (by repeat constructor) rfl rfl rfl rfl) ?_
      rintro _ _ rfl
      refine Go.Sl.L.pu rfl rfl trivial (pu_assign rfl) ?_
      refine Go.Sl.L.nil ?_
      refine Gs.takes (As := [big (left.map atK)]) (by repeat constructor) (Gs.bigTake (take_erase he) ?_)
      refine Gs.then_n ?_
      refine Gs.seq ?_
      refine Gs.reg ?_
      refine Go.Sl.L.pu rfl rfl trivial (pu_move rfl) ?_
      refine Go.Sl.L.ac rfl rfl trivial (as_call (sortI_spec e.2.a e.2.c e.2.xs (by omega)) (by repeat constructor) (by repeat constructor)) ?_
      rintro _ _ ⟨_, ⟨rfl, rfl⟩, rfl⟩
      refine Go.Sl.L.nil ?_
      rw [show (slV e.2 : Value) = slV (srtP e).t by show Value.slice _ _ _ = Value.slice _ (sortI e.2.xs).length _; rw [sortI_length]]
      refine Gs.then_n ?_
      refine Gs.reg ?_
      refine Go.Sl.L.pu rfl rfl trivial (pu_move rfl) ?_
      refine Go.Sl.L.rd rfl rfl trivial (rd_lda ag_31 rfl (Rdc.cl 2 (by repeat constructor) rfl) rfl) ?_
      refine Go.Sl.L.pu rfl rfl trivial (pu_move rfl) ?_
      refine Go.Sl.L.pu rfl rfl trivial (pu_build bd_66 (by repeat constructor) rfl) ?_
      refine Go.Sl.L.ac rfl rfl trivial (ac_lit encC_66 ([srtP e]) et_42 ek_66 rfl (by repeat constructor) rfl rfl (by decide)) ?_
      rintro _ _ ⟨a60, rfl, rfl⟩
      refine Go.Sl.L.ac rfl rfl trivial (ac_append (xs := pre.map srtP) (ys := [srtP e]) et_42 ek_66 rfl rfl (by repeat constructor) (SrcH.sl Tryz.underlying42 ek_66 (SlH.own (by repeat constructor))) (by first | omega | (simp; omega)) (by first | omega | (simp; omega))) ?_
      rintro _ _ ⟨a61, c61, rfl, rfl⟩
      refine Go.Sl.L.pu rfl rfl trivial (pu_assign rfl) ?_
      refine Go.Sl.L.nil ?_
      rw [show pre.map srtP ++ [srtP e] = (pre ++ [e]).map srtP by simp]
      refine Gs.takes (As := [atO (srtP e), big ((pre.map srtP).map atO)]) (by repeat constructor) (Gs.bigBack take_snoc ?_)
      rw [show (pre.map srtP).map atO ++ [atO (srtP e)] = ((pre ++ [e]).map srtP).map atO by simp]
      refine Gs.blk_n ?_
      refine Gs.then_n ?_
      exact Gs.again1 ((a61, c61), pre ++ [e], left.eraseIdx j, some e) hperm hlt (by repeat constructor) (by repeat constructor)
end Go.Proofs.YtmbikfojljnnkaaGreatDoor
