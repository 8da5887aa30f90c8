/- An index: what it is, in memory. -/
import Derived.Test.YtmbikfojljnnkaaGreatDoorKey
import Derived.Test.YtmbikfojljnnkaaGreatDoorMB
import Derived.Test.YtmbikfojljnnkaaGreatDoorMD
namespace Go.Ix
open Go Go.Sl Go.Gv Go.Po
abbrev strV (s : ByteArray) : Value := .string s
abbrev strC (s : ByteArray) : List Value := [.string s]
abbrev slV {α : Type} (s : SlV α) : Value := .slice s.a s.xs.length s.c
abbrev slZ {α : Type} : SlV α := ⟨none, [], 0⟩
abbrev WordP : Type := ByteArray × Int
abbrev wordC (p : WordP) : List Value := [.string p.1, int p.2]
abbrev wordV (p : WordP) : Value := .agg (wordC p).toArray
end Go.Ix
namespace Go.Proofs.YtmbikfojljnnkaaGreatDoor
open Go Go.Sl Go.Gv Go.Kv Go.Po Go.Ix
set_option maxRecDepth 100000
theorem kt_9 : KeyT Tryz.prog 9 strV := KeyT.str Tryz.underlying9
abbrev enck_9 : ByteArray → Value := strV
abbrev encv_42 : SlV PostV → Value := slV
abbrev encv_58 : SlV ByteArray → Value := slV
abbrev encv_64 : SlV Int → Value := slV
theorem zvk_42 : ZV Tryz.prog 42 (slV (slZ : SlV PostV)) := zv_42
theorem zvk_58 : ZV Tryz.prog 58 (slV (slZ : SlV ByteArray)) := zv_58
theorem zvk_64 : ZV Tryz.prog 64 (slV (slZ : SlV Int)) := zv_64
abbrev encC_9 : ByteArray → List Value := strC
abbrev encC_52 : WordP → List Value := wordC
theorem ek_9 : EncOk 1 strC := ⟨fun _ => rfl, fun x v hv => by
  simp only [strC, List.mem_cons, List.not_mem_nil, or_false] at hv
  rcases hv with rfl; rfl⟩
theorem ek_52 : EncOk 2 wordC := ⟨fun _ => rfl, fun x v hv => by
  simp only [wordC, List.mem_cons, List.not_mem_nil, or_false] at hv
  rcases hv with rfl | rfl <;> rfl⟩
/-- All lists read in S. -/
def RdL (S : HProp) (L : List (ByteArray × SlV PostV)) : Prop := ∀ p ∈ L, PRd S p.2.a p.2.xs ∧ p.2.xs.length ≤ 1000
def RdW (S : HProp) (W : List (Key × SlV ByteArray)) : Prop := ∀ p ∈ W, Srd S 1 strC p.2.a p.2.xs ∧ p.2.xs.length ≤ 1000
theorem PRd.l {S U : HProp} {a : Option Addr} {ps : List PostV} (h : PRd S a ps) : PRd (two S U) a ps := ⟨Srd.two1 h.1, fun p hp => ⟨Srd.two1 (h.2 p hp).1, (h.2 p hp).2⟩⟩
theorem PRd.r {S U : HProp} {a : Option Addr} {ps : List PostV} (h : PRd U a ps) : PRd (two S U) a ps := ⟨Srd.two2 h.1, fun p hp => ⟨Srd.two2 (h.2 p hp).1, (h.2 p hp).2⟩⟩
theorem RdL.l {S U : HProp} {L : List (ByteArray × SlV PostV)} (h : RdL S L) : RdL (two S U) L := fun p hp => ⟨(h p hp).1.l, (h p hp).2⟩
theorem RdW.l {S U : HProp} {W : List (Key × SlV ByteArray)} (h : RdW S W) : RdW (two S U) W := fun p hp => ⟨Srd.two1 (h p hp).1, (h p hp).2⟩
/-- An index: its two maps, and all that lies in them. -/
def ixA (x : Nat) (L : List (ByteArray × SlV PostV)) (W : List (Key × SlV ByteArray)) : HProp := fun h => ∃ q : Nat × Nat × HProp, (RdL q.2.2 L ∧ RdW q.2.2 W) ∧
  two (cl x 72 [.map (some q.1), .map (some q.2.1)]) (two (mp strV slV q.1 L) (two (mp keyV slV q.2.1 W) q.2.2)) h
section
variable {w0 : World} {n : Nat} {env : Env} {H : List HProp} {X : Act → World → Prop} {x : Nat} {L : List (ByteArray × SlV PostV)} {W : List (Key × SlV ByteArray)}
theorem Gs.ix (g : ∀ ml mw S, RdL S L → RdW S W → Gs w0 n env (cl x 72 [.map (some ml), .map (some mw)] :: mp strV slV ml L :: mp keyV slV mw W :: S :: H) X) : Gs w0 n env (ixA x L W :: H) X :=
  Gs.ex (A := fun q : Nat × Nat × HProp => fun h => (RdL q.2.2 L ∧ RdW q.2.2 W) ∧ two (cl x 72 [.map (some q.1), .map (some q.2.1)]) (two (mp strV slV q.1 L) (two (mp keyV slV q.2.1 W) q.2.2)) h)
    fun q => Gs.pure fun hq => Gs.two (fun a w e s => g q.1 q.2.1 q.2.2 hq.1 hq.2 a w e (by
      have s1 := s.take (.tl .hd)
      have s2 := Sat.two.1 s1
      have s3 := s2.take (.tl .hd)
      have s4 := Sat.two.1 s3
      exact Ent.sat (by repeat constructor) s4))
theorem Sat.ixc {w : World} {ml mw : Nat} {S : HProp} (h1 : RdL S L) (h2 : RdW S W) (s : Sat w0 w (cl x 72 [.map (some ml), .map (some mw)] :: mp strV slV ml L :: mp keyV slV mw W :: S :: H)) : Sat w0 w (ixA x L W :: H) := by
  have s1 : Sat w0 w (mp keyV slV mw W :: S :: mp strV slV ml L :: cl x 72 [.map (some ml), .map (some mw)] :: H) := Ent.sat (by repeat constructor) s
  have s2 := (Sat.two.2 s1).take (.tl .hd)
  have s3 := (Sat.two.2 s2).take (.tl .hd)
  exact (Sat.two.2 s3).ent fun h hh => ⟨(ml, mw, S), ⟨h1, h2⟩, hh⟩
theorem Gs.ixc {ml mw : Nat} {S : HProp} (h1 : RdL S L) (h2 : RdW S W) (g : Gs w0 n env (ixA x L W :: H) X) : Gs w0 n env (cl x 72 [.map (some ml), .map (some mw)] :: mp strV slV ml L :: mp keyV slV mw W :: S :: H) X :=
  fun a w e s => g a w e (Sat.ixc h1 h2 s)
end
theorem new_spec : Ct Tryz.prog 10 [] [] (fun v hs => ∃ x, v = ptr x ∧ hs = [ixA x [] []]) := by
  refine Ct.intro Tryz.func10 rfl (by kernel_rfl) 5 Tryz.ntmps10 (Nat.le_of_ble_eq_true rfl) fun w0 R => ?_
  refine Gs.seq ?_
  refine Gs.reg ?_
  refine Go.Sl.L.pu rfl rfl trivial (pu_assign rfl) ?_
  refine Go.Sl.L.nil ?_
  refine Gs.then_n ?_
  refine Gs.seq ?_
  refine Gs.reg ?_
  refine Go.Sl.L.ac rfl rfl trivial (ac_mkmap enck_9 encv_42) ?_
  rintro _ _ ⟨m1, rfl, rfl⟩
  refine Go.Sl.L.ac rfl rfl trivial (ac_mkmap enck_31 encv_58) ?_
  rintro _ _ ⟨m2, rfl, rfl⟩
  refine Go.Sl.L.pu rfl rfl trivial (pu_build bd_72 (by repeat constructor) rfl) ?_
  refine Go.Sl.L.ac rfl rfl trivial (ac_box rfl rfl) ?_
  rintro _ _ ⟨b3, rfl, rfl⟩
  refine Go.Sl.L.pu rfl rfl trivial (pu_assign rfl) ?_
  refine Go.Sl.L.nil ?_
  refine Gs.then_n ?_
  refine Gs.ret ?_
  refine Gs.bigNil (Gs.takes (As := [cl b3 72 [.map (some m1), .map (some m2)], mp strV slV m1 ([] : List (ByteArray × SlV PostV)), mp keyV slV m2 ([] : List (Key × SlV ByteArray)), big []]) (by repeat constructor) (Gs.ixc (L := []) (W := []) (fun _ h => by cases h) (fun _ h => by cases h) ?_))
  exact Gs.fin1 Tryz.results10 rfl _ (⟨b3, rfl, rfl⟩) (by repeat constructor)
theorem ownI_spec {S : HProp} {a : Option Addr} {c : Nat} {ps : List PostV} (hS : PRd S a ps) (hl : ps.length ≤ 1000) :
    Ct Tryz.prog 37 [.slice a ps.length c] [S] (fun v hs => ∃ a' c' qs, v = .slice a' qs.length c' ∧ plain1 qs = plain1 ps ∧ hs = [S, plO a' c' qs]) := by
  refine Ct.intro Tryz.func37 rfl (by kernel_rfl) 23 Tryz.ntmps37 (Nat.le_of_ble_eq_true rfl) fun w0 R => ?_
  refine Gs.seq ?_
  refine Gs.reg ?_
  refine Go.Sl.L.pu rfl rfl trivial (pu_assign rfl) ?_
  refine Go.Sl.L.nil ?_
  refine Gs.then_n ?_
  refine Gs.seq ?_
  refine Gs.reg ?_
  refine Go.Sl.L.pu rfl rfl trivial (pu_move rfl) ?_
  refine Go.Sl.L.ac rfl rfl trivial (as_call (cloneP_spec hS.1 (by omega)) (by repeat constructor) (by repeat constructor)) ?_
  rintro _ _ ⟨_, ⟨na, nc, rfl, rfl⟩, rfl⟩
  refine Go.Sl.L.pu rfl rfl trivial (pu_assign rfl) ?_
  refine Go.Sl.L.nil ?_
  refine Gs.then_n ?_
  refine Gs.seq ?_
  refine Gs.seq ?_
  refine Gs.reg ?_
  refine Go.Sl.L.pu rfl rfl trivial (pu_move rfl) ?_
  refine Go.Sl.L.pu rfl rfl trivial (pu_len Tryz.underlying42 rfl) ?_
  refine Go.Sl.L.pu rfl rfl trivial (pu_move rfl) ?_
  refine Go.Sl.L.nil ?_
  refine Gs.bigNil ?_
  refine Gs.slAddr (xs := ps) (SlH.own (E := 66) (enc := postC) (by repeat constructor)) fun ab ao ha => ?_
  refine Gs.then_n ?_
  refine Gs.block ?_
  refine Gs.loop1 (fun s : Nat × List PostV => s.1 ≤ ps.length ∧ plain1 s.2 = plain1 ps ∧ s.2.drop s.1 = ps.drop s.1) (fun s => [(0, .slice na ps.length nc), (7, int ps.length), (8, int s.1)]) (fun s => [S, sl 66 3 postC na nc s.2, big ((s.2.take s.1).map atO)] ++ R) (fun s => ps.length - s.1) (0, ps) (⟨Nat.zero_le _, rfl, rfl⟩) (by repeat constructor) (by repeat constructor) (fun s hs => ?_)
  obtain ⟨i, qs⟩ := s
  obtain ⟨hi, hq, hd⟩ := hs
  dsimp only at hi hq hd ⊢
  have hql : qs.length = ps.length := by have := congrArg List.length hq; simpa using this
  refine Gs.seq ?_
  refine Gs.reg ?_
  refine Go.Sl.L.pu rfl rfl trivial (pu_lt rfl rfl) ?_
  refine Go.Sl.L.nil ?_
  refine Gs.then_n ?_
  refine Gs.seq ?_
  refine Gs.cond rfl (fun hc0 => ?_) (fun hc0 => ?_)
  · skip
    have hlt : i < ps.length := by have := of_decide_eq_true hc0; omega
    obtain ⟨p, hp⟩ : ∃ x, ps[i]? = some x := ⟨ps[i], by simp [hlt]⟩
    obtain rfl := ha (by rintro rfl; simp at hlt)
    have hpq : qs[i]? = some p := by
      have := congrArg (·[0]?) hd
      simpa [List.getElem?_drop, hp] using this
    obtain ⟨hat, hatl⟩ := hS.2 p (List.mem_of_getElem? hp)
    refine Gs.skip ?_
    refine Gs.then_n ?_
    refine Gs.seq ?_
    refine Gs.block ?_
    refine Gs.seq ?_
    refine Gs.reg ?_
    refine Go.Sl.L.pu rfl rfl trivial (pu_move rfl) ?_
    refine Go.Sl.L.pu rfl rfl trivial (pu_assign rfl) ?_
    refine Go.Sl.L.nil ?_
    refine Gs.then_n ?_
    refine Gs.reg ?_
    refine Go.Sl.L.pu rfl rfl trivial (pu_move rfl) ?_
    refine Go.Sl.L.pu rfl rfl trivial (pu_move rfl) ?_
    refine Go.Sl.L.pu rfl rfl trivial (pu_move rfl) ?_
    refine Go.Sl.L.pu rfl rfl trivial (pu_move rfl) ?_
    refine Go.Sl.L.pu rfl rfl trivial (pu_ia se_42 rfl rfl (by omega) (by omega)) ?_
    refine Go.Sl.L.pu rfl rfl trivial (pu_fa fa_66_1 rfl) ?_
    refine Go.Sl.L.rd rfl rfl trivial (rd_ld na_64 rfl (Rdc.elp 1 (SlH.own (xs := qs) (E := 66) (enc := postC) (sz := 3) (by repeat constructor)) hpq rfl rfl)) ?_
    refine Go.Sl.L.ac rfl rfl trivial (as_call (cloneI_spec hat (by omega)) (by repeat constructor) (by repeat constructor)) ?_
    rintro _ _ ⟨_, ⟨ka, kc, rfl, rfl⟩, rfl⟩
    refine Go.Sl.L.pu rfl rfl trivial (pu_ia se_42 rfl rfl (by omega) (by omega)) ?_
    refine Go.Sl.L.pu rfl rfl trivial (pu_fa fa_66_1 rfl) ?_
    refine Go.Sl.L.ac0 rfl trivial (ac_stE (enc := postC) (xs := qs) (i := i) (x0 := p) (y0 := ⟨p.k, ⟨ka, p.t.xs, kc⟩⟩) (vs := [.slice ka p.t.xs.length kc]) (fo := 2) sz_64 ek_66 rfl rfl (by repeat constructor) rfl rfl rfl hpq rfl rfl) ?_
    rintro _ _ rfl
    refine Go.Sl.L.nil ?_
    have hset : ((qs.set i ⟨p.k, ⟨ka, p.t.xs, kc⟩⟩).take (i + 1)).map atO = (qs.take i).map atO ++ [atO ⟨p.k, ⟨ka, p.t.xs, kc⟩⟩] := by
      rw [List.take_add_one, List.getElem?_set_self (by omega), List.take_set_of_le (Nat.le_refl _), List.map_append]; rfl
    refine Gs.takes (As := [atO ⟨p.k, ⟨ka, p.t.xs, kc⟩⟩, big ((qs.take i).map atO)]) (by repeat constructor) (Gs.bigBack take_snoc ?_)
    rw [← hset]
    have k1 : plain1 (qs.set i ⟨p.k, ⟨ka, p.t.xs, kc⟩⟩) = plain1 ps := by
      rw [← hq]
      show (qs.set i _).map PostV.p = qs.map PostV.p
      rw [List.map_set]
      refine List.ext_getElem? fun j => ?_
      by_cases hj : i = j
      · subst hj; rw [List.getElem?_set_self (by simp; omega), List.getElem?_map, hpq]; rfl
      · rw [List.getElem?_set_ne hj]
    have k2 : (qs.set i ⟨p.k, ⟨ka, p.t.xs, kc⟩⟩).drop (i + 1) = ps.drop (i + 1) := by rw [List.drop_set_of_lt (by omega), ← List.drop_drop, hd, List.drop_drop]
    refine Gs.blk_n ?_
    refine Gs.then_n ?_
    refine Gs.reg ?_
    refine Go.Sl.L.pu rfl rfl trivial (by first | exact pu_addI rfl rfl rfl (by omega) (by omega) | exact pu_add rfl rfl) ?_
    refine Go.Sl.L.pu rfl rfl trivial (pu_move rfl) ?_
    refine Go.Sl.L.nil ?_
    refine Gs.then_n ?_
    exact Gs.again1 (i + 1, qs.set i ⟨p.k, ⟨ka, p.t.xs, kc⟩⟩) ⟨hlt, k1, k2⟩ (by show ps.length - (i + 1) < ps.length - i; omega) (by repeat constructor) (by repeat constructor)
  · skip
    have hge : i = ps.length := by have := of_decide_eq_false hc0; omega
    rw [List.take_of_length_le (by omega)]
    refine Gs.exit ?_
    refine Gs.then_x ?_
    refine Gs.then_x ?_
    refine Gs.blk_hit ?_
    refine Gs.then_n ?_
    refine Gs.seq ?_
    refine Gs.reg ?_
    refine Go.Sl.L.pu rfl rfl trivial (pu_move rfl) ?_
    refine Go.Sl.L.pu rfl rfl trivial (pu_assign rfl) ?_
    refine Go.Sl.L.nil ?_
    refine Gs.then_n ?_
    refine Gs.ret ?_
    refine Gs.takes (As := [sl 66 3 postC na nc qs, big (qs.map atO)]) (by repeat constructor) (Gs.toTwo ?_)
    exact Gs.fin1 Tryz.results37 rfl _ (⟨na, nc, qs, by rw [hql], hq, rfl⟩) (by repeat constructor)
theorem orderK_spec (a k : Key) : Ct Tryz.prog 42 [keyV a, keyV k] [] (fun v hs => v = int (ordZ a k) ∧ hs = []) := by
  refine Ct.intro Tryz.func42 rfl (by kernel_rfl) 13 Tryz.ntmps42 (Nat.le_of_ble_eq_true rfl) fun w0 R => ?_
  refine Gs.seq ?_
  refine Gs.reg ?_
  refine Go.Sl.L.ac rfl rfl trivial (ac_box rfl rfl) ?_
  rintro _ _ ⟨pb, rfl, rfl⟩
  refine Go.Sl.L.ac rfl rfl trivial (ac_box rfl rfl) ?_
  rintro _ _ ⟨kb, rfl, rfl⟩
  refine Go.Sl.L.pu rfl rfl trivial (pu_assign rfl) ?_
  refine Go.Sl.L.nil ?_
  refine Gs.then_n ?_
  refine Gs.seq ?_
  refine Gs.block ?_
  refine Gs.seq ?_
  refine Gs.reg ?_
  refine Go.Sl.L.rd rfl rfl trivial (rd_lda ag_31 rfl (Rdc.cl 2 (by repeat constructor) rfl) rfl) ?_
  refine Go.Sl.L.rd rfl rfl trivial (rd_lda ag_31 rfl (Rdc.cl 2 (by repeat constructor) rfl) rfl) ?_
  refine Go.Sl.L.ac rfl rfl trivial (as_call (beforeR_spec a k) (by repeat constructor) (by repeat constructor)) ?_
  rintro _ _ ⟨_, ⟨rfl, rfl⟩, rfl⟩
  refine Go.Sl.L.pu rfl rfl trivial (pu_assign rfl) ?_
  refine Go.Sl.L.nil ?_
  refine Gs.then_n ?_
  refine Gs.cond rfl (fun hc0 => ?_) (fun hc0 => ?_)
  · skip
    refine Gs.seq ?_
    refine Gs.reg ?_
    refine Go.Sl.L.pu rfl rfl trivial (pu_assign rfl) ?_
    refine Go.Sl.L.nil ?_
    refine Gs.then_n ?_
    refine Gs.ret ?_
    refine Gs.blk_r ?_
    refine Gs.then_r ?_
    exact Gs.fin1 Tryz.results42 rfl _ (⟨by simp [ordZ, hc0], rfl⟩) (by repeat constructor)
  · skip
    refine Gs.seq ?_
    refine Gs.reg ?_
    refine Go.Sl.L.rd rfl rfl trivial (rd_lda ag_31 rfl (Rdc.cl 2 (by repeat constructor) rfl) rfl) ?_
    refine Go.Sl.L.rd rfl rfl trivial (rd_lda ag_31 rfl (Rdc.cl 2 (by repeat constructor) rfl) rfl) ?_
    refine Go.Sl.L.ac rfl rfl trivial (as_call (beforeR_spec k a) (by repeat constructor) (by repeat constructor)) ?_
    rintro _ _ ⟨_, ⟨rfl, rfl⟩, rfl⟩
    refine Go.Sl.L.pu rfl rfl trivial (pu_assign rfl) ?_
    refine Go.Sl.L.nil ?_
    refine Gs.then_n ?_
    refine Gs.cond rfl (fun hc1 => ?_) (fun hc1 => ?_)
    · skip
      refine Gs.seq ?_
      refine Gs.reg ?_
      refine Go.Sl.L.pu rfl rfl trivial (pu_assign rfl) ?_
      refine Go.Sl.L.nil ?_
      refine Gs.then_n ?_
      refine Gs.ret ?_
      refine Gs.blk_r ?_
      refine Gs.then_r ?_
      exact Gs.fin1 Tryz.results42 rfl _ (⟨by simp [ordZ, hc0, hc1], rfl⟩) (by repeat constructor)
    · skip
      refine Gs.skip ?_
      refine Gs.blk_n ?_
      refine Gs.then_n ?_
      refine Gs.seq ?_
      refine Gs.reg ?_
      refine Go.Sl.L.pu rfl rfl trivial (pu_assign rfl) ?_
      refine Go.Sl.L.nil ?_
      refine Gs.then_n ?_
      refine Gs.ret ?_
      exact Gs.fin1 Tryz.results42 rfl _ (⟨by simp [ordZ, hc0, hc1], rfl⟩) (by repeat constructor)
/-- The list of a word. -/
def lisT (L : List (ByteArray × SlV PostV)) (w : ByteArray) : SlV PostV := (mget L w).getD slZ
theorem lisT_rd {S : HProp} {L : List (ByteArray × SlV PostV)} (h : RdL S L) (w : ByteArray) : PRd S (lisT L w).a (lisT L w).xs ∧ (lisT L w).xs.length ≤ 1000 := by
  unfold lisT
  cases hm : mget L w with
  | none => exact ⟨⟨fun _ _ _ _ _ _ hne => (hne rfl).elim, fun _ hp => by cases hp⟩, Nat.zero_le _⟩
  | some s => exact h (w, s) (mget_mem hm)
theorem word_spec (x : Nat) (L : List (ByteArray × SlV PostV)) (W : List (Key × SlV ByteArray)) (w : ByteArray) :
    Ct Tryz.prog 15 [ptr x, .string w] [ixA x L W] (fun v hs => ∃ a' c' qs, v = .slice a' qs.length c' ∧ plain1 qs = plain1 (lisT L w).xs ∧ hs = [ixA x L W, plO a' c' qs]) := by
  refine Ct.intro Tryz.func15 rfl (by kernel_rfl) 14 Tryz.ntmps15 (Nat.le_of_ble_eq_true rfl) fun w0 R => ?_
  refine Gs.ix fun ml mw S hL hW => ?_
  refine Gs.seq ?_
  refine Gs.reg ?_
  refine Go.Sl.L.pu rfl rfl trivial (pu_assign rfl) ?_
  refine Go.Sl.L.nil ?_
  refine Gs.then_n ?_
  refine Gs.seq ?_
  refine Gs.seq ?_
  refine Gs.reg ?_
  refine Go.Sl.L.pu rfl rfl trivial (pu_move rfl) ?_
  refine Go.Sl.L.pu rfl rfl trivial (pu_eqN Tryz.underlying25 rfl rfl) ?_
  refine Go.Sl.L.nil ?_
  refine Gs.then_n ?_
  refine Gs.cond_ff rfl rfl ?_
  refine Gs.skip ?_
  refine Gs.then_n ?_
  refine Gs.seq ?_
  refine Gs.reg ?_
  refine Go.Sl.L.pu rfl rfl trivial (pu_move rfl) ?_
  refine Go.Sl.L.pu rfl rfl trivial (by first | exact pu_nil rfl | exact pu_nilF rfl) ?_
  refine Go.Sl.L.pu rfl rfl trivial (pu_fa fa_72_0 rfl) ?_
  refine Go.Sl.L.rd rfl rfl trivial (rd_ld na_69 rfl (Rdc.cl1 (by repeat constructor) rfl)) ?_
  refine Go.Sl.L.pu rfl rfl trivial (pu_move rfl) ?_
  refine Go.Sl.L.rd rfl rfl trivial (rd_look1 Tryz.underlying69 kt_9 zvk_42 rfl rfl (by repeat constructor)) ?_
  refine Go.Sl.L.ac rfl rfl trivial (as_call (ownI_spec (lisT_rd hL w).1 (lisT_rd hL w).2) (by repeat constructor) (by repeat constructor)) ?_
  rintro _ _ ⟨_, ⟨na, nc, qs, rfl, hq, rfl⟩, rfl⟩
  refine Go.Sl.L.pu rfl rfl trivial (pu_assign rfl) ?_
  refine Go.Sl.L.nil ?_
  refine Gs.then_n ?_
  refine Gs.ret ?_
  refine Gs.takes (As := [cl x 72 [.map (some ml), .map (some mw)], mp strV slV ml L, mp keyV slV mw W, S]) (by repeat constructor) (Gs.ixc hL hW ?_)
  exact Gs.fin1 Tryz.results15 rfl _ (⟨na, nc, qs, rfl, hq, rfl⟩) (by repeat constructor)
theorem wordN_spec (w : ByteArray) : Ct Tryz.prog 15 [.pointer none, .string w] [] (fun v hs => v = .slice none 0 0 ∧ hs = []) := by
  refine Ct.intro Tryz.func15 rfl (by kernel_rfl) 14 Tryz.ntmps15 (Nat.le_of_ble_eq_true rfl) fun w0 R => ?_
  refine Gs.seq ?_
  refine Gs.reg ?_
  refine Go.Sl.L.pu rfl rfl trivial (pu_assign rfl) ?_
  refine Go.Sl.L.nil ?_
  refine Gs.then_n ?_
  refine Gs.seq ?_
  refine Gs.seq ?_
  refine Gs.reg ?_
  refine Go.Sl.L.pu rfl rfl trivial (pu_move rfl) ?_
  refine Go.Sl.L.pu rfl rfl trivial (pu_eqN Tryz.underlying25 rfl rfl) ?_
  refine Go.Sl.L.nil ?_
  refine Gs.then_n ?_
  refine Gs.cond_tt rfl rfl ?_
  refine Gs.seq ?_
  refine Gs.reg ?_
  refine Go.Sl.L.pu rfl rfl trivial (pu_assign rfl) ?_
  refine Go.Sl.L.nil ?_
  refine Gs.then_n ?_
  refine Gs.ret ?_
  refine Gs.then_r ?_
  exact Gs.fin1 Tryz.results15 rfl _ (⟨rfl, rfl⟩) (by repeat constructor)
end Go.Proofs.YtmbikfojljnnkaaGreatDoor
