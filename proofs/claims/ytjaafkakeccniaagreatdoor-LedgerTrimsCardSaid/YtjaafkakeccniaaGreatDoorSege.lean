/- Walks: segment's reading (body.entry). -/
import Derived.Test.YtjaafkakeccniaaGreatDoorSegr
namespace Go.Proofs.YtjaafkakeccniaaGreatDoor
open Go Go.Sl Go.Gv
set_option maxRecDepth 100000
/-- What of a frame's body came of it. -/
def EntRes (k : Nat) (bs : List UInt8) (e : EntP) (rl : Nat) (bad : Bool) : Prop :=
  (readEn k bs = some e ∧ bad = false ∧ rl = 0) ∨ (readEn k bs = none ∧ (bad = true ∨ 0 < rl ∨ ∀ n, mayE e n = false))
abbrev noI : SlV Int := ⟨none, [], 0⟩
theorem readR_le {x : List UInt8} {r : Rec} {m : Nat} (h : readR x = some (r, m)) : m ≤ x.length := by
  unfold readR at h
  split at h
  · cases h
  · split at h
    · cases h
    · dsimp only at h
      split at h
      · cases h; omega
      · cases h
section
variable {w0 : World} {n : Nat} {env : Env} {H : List HProp} {X : Act → World → Prop}
theorem Gs.entNil {k : Int} {r : Rec} (g : Gs w0 n env (entO ⟨k, noI, noI, r⟩ :: H) X) : Gs w0 n env H X :=
  Gs.slNil 3 1 intC (Gs.slNil 3 1 intC (Gs.toTwo g))
theorem Gs.entV' {k : Int} {a : Option Addr} {c : Nat} {v : List Int} {r : Rec} {H' : List HProp} (t : Take (sl 3 1 intC a c v) H H') (g : Gs w0 n env (entO ⟨k, ⟨a, v, c⟩, noI, r⟩ :: H') X) : Gs w0 n env H X :=
  Gs.slNil 3 1 intC (Gs.takes (As := [sl 3 1 intC a c v, sl 3 1 intC none 0 []]) (.cons (.tl t) (.cons .hd .nil)) (Gs.toTwo g))
theorem Gs.entW' {k : Int} {a : Option Addr} {c : Nat} {v : List Int} {r : Rec} {H' : List HProp} (t : Take (sl 3 1 intC a c v) H H') (g : Gs w0 n env (entO ⟨k, noI, ⟨a, v, c⟩, r⟩ :: H') X) : Gs w0 n env H X :=
  Gs.slNil 3 1 intC (Gs.takes (As := [sl 3 1 intC none 0 [], sl 3 1 intC a c v]) (.cons .hd (.cons t .nil)) (Gs.toTwo g))
theorem Gs.entVW {k : Int} {a b : Option Addr} {c d : Nat} {v w : List Int} {r : Rec} {H' : List HProp} (t : Takes [sl 3 1 intC a c v, sl 3 1 intC b d w] H H') (g : Gs w0 n env (entO ⟨k, ⟨a, v, c⟩, ⟨b, w, d⟩, r⟩ :: H') X) : Gs w0 n env H X :=
  Gs.takes (As := [sl 3 1 intC a c v, sl 3 1 intC b d w]) t (Gs.toTwo g)
end
theorem may_zero {k : Int} (h1 : k ≠ 1) (h3 : k ≠ 3) (h2 : k ≠ 2) (e : EntP) (he : e.kind = k) (n : Int) : mayE e n = false := may_none (by omega) (by omega) (by omega)
theorem entry_spec {p : Nat} {S Tx : HProp} {a : Option Addr} {c : Nat} {bs : List UInt8} (hS : Srd S 1 byteC a bs) (hT : RMs Tx) (hl : bs.length ≤ 1048576) (hc : bs.length ≤ c) (k : Nat) :
    Ct Tryz.prog 82 [ptr p, int k] [cl p 131 (bodyC a bs.length c false), S, Tx]
      (fun v hs => ∃ e ra rl rc bad, v = entV e ∧ EntRes k bs e.p rl bad ∧ hs = [cl p 131 (bodyC ra rl rc bad), S, Tx, entO e]) := by
  by_cases h1 : k = 1
  · subst h1
    cases hv : readV bs with
    | none =>
      have hen : readEn 1 bs = none := by unfold readEn; rw [if_pos rfl, hv]
      refine Ct.intro Tryz.func82 rfl (by kernel_rfl) 58 Tryz.ntmps82 (Nat.le_of_ble_eq_true rfl) fun w0 R => ?_
      refine Gs.seq ?_
      refine Gs.reg ?_
      refine Go.Sl.L.ac rfl rfl trivial (ac_alloc zv_43 rfl) ?_
      rintro _ _ ⟨b4, rfl, rfl⟩
      refine Go.Sl.L.nil ?_
      refine Gs.then_n ?_
      refine Gs.seq ?_
      refine Gs.reg ?_
      refine Go.Sl.L.pu rfl rfl trivial (pu_move rfl) ?_
      refine Go.Sl.L.pu rfl rfl trivial (pu_build bd_43 (by repeat constructor) rfl) ?_
      refine Go.Sl.L.ac rfl rfl trivial (ac_alloc zv_43 rfl) ?_
      rintro _ _ ⟨b5, rfl, rfl⟩
      refine Go.Sl.L.ac0 rfl trivial (ac_st sz_43 rfl rfl (by repeat constructor) rfl rfl rfl rfl) ?_
      rintro _ _ rfl
      refine Go.Sl.L.nil ?_
      refine Gs.then_n ?_
      refine Gs.seq ?_
      refine Gs.seq ?_
      refine Gs.reg ?_
      refine Go.Sl.L.pu rfl rfl trivial (pu_move rfl) ?_
      refine Go.Sl.L.nil ?_
      refine Gs.then_n ?_
      refine Gs.block ?_
      refine Gs.seq ?_
      refine Gs.reg ?_
      refine Go.Sl.L.pu rfl rfl trivial (pu_eq rfl rfl) ?_
      refine Go.Sl.L.pu rfl rfl trivial (pu_assign rfl) ?_
      refine Go.Sl.L.nil ?_
      refine Gs.then_n ?_
      refine Gs.cond_tt rfl rfl ?_
      refine Gs.seq ?_
      refine Gs.reg ?_
      refine Go.Sl.L.pu rfl rfl trivial (pu_move rfl) ?_
      refine Go.Sl.L.ac rfl rfl trivial (as_call (vecB_none hS hl hv) (by repeat constructor) (by repeat constructor)) ?_
      rintro _ _ ⟨_, ⟨rfl, rfl⟩, rfl⟩
      refine Go.Sl.L.pu rfl rfl trivial (pu_fa fa_43_1 rfl) ?_
      refine Go.Sl.L.ac0 rfl trivial (ac_st sz_23 rfl rfl (by repeat constructor) rfl rfl rfl rfl) ?_
      rintro _ _ rfl
      refine Go.Sl.L.nil ?_
      refine Gs.then_n ?_
      refine Gs.seq ?_
      refine Gs.reg ?_
      refine Go.Sl.L.pu rfl rfl trivial (pu_move rfl) ?_
      refine Go.Sl.L.pu rfl rfl trivial (by first | exact pu_nil rfl | exact pu_nilF rfl) ?_
      refine Go.Sl.L.pu rfl rfl trivial (pu_fa fa_131_1 rfl) ?_
      refine Go.Sl.L.rd rfl rfl trivial (rd_ld na_4 rfl (Rdc.cl1 (by repeat constructor) rfl)) ?_
      refine Go.Sl.L.pu rfl rfl trivial (pu_not rfl) ?_
      refine Go.Sl.L.nil ?_
      refine Gs.then_n ?_
      refine Gs.cond_ff rfl rfl ?_
      refine Gs.skip ?_
      refine Gs.blk_n ?_
      refine Gs.then_n ?_
      refine Gs.seq ?_
      refine Gs.reg ?_
      refine Go.Sl.L.rd rfl rfl trivial (rd_lda ag_43 rfl (Rdc.cl 8 (by repeat constructor) rfl) rfl) ?_
      refine Go.Sl.L.ac0 rfl trivial (ac_st sz_43 rfl rfl (by repeat constructor) rfl rfl rfl rfl) ?_
      rintro _ _ rfl
      refine Go.Sl.L.nil ?_
      refine Gs.then_n ?_
      refine Gs.ret ?_
      refine Gs.entNil (k := 1) (r := Rec.zero) ?_
      exact Gs.finc1 Tryz.results82 ag_43 rfl (Rdc.cl 8 (by repeat constructor) rfl) rfl _ (⟨⟨1, noI, noI, Rec.zero⟩, _, _, _, _, rfl, .inr ⟨hen, .inl rfl⟩, rfl⟩) (by repeat constructor)
    | some y =>
      obtain ⟨v, l⟩ := y
      obtain ⟨hne, hcn, -, hr⟩ := readV_some hv
      have hll : l.length ≤ 1048576 := by rw [hr, List.length_drop]; omega
      cases hw : readV l with
      | none =>
        have hen : readEn 1 bs = none := by unfold readEn; rw [if_pos rfl, hv]; simp only [hw]
        refine Ct.intro Tryz.func82 rfl (by kernel_rfl) 58 Tryz.ntmps82 (Nat.le_of_ble_eq_true rfl) fun w0 R => ?_
        refine Gs.seq ?_
        refine Gs.reg ?_
        refine Go.Sl.L.ac rfl rfl trivial (ac_alloc zv_43 rfl) ?_
        rintro _ _ ⟨b4, rfl, rfl⟩
        refine Go.Sl.L.nil ?_
        refine Gs.then_n ?_
        refine Gs.seq ?_
        refine Gs.reg ?_
        refine Go.Sl.L.pu rfl rfl trivial (pu_move rfl) ?_
        refine Go.Sl.L.pu rfl rfl trivial (pu_build bd_43 (by repeat constructor) rfl) ?_
        refine Go.Sl.L.ac rfl rfl trivial (ac_alloc zv_43 rfl) ?_
        rintro _ _ ⟨b5, rfl, rfl⟩
        refine Go.Sl.L.ac0 rfl trivial (ac_st sz_43 rfl rfl (by repeat constructor) rfl rfl rfl rfl) ?_
        rintro _ _ rfl
        refine Go.Sl.L.nil ?_
        refine Gs.then_n ?_
        refine Gs.seq ?_
        refine Gs.seq ?_
        refine Gs.reg ?_
        refine Go.Sl.L.pu rfl rfl trivial (pu_move rfl) ?_
        refine Go.Sl.L.nil ?_
        refine Gs.then_n ?_
        refine Gs.block ?_
        refine Gs.seq ?_
        refine Gs.reg ?_
        refine Go.Sl.L.pu rfl rfl trivial (pu_eq rfl rfl) ?_
        refine Go.Sl.L.pu rfl rfl trivial (pu_assign rfl) ?_
        refine Go.Sl.L.nil ?_
        refine Gs.then_n ?_
        refine Gs.cond_tt rfl rfl ?_
        refine Gs.seq ?_
        refine Gs.reg ?_
        refine Go.Sl.L.pu rfl rfl trivial (pu_move rfl) ?_
        refine Go.Sl.L.ac rfl rfl trivial (as_call (vecB_some hS hl hc hv) (by repeat constructor) (by repeat constructor)) ?_
        rintro _ _ ⟨_, ⟨va, vc, ra, rc, rfl, ⟨hS2, hc2⟩, rfl⟩, rfl⟩
        refine Go.Sl.L.pu rfl rfl trivial (pu_fa fa_43_1 rfl) ?_
        refine Go.Sl.L.ac0 rfl trivial (ac_st sz_23 rfl rfl (by repeat constructor) rfl rfl rfl rfl) ?_
        rintro _ _ rfl
        refine Go.Sl.L.nil ?_
        refine Gs.then_n ?_
        refine Gs.seq ?_
        refine Gs.reg ?_
        refine Go.Sl.L.pu rfl rfl trivial (pu_move rfl) ?_
        refine Go.Sl.L.pu rfl rfl trivial (by first | exact pu_nil rfl | exact pu_nilF rfl) ?_
        refine Go.Sl.L.pu rfl rfl trivial (pu_fa fa_131_1 rfl) ?_
        refine Go.Sl.L.rd rfl rfl trivial (rd_ld na_4 rfl (Rdc.cl1 (by repeat constructor) rfl)) ?_
        refine Go.Sl.L.pu rfl rfl trivial (pu_not rfl) ?_
        refine Go.Sl.L.nil ?_
        refine Gs.then_n ?_
        refine Gs.cond_tt rfl rfl ?_
        refine Gs.reg ?_
        refine Go.Sl.L.pu rfl rfl trivial (pu_move rfl) ?_
        refine Go.Sl.L.ac rfl rfl trivial (as_call (vecB_none hS2 hll hw) (by repeat constructor) (by repeat constructor)) ?_
        rintro _ _ ⟨_, ⟨rfl, rfl⟩, rfl⟩
        refine Go.Sl.L.pu rfl rfl trivial (pu_fa fa_43_2 rfl) ?_
        refine Go.Sl.L.ac0 rfl trivial (ac_st sz_23 rfl rfl (by repeat constructor) rfl rfl rfl rfl) ?_
        rintro _ _ rfl
        refine Go.Sl.L.nil ?_
        refine Gs.blk_n ?_
        refine Gs.then_n ?_
        refine Gs.seq ?_
        refine Gs.reg ?_
        refine Go.Sl.L.rd rfl rfl trivial (rd_lda ag_43 rfl (Rdc.cl 8 (by repeat constructor) rfl) rfl) ?_
        refine Go.Sl.L.ac0 rfl trivial (ac_st sz_43 rfl rfl (by repeat constructor) rfl rfl rfl rfl) ?_
        rintro _ _ rfl
        refine Go.Sl.L.nil ?_
        refine Gs.then_n ?_
        refine Gs.ret ?_
        refine Gs.entV' (k := 1) (r := Rec.zero) (a := va) (c := vc) (v := v) (by repeat constructor) ?_
        exact Gs.finc1 Tryz.results82 ag_43 rfl (Rdc.cl 8 (by repeat constructor) rfl) rfl _ (⟨⟨1, ⟨va, v, vc⟩, noI, Rec.zero⟩, _, _, _, _, rfl, .inr ⟨hen, .inl rfl⟩, rfl⟩) (by repeat constructor)
      | some z =>
        obtain ⟨w, m⟩ := z
        have hres : ∀ e : EntP, e = ⟨1, v, w, Rec.zero⟩ → EntRes 1 bs e m.length false := fun e he => by
          cases m with
          | nil => exact .inl ⟨by unfold readEn; rw [if_pos rfl, hv]; simp only [hw, he], rfl, rfl⟩
          | cons b m => exact .inr ⟨by unfold readEn; rw [if_pos rfl, hv]; simp only [hw], .inr (.inl (by simp))⟩
        refine Ct.intro Tryz.func82 rfl (by kernel_rfl) 58 Tryz.ntmps82 (Nat.le_of_ble_eq_true rfl) fun w0 R => ?_
        refine Gs.seq ?_
        refine Gs.reg ?_
        refine Go.Sl.L.ac rfl rfl trivial (ac_alloc zv_43 rfl) ?_
        rintro _ _ ⟨b4, rfl, rfl⟩
        refine Go.Sl.L.nil ?_
        refine Gs.then_n ?_
        refine Gs.seq ?_
        refine Gs.reg ?_
        refine Go.Sl.L.pu rfl rfl trivial (pu_move rfl) ?_
        refine Go.Sl.L.pu rfl rfl trivial (pu_build bd_43 (by repeat constructor) rfl) ?_
        refine Go.Sl.L.ac rfl rfl trivial (ac_alloc zv_43 rfl) ?_
        rintro _ _ ⟨b5, rfl, rfl⟩
        refine Go.Sl.L.ac0 rfl trivial (ac_st sz_43 rfl rfl (by repeat constructor) rfl rfl rfl rfl) ?_
        rintro _ _ rfl
        refine Go.Sl.L.nil ?_
        refine Gs.then_n ?_
        refine Gs.seq ?_
        refine Gs.seq ?_
        refine Gs.reg ?_
        refine Go.Sl.L.pu rfl rfl trivial (pu_move rfl) ?_
        refine Go.Sl.L.nil ?_
        refine Gs.then_n ?_
        refine Gs.block ?_
        refine Gs.seq ?_
        refine Gs.reg ?_
        refine Go.Sl.L.pu rfl rfl trivial (pu_eq rfl rfl) ?_
        refine Go.Sl.L.pu rfl rfl trivial (pu_assign rfl) ?_
        refine Go.Sl.L.nil ?_
        refine Gs.then_n ?_
        refine Gs.cond_tt rfl rfl ?_
        refine Gs.seq ?_
        refine Gs.reg ?_
        refine Go.Sl.L.pu rfl rfl trivial (pu_move rfl) ?_
        refine Go.Sl.L.ac rfl rfl trivial (as_call (vecB_some hS hl hc hv) (by repeat constructor) (by repeat constructor)) ?_
        rintro _ _ ⟨_, ⟨va, vc, ra, rc, rfl, ⟨hS2, hc2⟩, rfl⟩, rfl⟩
        refine Go.Sl.L.pu rfl rfl trivial (pu_fa fa_43_1 rfl) ?_
        refine Go.Sl.L.ac0 rfl trivial (ac_st sz_23 rfl rfl (by repeat constructor) rfl rfl rfl rfl) ?_
        rintro _ _ rfl
        refine Go.Sl.L.nil ?_
        refine Gs.then_n ?_
        refine Gs.seq ?_
        refine Gs.reg ?_
        refine Go.Sl.L.pu rfl rfl trivial (pu_move rfl) ?_
        refine Go.Sl.L.pu rfl rfl trivial (by first | exact pu_nil rfl | exact pu_nilF rfl) ?_
        refine Go.Sl.L.pu rfl rfl trivial (pu_fa fa_131_1 rfl) ?_
        refine Go.Sl.L.rd rfl rfl trivial (rd_ld na_4 rfl (Rdc.cl1 (by repeat constructor) rfl)) ?_
        refine Go.Sl.L.pu rfl rfl trivial (pu_not rfl) ?_
        refine Go.Sl.L.nil ?_
        refine Gs.then_n ?_
        refine Gs.cond_tt rfl rfl ?_
        refine Gs.reg ?_
        refine Go.Sl.L.pu rfl rfl trivial (pu_move rfl) ?_
        refine Go.Sl.L.ac rfl rfl trivial (as_call (vecB_some hS2 hll hc2 hw) (by repeat constructor) (by repeat constructor)) ?_
        rintro _ _ ⟨_, ⟨wa, wc, ra2, rc2, rfl, ⟨hS3, hc3⟩, rfl⟩, rfl⟩
        refine Go.Sl.L.pu rfl rfl trivial (pu_fa fa_43_2 rfl) ?_
        refine Go.Sl.L.ac0 rfl trivial (ac_st sz_23 rfl rfl (by repeat constructor) rfl rfl rfl rfl) ?_
        rintro _ _ rfl
        refine Go.Sl.L.nil ?_
        refine Gs.blk_n ?_
        refine Gs.then_n ?_
        refine Gs.seq ?_
        refine Gs.reg ?_
        refine Go.Sl.L.rd rfl rfl trivial (rd_lda ag_43 rfl (Rdc.cl 8 (by repeat constructor) rfl) rfl) ?_
        refine Go.Sl.L.ac0 rfl trivial (ac_st sz_43 rfl rfl (by repeat constructor) rfl rfl rfl rfl) ?_
        rintro _ _ rfl
        refine Go.Sl.L.nil ?_
        refine Gs.then_n ?_
        refine Gs.ret ?_
        refine Gs.entVW (k := 1) (r := Rec.zero) (a := va) (c := vc) (v := v) (b := wa) (d := wc) (w := w) (by repeat constructor) ?_
        exact Gs.finc1 Tryz.results82 ag_43 rfl (Rdc.cl 8 (by repeat constructor) rfl) rfl _ (⟨⟨1, ⟨va, v, vc⟩, ⟨wa, w, wc⟩, Rec.zero⟩, _, _, _, _, rfl, hres _ rfl, rfl⟩) (by repeat constructor)
  · by_cases h3 : k = 3
    · subst h3
      cases hv : readV bs with
      | none =>
        have hen : readEn 3 bs = none := by unfold readEn; rw [if_neg (by decide), if_pos rfl, hv]
        refine Ct.intro Tryz.func82 rfl (by kernel_rfl) 58 Tryz.ntmps82 (Nat.le_of_ble_eq_true rfl) fun w0 R => ?_
        refine Gs.seq ?_
        refine Gs.reg ?_
        refine Go.Sl.L.ac rfl rfl trivial (ac_alloc zv_43 rfl) ?_
        rintro _ _ ⟨b4, rfl, rfl⟩
        refine Go.Sl.L.nil ?_
        refine Gs.then_n ?_
        refine Gs.seq ?_
        refine Gs.reg ?_
        refine Go.Sl.L.pu rfl rfl trivial (pu_move rfl) ?_
        refine Go.Sl.L.pu rfl rfl trivial (pu_build bd_43 (by repeat constructor) rfl) ?_
        refine Go.Sl.L.ac rfl rfl trivial (ac_alloc zv_43 rfl) ?_
        rintro _ _ ⟨b5, rfl, rfl⟩
        refine Go.Sl.L.ac0 rfl trivial (ac_st sz_43 rfl rfl (by repeat constructor) rfl rfl rfl rfl) ?_
        rintro _ _ rfl
        refine Go.Sl.L.nil ?_
        refine Gs.then_n ?_
        refine Gs.seq ?_
        refine Gs.seq ?_
        refine Gs.reg ?_
        refine Go.Sl.L.pu rfl rfl trivial (pu_move rfl) ?_
        refine Go.Sl.L.nil ?_
        refine Gs.then_n ?_
        refine Gs.block ?_
        refine Gs.seq ?_
        refine Gs.reg ?_
        refine Go.Sl.L.pu rfl rfl trivial (pu_eq rfl rfl) ?_
        refine Go.Sl.L.pu rfl rfl trivial (pu_assign rfl) ?_
        refine Go.Sl.L.nil ?_
        refine Gs.then_n ?_
        refine Gs.cond_ff rfl rfl ?_
        refine Gs.seq ?_
        refine Gs.reg ?_
        refine Go.Sl.L.pu rfl rfl trivial (pu_eq rfl rfl) ?_
        refine Go.Sl.L.pu rfl rfl trivial (pu_assign rfl) ?_
        refine Go.Sl.L.nil ?_
        refine Gs.then_n ?_
        refine Gs.cond_tt rfl rfl ?_
        refine Gs.reg ?_
        refine Go.Sl.L.pu rfl rfl trivial (pu_move rfl) ?_
        refine Go.Sl.L.ac rfl rfl trivial (as_call (vecB_none hS hl hv) (by repeat constructor) (by repeat constructor)) ?_
        rintro _ _ ⟨_, ⟨rfl, rfl⟩, rfl⟩
        refine Go.Sl.L.pu rfl rfl trivial (pu_fa fa_43_2 rfl) ?_
        refine Go.Sl.L.ac0 rfl trivial (ac_st sz_23 rfl rfl (by repeat constructor) rfl rfl rfl rfl) ?_
        rintro _ _ rfl
        refine Go.Sl.L.nil ?_
        refine Gs.blk_n ?_
        refine Gs.then_n ?_
        refine Gs.seq ?_
        refine Gs.reg ?_
        refine Go.Sl.L.rd rfl rfl trivial (rd_lda ag_43 rfl (Rdc.cl 8 (by repeat constructor) rfl) rfl) ?_
        refine Go.Sl.L.ac0 rfl trivial (ac_st sz_43 rfl rfl (by repeat constructor) rfl rfl rfl rfl) ?_
        rintro _ _ rfl
        refine Go.Sl.L.nil ?_
        refine Gs.then_n ?_
        refine Gs.ret ?_
        refine Gs.entNil (k := 3) (r := Rec.zero) ?_
        exact Gs.finc1 Tryz.results82 ag_43 rfl (Rdc.cl 8 (by repeat constructor) rfl) rfl _ (⟨⟨3, noI, noI, Rec.zero⟩, _, _, _, _, rfl, .inr ⟨hen, .inl rfl⟩, rfl⟩) (by repeat constructor)
      | some y =>
        obtain ⟨w, m⟩ := y
        have hres : ∀ e : EntP, e = ⟨3, [], w, Rec.zero⟩ → EntRes 3 bs e m.length false := fun e he => by
          cases m with
          | nil => exact .inl ⟨by unfold readEn; rw [if_neg (by decide), if_pos rfl, hv]; simp only [he], rfl, rfl⟩
          | cons b m => exact .inr ⟨by unfold readEn; rw [if_neg (by decide), if_pos rfl, hv], .inr (.inl (by simp))⟩
        refine Ct.intro Tryz.func82 rfl (by kernel_rfl) 58 Tryz.ntmps82 (Nat.le_of_ble_eq_true rfl) fun w0 R => ?_
        refine Gs.seq ?_
        refine Gs.reg ?_
        refine Go.Sl.L.ac rfl rfl trivial (ac_alloc zv_43 rfl) ?_
        rintro _ _ ⟨b4, rfl, rfl⟩
        refine Go.Sl.L.nil ?_
        refine Gs.then_n ?_
        refine Gs.seq ?_
        refine Gs.reg ?_
        refine Go.Sl.L.pu rfl rfl trivial (pu_move rfl) ?_
        refine Go.Sl.L.pu rfl rfl trivial (pu_build bd_43 (by repeat constructor) rfl) ?_
        refine Go.Sl.L.ac rfl rfl trivial (ac_alloc zv_43 rfl) ?_
        rintro _ _ ⟨b5, rfl, rfl⟩
        refine Go.Sl.L.ac0 rfl trivial (ac_st sz_43 rfl rfl (by repeat constructor) rfl rfl rfl rfl) ?_
        rintro _ _ rfl
        refine Go.Sl.L.nil ?_
        refine Gs.then_n ?_
        refine Gs.seq ?_
        refine Gs.seq ?_
        refine Gs.reg ?_
        refine Go.Sl.L.pu rfl rfl trivial (pu_move rfl) ?_
        refine Go.Sl.L.nil ?_
        refine Gs.then_n ?_
        refine Gs.block ?_
        refine Gs.seq ?_
        refine Gs.reg ?_
        refine Go.Sl.L.pu rfl rfl trivial (pu_eq rfl rfl) ?_
        refine Go.Sl.L.pu rfl rfl trivial (pu_assign rfl) ?_
        refine Go.Sl.L.nil ?_
        refine Gs.then_n ?_
        refine Gs.cond_ff rfl rfl ?_
        refine Gs.seq ?_
        refine Gs.reg ?_
        refine Go.Sl.L.pu rfl rfl trivial (pu_eq rfl rfl) ?_
        refine Go.Sl.L.pu rfl rfl trivial (pu_assign rfl) ?_
        refine Go.Sl.L.nil ?_
        refine Gs.then_n ?_
        refine Gs.cond_tt rfl rfl ?_
        refine Gs.reg ?_
        refine Go.Sl.L.pu rfl rfl trivial (pu_move rfl) ?_
        refine Go.Sl.L.ac rfl rfl trivial (as_call (vecB_some hS hl hc hv) (by repeat constructor) (by repeat constructor)) ?_
        rintro _ _ ⟨_, ⟨wa, wc, ra, rc, rfl, ⟨hS2, hc2⟩, rfl⟩, rfl⟩
        refine Go.Sl.L.pu rfl rfl trivial (pu_fa fa_43_2 rfl) ?_
        refine Go.Sl.L.ac0 rfl trivial (ac_st sz_23 rfl rfl (by repeat constructor) rfl rfl rfl rfl) ?_
        rintro _ _ rfl
        refine Go.Sl.L.nil ?_
        refine Gs.blk_n ?_
        refine Gs.then_n ?_
        refine Gs.seq ?_
        refine Gs.reg ?_
        refine Go.Sl.L.rd rfl rfl trivial (rd_lda ag_43 rfl (Rdc.cl 8 (by repeat constructor) rfl) rfl) ?_
        refine Go.Sl.L.ac0 rfl trivial (ac_st sz_43 rfl rfl (by repeat constructor) rfl rfl rfl rfl) ?_
        rintro _ _ rfl
        refine Go.Sl.L.nil ?_
        refine Gs.then_n ?_
        refine Gs.ret ?_
        refine Gs.entW' (k := 3) (r := Rec.zero) (a := wa) (c := wc) (v := w) (by repeat constructor) ?_
        exact Gs.finc1 Tryz.results82 ag_43 rfl (Rdc.cl 8 (by repeat constructor) rfl) rfl _ (⟨⟨3, noI, ⟨wa, w, wc⟩, Rec.zero⟩, _, _, _, _, rfl, hres _ rfl, rfl⟩) (by repeat constructor)
    · by_cases h2 : k = 2
      · subst h2
        have hc0 := (recRead_spec (S := two S Tx) (Srd.two1 hS) (hT.inn Inn.two2) hl hc 0 (Nat.zero_le _)).two0
        rw [List.drop_zero] at hc0
        cases hr : readR bs with
        | none =>
          have hen : readEn 2 bs = none := by unfold readEn; rw [if_neg (by decide), if_neg (by decide), if_pos rfl, hr]
          rw [hr, show readRV 0 none = .tuple #[recV Rec.zero, int 0, .bool false] from rfl] at hc0
          refine Ct.intro Tryz.func82 rfl (by kernel_rfl) 58 Tryz.ntmps82 (Nat.le_of_ble_eq_true rfl) fun w0 R => ?_
          refine Gs.seq ?_
          refine Gs.reg ?_
          refine Go.Sl.L.ac rfl rfl trivial (ac_alloc zv_43 rfl) ?_
          rintro _ _ ⟨b4, rfl, rfl⟩
          refine Go.Sl.L.nil ?_
          refine Gs.then_n ?_
          refine Gs.seq ?_
          refine Gs.reg ?_
          refine Go.Sl.L.pu rfl rfl trivial (pu_move rfl) ?_
          refine Go.Sl.L.pu rfl rfl trivial (pu_build bd_43 (by repeat constructor) rfl) ?_
          refine Go.Sl.L.ac rfl rfl trivial (ac_alloc zv_43 rfl) ?_
          rintro _ _ ⟨b5, rfl, rfl⟩
          refine Go.Sl.L.ac0 rfl trivial (ac_st sz_43 rfl rfl (by repeat constructor) rfl rfl rfl rfl) ?_
          rintro _ _ rfl
          refine Go.Sl.L.nil ?_
          refine Gs.then_n ?_
          refine Gs.seq ?_
          refine Gs.seq ?_
          refine Gs.reg ?_
          refine Go.Sl.L.pu rfl rfl trivial (pu_move rfl) ?_
          refine Go.Sl.L.nil ?_
          refine Gs.then_n ?_
          refine Gs.block ?_
          refine Gs.seq ?_
          refine Gs.reg ?_
          refine Go.Sl.L.pu rfl rfl trivial (pu_eq rfl rfl) ?_
          refine Go.Sl.L.pu rfl rfl trivial (pu_assign rfl) ?_
          refine Go.Sl.L.nil ?_
          refine Gs.then_n ?_
          refine Gs.cond_ff rfl rfl ?_
          refine Gs.seq ?_
          refine Gs.reg ?_
          refine Go.Sl.L.pu rfl rfl trivial (pu_eq rfl rfl) ?_
          refine Go.Sl.L.pu rfl rfl trivial (pu_assign rfl) ?_
          refine Go.Sl.L.nil ?_
          refine Gs.then_n ?_
          refine Gs.cond_ff rfl rfl ?_
          refine Gs.seq ?_
          refine Gs.reg ?_
          refine Go.Sl.L.pu rfl rfl trivial (pu_eq rfl rfl) ?_
          refine Go.Sl.L.pu rfl rfl trivial (pu_assign rfl) ?_
          refine Go.Sl.L.nil ?_
          refine Gs.then_n ?_
          refine Gs.cond_tt rfl rfl ?_
          refine Gs.seq ?_
          refine Gs.reg ?_
          refine Go.Sl.L.pu rfl rfl trivial (pu_move rfl) ?_
          refine Go.Sl.L.pu rfl rfl trivial (by first | exact pu_nil rfl | exact pu_nilF rfl) ?_
          refine Go.Sl.L.pu rfl rfl trivial (pu_fa fa_131_0 rfl) ?_
          refine Go.Sl.L.rd rfl rfl trivial (rd_ld na_75 rfl (Rdc.cl1 (by repeat constructor) rfl)) ?_
          refine Go.Sl.L.ac rfl rfl trivial (as_call (hc0) (by repeat constructor) (by repeat constructor)) ?_
          rintro _ _ ⟨_, ⟨rfl, rfl⟩, rfl⟩
          refine Go.Sl.L.pu rfl rfl trivial (pu_move rfl) ?_
          refine Go.Sl.L.pu rfl rfl trivial (pu_extract rfl rfl) ?_
          refine Go.Sl.L.pu rfl rfl trivial (pu_extract rfl rfl) ?_
          refine Go.Sl.L.pu rfl rfl trivial (pu_extract rfl rfl) ?_
          refine Go.Sl.L.ac rfl rfl trivial (ac_alloc zv_41 rfl) ?_
          rintro _ _ ⟨b6, rfl, rfl⟩
          refine Go.Sl.L.ac0 rfl trivial (ac_st sz_41 rfl rfl (by repeat constructor) rfl rfl rfl rfl) ?_
          rintro _ _ rfl
          refine Go.Sl.L.pu rfl rfl trivial (pu_assign rfl) ?_
          refine Go.Sl.L.pu rfl rfl trivial (pu_assign rfl) ?_
          refine Go.Sl.L.nil ?_
          refine Gs.then_n ?_
          refine Gs.seq ?_
          refine Gs.reg ?_
          refine Go.Sl.L.pu rfl rfl trivial (pu_move rfl) ?_
          refine Go.Sl.L.rd rfl rfl trivial (rd_lda ag_41 rfl (Rdc.cl 5 (by repeat constructor) rfl) rfl) ?_
          refine Go.Sl.L.pu rfl rfl trivial (pu_move rfl) ?_
          refine Go.Sl.L.pu rfl rfl trivial (pu_not rfl) ?_
          refine Go.Sl.L.pu rfl rfl trivial (pu_fa fa_43_3 rfl) ?_
          refine Go.Sl.L.ac0 rfl trivial (ac_st sz_41 rfl rfl (by repeat constructor) rfl rfl rfl rfl) ?_
          rintro _ _ rfl
          refine Go.Sl.L.pu rfl rfl trivial (by first | exact pu_nil rfl | exact pu_nilF rfl) ?_
          refine Go.Sl.L.pu rfl rfl trivial (pu_fa fa_131_1 rfl) ?_
          refine Go.Sl.L.ac0 rfl trivial (ac_st sz_4 rfl rfl (by repeat constructor) rfl rfl rfl rfl) ?_
          rintro _ _ rfl
          refine Go.Sl.L.nil ?_
          refine Gs.then_n ?_
          refine Gs.reg ?_
          refine Go.Sl.L.pu rfl rfl trivial (pu_move rfl) ?_
          refine Go.Sl.L.pu rfl rfl trivial (pu_move rfl) ?_
          refine Go.Sl.L.pu rfl rfl trivial (by first | exact pu_nil rfl | exact pu_nilF rfl) ?_
          refine Go.Sl.L.pu rfl rfl trivial (pu_fa fa_131_0 rfl) ?_
          refine Go.Sl.L.rd rfl rfl trivial (rd_ld na_75 rfl (Rdc.cl1 (by repeat constructor) rfl)) ?_
          refine Go.Sl.L.pu rfl rfl trivial (pu_move rfl) ?_
          refine Go.Sl.L.pu rfl rfl trivial (pu_sliceL et_75 rfl rfl (by omega) (by omega)) ?_
          refine Go.Sl.L.pu rfl rfl trivial (by first | exact pu_nil rfl | exact pu_nilF rfl) ?_
          refine Go.Sl.L.pu rfl rfl trivial (pu_fa fa_131_0 rfl) ?_
          refine Go.Sl.L.ac0 rfl trivial (ac_st sz_75 rfl rfl (by repeat constructor) rfl rfl rfl rfl) ?_
          rintro _ _ rfl
          refine Go.Sl.L.nil ?_
          refine Gs.blk_n ?_
          refine Gs.then_n ?_
          refine Gs.seq ?_
          refine Gs.reg ?_
          refine Go.Sl.L.rd rfl rfl trivial (rd_lda ag_43 rfl (Rdc.cl 8 (by repeat constructor) rfl) rfl) ?_
          refine Go.Sl.L.ac0 rfl trivial (ac_st sz_43 rfl rfl (by repeat constructor) rfl rfl rfl rfl) ?_
          rintro _ _ rfl
          refine Go.Sl.L.nil ?_
          refine Gs.then_n ?_
          refine Gs.ret ?_
          refine Gs.entNil (k := 2) (r := Rec.zero) ?_
          exact Gs.finc1 Tryz.results82 ag_43 rfl (Rdc.cl 8 (by repeat constructor) rfl) rfl _ (⟨⟨2, noI, noI, Rec.zero⟩, _, _, _, _, rfl, .inr ⟨hen, .inl rfl⟩, rfl⟩) (by repeat constructor)
        | some y =>
          obtain ⟨r, m⟩ := y
          have hm := readR_le hr
          have hres : ∀ e : EntP, e = ⟨2, [], [], r⟩ → EntRes 2 bs e (bs.length - m) false := fun e he => by
            by_cases h0 : bs.length - m = 0
            · have hd : bs.drop m = [] := List.drop_eq_nil_of_le (by omega)
              exact .inl ⟨by unfold readEn; rw [if_neg (by decide), if_neg (by decide), if_pos rfl, hr]; simp only [hd, if_true, he], rfl, h0⟩
            · have hd : bs.drop m ≠ [] := fun e => by
                have := congrArg List.length e
                rw [List.length_drop, List.length_nil] at this; omega
              exact .inr ⟨by unfold readEn; rw [if_neg (by decide), if_neg (by decide), if_pos rfl, hr]; simp only [hd, if_false], .inr (.inl (by omega))⟩
          rw [hr, show readRV 0 (some (r, m)) = .tuple #[recV r, int (m : Nat), .bool true] by show Value.tuple #[recV r, int ((0 + m : Nat) : Int), .bool true] = _; rw [Nat.zero_add]] at hc0
          refine Ct.intro Tryz.func82 rfl (by kernel_rfl) 58 Tryz.ntmps82 (Nat.le_of_ble_eq_true rfl) fun w0 R => ?_
          refine Gs.seq ?_
          refine Gs.reg ?_
          refine Go.Sl.L.ac rfl rfl trivial (ac_alloc zv_43 rfl) ?_
          rintro _ _ ⟨b4, rfl, rfl⟩
          refine Go.Sl.L.nil ?_
          refine Gs.then_n ?_
          refine Gs.seq ?_
          refine Gs.reg ?_
          refine Go.Sl.L.pu rfl rfl trivial (pu_move rfl) ?_
          refine Go.Sl.L.pu rfl rfl trivial (pu_build bd_43 (by repeat constructor) rfl) ?_
          refine Go.Sl.L.ac rfl rfl trivial (ac_alloc zv_43 rfl) ?_
          rintro _ _ ⟨b5, rfl, rfl⟩
          refine Go.Sl.L.ac0 rfl trivial (ac_st sz_43 rfl rfl (by repeat constructor) rfl rfl rfl rfl) ?_
          rintro _ _ rfl
          refine Go.Sl.L.nil ?_
          refine Gs.then_n ?_
          refine Gs.seq ?_
          refine Gs.seq ?_
          refine Gs.reg ?_
          refine Go.Sl.L.pu rfl rfl trivial (pu_move rfl) ?_
          refine Go.Sl.L.nil ?_
          refine Gs.then_n ?_
          refine Gs.block ?_
          refine Gs.seq ?_
          refine Gs.reg ?_
          refine Go.Sl.L.pu rfl rfl trivial (pu_eq rfl rfl) ?_
          refine Go.Sl.L.pu rfl rfl trivial (pu_assign rfl) ?_
          refine Go.Sl.L.nil ?_
          refine Gs.then_n ?_
          refine Gs.cond_ff rfl rfl ?_
          refine Gs.seq ?_
          refine Gs.reg ?_
          refine Go.Sl.L.pu rfl rfl trivial (pu_eq rfl rfl) ?_
          refine Go.Sl.L.pu rfl rfl trivial (pu_assign rfl) ?_
          refine Go.Sl.L.nil ?_
          refine Gs.then_n ?_
          refine Gs.cond_ff rfl rfl ?_
          refine Gs.seq ?_
          refine Gs.reg ?_
          refine Go.Sl.L.pu rfl rfl trivial (pu_eq rfl rfl) ?_
          refine Go.Sl.L.pu rfl rfl trivial (pu_assign rfl) ?_
          refine Go.Sl.L.nil ?_
          refine Gs.then_n ?_
          refine Gs.cond_tt rfl rfl ?_
          refine Gs.seq ?_
          refine Gs.reg ?_
          refine Go.Sl.L.pu rfl rfl trivial (pu_move rfl) ?_
          refine Go.Sl.L.pu rfl rfl trivial (by first | exact pu_nil rfl | exact pu_nilF rfl) ?_
          refine Go.Sl.L.pu rfl rfl trivial (pu_fa fa_131_0 rfl) ?_
          refine Go.Sl.L.rd rfl rfl trivial (rd_ld na_75 rfl (Rdc.cl1 (by repeat constructor) rfl)) ?_
          refine Go.Sl.L.ac rfl rfl trivial (as_call (hc0) (by repeat constructor) (by repeat constructor)) ?_
          rintro _ _ ⟨_, ⟨rfl, rfl⟩, rfl⟩
          refine Go.Sl.L.pu rfl rfl trivial (pu_move rfl) ?_
          refine Go.Sl.L.pu rfl rfl trivial (pu_extract rfl rfl) ?_
          refine Go.Sl.L.pu rfl rfl trivial (pu_extract rfl rfl) ?_
          refine Go.Sl.L.pu rfl rfl trivial (pu_extract rfl rfl) ?_
          refine Go.Sl.L.ac rfl rfl trivial (ac_alloc zv_41 rfl) ?_
          rintro _ _ ⟨b6, rfl, rfl⟩
          refine Go.Sl.L.ac0 rfl trivial (ac_st sz_41 rfl rfl (by repeat constructor) rfl rfl rfl rfl) ?_
          rintro _ _ rfl
          refine Go.Sl.L.pu rfl rfl trivial (pu_assign rfl) ?_
          refine Go.Sl.L.pu rfl rfl trivial (pu_assign rfl) ?_
          refine Go.Sl.L.nil ?_
          refine Gs.then_n ?_
          refine Gs.seq ?_
          refine Gs.reg ?_
          refine Go.Sl.L.pu rfl rfl trivial (pu_move rfl) ?_
          refine Go.Sl.L.rd rfl rfl trivial (rd_lda ag_41 rfl (Rdc.cl 5 (by repeat constructor) rfl) rfl) ?_
          refine Go.Sl.L.pu rfl rfl trivial (pu_move rfl) ?_
          refine Go.Sl.L.pu rfl rfl trivial (pu_not rfl) ?_
          refine Go.Sl.L.pu rfl rfl trivial (pu_fa fa_43_3 rfl) ?_
          refine Go.Sl.L.ac0 rfl trivial (ac_st sz_41 rfl rfl (by repeat constructor) rfl rfl rfl rfl) ?_
          rintro _ _ rfl
          refine Go.Sl.L.pu rfl rfl trivial (by first | exact pu_nil rfl | exact pu_nilF rfl) ?_
          refine Go.Sl.L.pu rfl rfl trivial (pu_fa fa_131_1 rfl) ?_
          refine Go.Sl.L.ac0 rfl trivial (ac_st sz_4 rfl rfl (by repeat constructor) rfl rfl rfl rfl) ?_
          rintro _ _ rfl
          refine Go.Sl.L.nil ?_
          refine Gs.then_n ?_
          refine Gs.reg ?_
          refine Go.Sl.L.pu rfl rfl trivial (pu_move rfl) ?_
          refine Go.Sl.L.pu rfl rfl trivial (pu_move rfl) ?_
          refine Go.Sl.L.pu rfl rfl trivial (by first | exact pu_nil rfl | exact pu_nilF rfl) ?_
          refine Go.Sl.L.pu rfl rfl trivial (pu_fa fa_131_0 rfl) ?_
          refine Go.Sl.L.rd rfl rfl trivial (rd_ld na_75 rfl (Rdc.cl1 (by repeat constructor) rfl)) ?_
          refine Go.Sl.L.pu rfl rfl trivial (pu_move rfl) ?_
          refine Go.Sl.L.pu rfl rfl trivial (pu_sliceL et_75 rfl rfl (by omega) (by omega)) ?_
          refine Go.Sl.L.pu rfl rfl trivial (by first | exact pu_nil rfl | exact pu_nilF rfl) ?_
          refine Go.Sl.L.pu rfl rfl trivial (pu_fa fa_131_0 rfl) ?_
          refine Go.Sl.L.ac0 rfl trivial (ac_st sz_75 rfl rfl (by repeat constructor) rfl rfl rfl rfl) ?_
          rintro _ _ rfl
          refine Go.Sl.L.nil ?_
          refine Gs.blk_n ?_
          refine Gs.then_n ?_
          refine Gs.seq ?_
          refine Gs.reg ?_
          refine Go.Sl.L.rd rfl rfl trivial (rd_lda ag_43 rfl (Rdc.cl 8 (by repeat constructor) rfl) rfl) ?_
          refine Go.Sl.L.ac0 rfl trivial (ac_st sz_43 rfl rfl (by repeat constructor) rfl rfl rfl rfl) ?_
          rintro _ _ rfl
          refine Go.Sl.L.nil ?_
          refine Gs.then_n ?_
          refine Gs.ret ?_
          refine Gs.entNil (k := 2) (r := r) ?_
          exact Gs.finc1 Tryz.results82 ag_43 rfl (Rdc.cl 8 (by repeat constructor) rfl) rfl _ (⟨⟨2, noI, noI, r⟩, _, _, _, _, rfl, hres _ rfl, rfl⟩) (by repeat constructor)
      · have hen : readEn k bs = none := by unfold readEn; rw [if_neg h1, if_neg h3, if_neg h2]
        refine Ct.intro Tryz.func82 rfl (by kernel_rfl) 58 Tryz.ntmps82 (Nat.le_of_ble_eq_true rfl) fun w0 R => ?_
        refine Gs.seq ?_
        refine Gs.reg ?_
        refine Go.Sl.L.ac rfl rfl trivial (ac_alloc zv_43 rfl) ?_
        rintro _ _ ⟨b4, rfl, rfl⟩
        refine Go.Sl.L.nil ?_
        refine Gs.then_n ?_
        refine Gs.seq ?_
        refine Gs.reg ?_
        refine Go.Sl.L.pu rfl rfl trivial (pu_move rfl) ?_
        refine Go.Sl.L.pu rfl rfl trivial (pu_build bd_43 (by repeat constructor) rfl) ?_
        refine Go.Sl.L.ac rfl rfl trivial (ac_alloc zv_43 rfl) ?_
        rintro _ _ ⟨b5, rfl, rfl⟩
        refine Go.Sl.L.ac0 rfl trivial (ac_st sz_43 rfl rfl (by repeat constructor) rfl rfl rfl rfl) ?_
        rintro _ _ rfl
        refine Go.Sl.L.nil ?_
        refine Gs.then_n ?_
        refine Gs.seq ?_
        refine Gs.seq ?_
        refine Gs.reg ?_
        refine Go.Sl.L.pu rfl rfl trivial (pu_move rfl) ?_
        refine Go.Sl.L.nil ?_
        refine Gs.then_n ?_
        refine Gs.block ?_
        refine Gs.seq ?_
        refine Gs.reg ?_
        refine Go.Sl.L.pu rfl rfl trivial (pu_eq rfl rfl) ?_
        refine Go.Sl.L.pu rfl rfl trivial (pu_assign rfl) ?_
        refine Go.Sl.L.nil ?_
        refine Gs.then_n ?_
        refine Gs.cond_ff rfl (decide_eq_false (by omega)) ?_
        refine Gs.seq ?_
        refine Gs.reg ?_
        refine Go.Sl.L.pu rfl rfl trivial (pu_eq rfl rfl) ?_
        refine Go.Sl.L.pu rfl rfl trivial (pu_assign rfl) ?_
        refine Go.Sl.L.nil ?_
        refine Gs.then_n ?_
        refine Gs.cond_ff rfl (decide_eq_false (by omega)) ?_
        refine Gs.seq ?_
        refine Gs.reg ?_
        refine Go.Sl.L.pu rfl rfl trivial (pu_eq rfl rfl) ?_
        refine Go.Sl.L.pu rfl rfl trivial (pu_assign rfl) ?_
        refine Go.Sl.L.nil ?_
        refine Gs.then_n ?_
        refine Gs.cond_ff rfl (decide_eq_false (by omega)) ?_
        refine Gs.skip ?_
        refine Gs.blk_n ?_
        refine Gs.then_n ?_
        refine Gs.seq ?_
        refine Gs.reg ?_
        refine Go.Sl.L.rd rfl rfl trivial (rd_lda ag_43 rfl (Rdc.cl 8 (by repeat constructor) rfl) rfl) ?_
        refine Go.Sl.L.ac0 rfl trivial (ac_st sz_43 rfl rfl (by repeat constructor) rfl rfl rfl rfl) ?_
        rintro _ _ rfl
        refine Go.Sl.L.nil ?_
        refine Gs.then_n ?_
        refine Gs.ret ?_
        refine Gs.entNil (k := k) (r := Rec.zero) ?_
        exact Gs.finc1 Tryz.results82 ag_43 rfl (Rdc.cl 8 (by repeat constructor) rfl) rfl _ (⟨⟨k, noI, noI, Rec.zero⟩, _, _, _, _, rfl, .inr ⟨hen, .inr (.inr fun n => may_zero (k := k) (by omega) (by omega) (by omega) _ rfl n)⟩, rfl⟩) (by repeat constructor)
end Go.Proofs.YtjaafkakeccniaaGreatDoor
