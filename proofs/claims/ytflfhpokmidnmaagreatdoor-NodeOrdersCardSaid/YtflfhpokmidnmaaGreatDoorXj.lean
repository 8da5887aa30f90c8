/- What the closing leans on: part 10. -/
import Derived.Test.YtflfhpokmidnmaaGreatDoorXi
import Derived.Test.YtflfhpokmidnmaaGreatDoorXg
import Derived.Test.YtflfhpokmidnmaaGreatDoorXf
import Derived.Shelf.Strconv.Itoa3
import Derived.Shelf.Strings.Repeat
import Derived.Shelf.Strings.Prefix
import Derived.Shelf.Strconv.Atoi
import Derived.Test.YtflfhpokmidnmaaGreatDoorProg
import Derived.Test.YtflfhpokmidnmaaGreatDoorXe
import Derived.Lib.ConvBytes
namespace Go.Proofs.YtflfhpokmidnmaaGreatDoor
open Go Go.Sl Go.Gv
set_option maxRecDepth 100000
def EntRes (k : Nat) (bs : List UInt8) (e : EntP) (rl : Nat) (bad : Bool) : Prop :=
 (readEn k bs = some e ∧ bad = false ∧ rl = 0) ∨ (readEn k bs = none ∧ (bad = true ∨ 0 < rl ∨ ∀ n, mayE e n = false))
abbrev noI : SlV Int := ⟨none, [], 0⟩
theorem readR_le {x : List UInt8} {r : Rec} {m : Nat} (h : readR x = some (r, m)) : m ≤ x.length := by
 unfold readR at h
 split at h
 · cases h
 · split at h
   · cases h
   · dsimp only at h
     split at h
     · cases h; omega
     · cases h
section
variable {w0 : World} {n : Nat} {env : Env} {H : List HProp} {X : Act → World → Prop}
theorem Gs.entNil {k : Int} {r : Rec} (g : Gs w0 n env (entO ⟨k, noI, noI, r⟩ :: H) X) : Gs w0 n env H X :=
 Gs.slNil 3 1 intC (Gs.slNil 3 1 intC (Gs.toTwo g))
theorem Gs.entV' {k : Int} {a : Option Addr} {c : Nat} {v : List Int} {r : Rec} {H' : List HProp} (t : Take (sl 3 1 intC a c v) H H') (g : Gs w0 n env (entO ⟨k, ⟨a, v, c⟩, noI, r⟩ :: H') X) : Gs w0 n env H X :=
 Gs.slNil 3 1 intC (Gs.takes (As := [sl 3 1 intC a c v, sl 3 1 intC none 0 []]) (.cons (.tl t) (.cons .hd .nil)) (Gs.toTwo g))
theorem Gs.entW' {k : Int} {a : Option Addr} {c : Nat} {v : List Int} {r : Rec} {H' : List HProp} (t : Take (sl 3 1 intC a c v) H H') (g : Gs w0 n env (entO ⟨k, noI, ⟨a, v, c⟩, r⟩ :: H') X) : Gs w0 n env H X :=
 Gs.slNil 3 1 intC (Gs.takes (As := [sl 3 1 intC none 0 [], sl 3 1 intC a c v]) (.cons .hd (.cons t .nil)) (Gs.toTwo g))
theorem Gs.entVW {k : Int} {a b : Option Addr} {c d : Nat} {v w : List Int} {r : Rec} {H' : List HProp} (t : Takes [sl 3 1 intC a c v, sl 3 1 intC b d w] H H') (g : Gs w0 n env (entO ⟨k, ⟨a, v, c⟩, ⟨b, w, d⟩, r⟩ :: H') X) : Gs w0 n env H X :=
 Gs.takes (As := [sl 3 1 intC a c v, sl 3 1 intC b d w]) t (Gs.toTwo g)
end
theorem may_zero {k : Int} (h1 : k ≠ 1) (h3 : k ≠ 3) (h2 : k ≠ 2) (e : EntP) (he : e.kind = k) (n : Int) : mayE e n = false := may_none (by omega) (by omega) (by omega)
theorem entry_spec {p : Nat} {S Tx : HProp} {a : Option Addr} {c : Nat} {bs : List UInt8} (hS : Srd S 1 byteC a bs) (hT : RMs Tx) (hl : bs.length ≤ 1048576) (hc : bs.length ≤ c) (k : Nat) :
   Ct Tryz.prog 154 [ptr p, int k] [cl p 243 (bodyC a bs.length c false), S, Tx]
     (fun v hs => ∃ e ra rl rc bad, v = entV e ∧ EntRes k bs e.p rl bad ∧ hs = [cl p 243 (bodyC ra rl rc bad), S, Tx, entO e]) := by
 by_cases h1 : k = 1
 · subst h1
   cases hv : readV bs with
   | none =>
     have hen : readEn 1 bs = none := by unfold readEn; rw [if_pos rfl, hv]
     refine Cti Tryz.func154 (by kernel_rfl) 58 Tryz.ntmps154 rfl rfl fun w0 R => ?_
     refine Gsr (La rfl (ac_alloc zv_106 rfl) ?_)
     rintro _ _ ⟨b4, rfl, rfl⟩
     refine Lnt (Gsr (Lmv rfl rfl (Lq rfl (pu_build bd_106 (by repeat constructor) rfl) ?_)))
     refine La rfl (ac_alloc zv_106 rfl) ?_
     rintro _ _ ⟨b5, rfl, rfl⟩
     refine Lac0 rfl trivial (ac_st sz_106 rfl rfl (by repeat constructor) rfl rfl rfl rfl) ?_
     rintro _ _ rfl
     refine Lnt (Gs.seq (Gsr (Lmv rfl rfl (Lnt (Gs.block (Gsr (Lq rfl (pu_eq rfl rfl) (Las rfl rfl (Lnt (Gs.cond_tt rfl rfl (Gsr ?_)))))))))))
     refine Lmv rfl rfl (La rfl (asC (vecB_none hS hl hv)) ?_)
     rintro _ _ ⟨_, ⟨rfl, rfl⟩, rfl⟩
     refine Lq rfl (pu_fa fa_106_1 rfl) (Lac0 rfl trivial (ac_st sz_30 rfl rfl (by repeat constructor) rfl rfl rfl rfl) ?_)
     rintro _ _ rfl
     refine Lnt (Gsr (Lmv rfl rfl (Lq rfl (by first | exact pu_nil rfl | exact pu_nilF rfl) ?_)))
     refine Lq rfl (pu_fa fa_243_1 rfl) (Lr rfl (rd_ld na_4 rfl (Rdc.cl1 (by repeat constructor) rfl)) ?_)
     refine Lq rfl (pu_not rfl) (Lnt (Gs.cond_ff rfl rfl (Gs.skip (Gs.blk_n (Gn (Gsr (Lr rfl (rd_lda ag_106 rfl (Rdc.cl 8 (by repeat constructor) rfl) rfl) ?_)))))))
     refine Lac0 rfl trivial (ac_st sz_106 rfl rfl (by repeat constructor) rfl rfl rfl rfl) ?_
     rintro _ _ rfl
     refine Lnt (Gs.ret (Gs.entNil (k := 1) (r := Rec.zero) ?_))
     exact Gs.finc1 Tryz.results154 ag_106 rfl (Rdc.cl 8 (by repeat constructor) rfl) rfl _ (⟨⟨1, noI, noI, Rec.zero⟩, _, _, _, _, rfl, .inr ⟨hen, .inl rfl⟩, rfl⟩) (by repeat constructor)
   | some y =>
     obtain ⟨v, l⟩ := y
     obtain ⟨hne, hcn, -, hr⟩ := readV_some hv
     have hll : l.length ≤ 1048576 := by rw [hr, List.length_drop]; omega
     cases hw : readV l with
     | none =>
       have hen : readEn 1 bs = none := by unfold readEn; rw [if_pos rfl, hv]; simp only [hw]
       refine Cti Tryz.func154 (by kernel_rfl) 58 Tryz.ntmps154 rfl rfl fun w0 R => ?_
       refine Gsr (La rfl (ac_alloc zv_106 rfl) ?_)
       rintro _ _ ⟨b4, rfl, rfl⟩
       refine Lnt (Gsr (Lmv rfl rfl (Lq rfl (pu_build bd_106 (by repeat constructor) rfl) ?_)))
       refine La rfl (ac_alloc zv_106 rfl) ?_
       rintro _ _ ⟨b5, rfl, rfl⟩
       refine Lac0 rfl trivial (ac_st sz_106 rfl rfl (by repeat constructor) rfl rfl rfl rfl) ?_
       rintro _ _ rfl
       refine Lnt (Gs.seq (Gsr (Lmv rfl rfl (Lnt (Gs.block (Gsr (Lq rfl (pu_eq rfl rfl) (Las rfl rfl (Lnt (Gs.cond_tt rfl rfl (Gsr ?_)))))))))))
       refine Lmv rfl rfl (La rfl (asC (vecB_some hS hl hc hv)) ?_)
       rintro _ _ ⟨_, ⟨va, vc, ra, rc, rfl, ⟨hS2, hc2⟩, rfl⟩, rfl⟩
       refine Lq rfl (pu_fa fa_106_1 rfl) (Lac0 rfl trivial (ac_st sz_30 rfl rfl (by repeat constructor) rfl rfl rfl rfl) ?_)
       rintro _ _ rfl
       refine Lnt (Gsr (Lmv rfl rfl (Lq rfl (by first | exact pu_nil rfl | exact pu_nilF rfl) ?_)))
       refine Lq rfl (pu_fa fa_243_1 rfl) (Lr rfl (rd_ld na_4 rfl (Rdc.cl1 (by repeat constructor) rfl)) ?_)
       refine Lq rfl (pu_not rfl) (Lnt (Gs.cond_tt rfl rfl (Gs.reg (Lmv rfl rfl (La rfl (asC (vecB_none hS2 hll hw)) ?_)))))
       rintro _ _ ⟨_, ⟨rfl, rfl⟩, rfl⟩
       refine Lq rfl (pu_fa fa_106_2 rfl) (Lac0 rfl trivial (ac_st sz_30 rfl rfl (by repeat constructor) rfl rfl rfl rfl) ?_)
       rintro _ _ rfl
       refine Lnil (Gs.blk_n (Gn (Gsr (Lr rfl (rd_lda ag_106 rfl (Rdc.cl 8 (by repeat constructor) rfl) rfl) ?_))))
       refine Lac0 rfl trivial (ac_st sz_106 rfl rfl (by repeat constructor) rfl rfl rfl rfl) ?_
       rintro _ _ rfl
       refine Lnt (Gs.ret (Gs.entV' (k := 1) (r := Rec.zero) (a := va) (c := vc) (v := v) (by repeat constructor) ?_))
       exact Gs.finc1 Tryz.results154 ag_106 rfl (Rdc.cl 8 (by repeat constructor) rfl) rfl _ (⟨⟨1, ⟨va, v, vc⟩, noI, Rec.zero⟩, _, _, _, _, rfl, .inr ⟨hen, .inl rfl⟩, rfl⟩) (by repeat constructor)
     | some z =>
       obtain ⟨w, m⟩ := z
       have hres : ∀ e : EntP, e = ⟨1, v, w, Rec.zero⟩ → EntRes 1 bs e m.length false := fun e he => by
         cases m with
         | nil => exact .inl ⟨by unfold readEn; rw [if_pos rfl, hv]; simp only [hw, he], rfl, rfl⟩
         | cons b m => exact .inr ⟨by unfold readEn; rw [if_pos rfl, hv]; simp only [hw], .inr (.inl (by simp))⟩
       refine Cti Tryz.func154 (by kernel_rfl) 58 Tryz.ntmps154 rfl rfl fun w0 R => ?_
       refine Gsr (La rfl (ac_alloc zv_106 rfl) ?_)
       rintro _ _ ⟨b4, rfl, rfl⟩
       refine Lnt (Gsr (Lmv rfl rfl (Lq rfl (pu_build bd_106 (by repeat constructor) rfl) ?_)))
       refine La rfl (ac_alloc zv_106 rfl) ?_
       rintro _ _ ⟨b5, rfl, rfl⟩
       refine Lac0 rfl trivial (ac_st sz_106 rfl rfl (by repeat constructor) rfl rfl rfl rfl) ?_
       rintro _ _ rfl
       refine Lnt (Gs.seq (Gsr (Lmv rfl rfl (Lnt (Gs.block (Gsr (Lq rfl (pu_eq rfl rfl) (Las rfl rfl (Lnt (Gs.cond_tt rfl rfl (Gsr ?_)))))))))))
       refine Lmv rfl rfl (La rfl (asC (vecB_some hS hl hc hv)) ?_)
       rintro _ _ ⟨_, ⟨va, vc, ra, rc, rfl, ⟨hS2, hc2⟩, rfl⟩, rfl⟩
       refine Lq rfl (pu_fa fa_106_1 rfl) (Lac0 rfl trivial (ac_st sz_30 rfl rfl (by repeat constructor) rfl rfl rfl rfl) ?_)
       rintro _ _ rfl
       refine Lnt (Gsr (Lmv rfl rfl (Lq rfl (by first | exact pu_nil rfl | exact pu_nilF rfl) ?_)))
       refine Lq rfl (pu_fa fa_243_1 rfl) (Lr rfl (rd_ld na_4 rfl (Rdc.cl1 (by repeat constructor) rfl)) ?_)
       refine Lq rfl (pu_not rfl) (Lnt (Gs.cond_tt rfl rfl (Gs.reg (Lmv rfl rfl (La rfl (asC (vecB_some hS2 hll hc2 hw)) ?_)))))
       rintro _ _ ⟨_, ⟨wa, wc, ra2, rc2, rfl, ⟨hS3, hc3⟩, rfl⟩, rfl⟩
       refine Lq rfl (pu_fa fa_106_2 rfl) (Lac0 rfl trivial (ac_st sz_30 rfl rfl (by repeat constructor) rfl rfl rfl rfl) ?_)
       rintro _ _ rfl
       refine Lnil (Gs.blk_n (Gn (Gsr (Lr rfl (rd_lda ag_106 rfl (Rdc.cl 8 (by repeat constructor) rfl) rfl) ?_))))
       refine Lac0 rfl trivial (ac_st sz_106 rfl rfl (by repeat constructor) rfl rfl rfl rfl) ?_
       rintro _ _ rfl
       refine Lnt (Gs.ret (Gs.entVW (k := 1) (r := Rec.zero) (a := va) (c := vc) (v := v) (b := wa) (d := wc) (w := w) (by repeat constructor) ?_))
       exact Gs.finc1 Tryz.results154 ag_106 rfl (Rdc.cl 8 (by repeat constructor) rfl) rfl _ (⟨⟨1, ⟨va, v, vc⟩, ⟨wa, w, wc⟩, Rec.zero⟩, _, _, _, _, rfl, hres _ rfl, rfl⟩) (by repeat constructor)
 · by_cases h3 : k = 3
   · subst h3
     cases hv : readV bs with
     | none =>
       have hen : readEn 3 bs = none := by unfold readEn; rw [if_neg (by decide), if_pos rfl, hv]
       refine Cti Tryz.func154 (by kernel_rfl) 58 Tryz.ntmps154 rfl rfl fun w0 R => ?_
       refine Gsr (La rfl (ac_alloc zv_106 rfl) ?_)
       rintro _ _ ⟨b4, rfl, rfl⟩
       refine Lnt (Gsr (Lmv rfl rfl (Lq rfl (pu_build bd_106 (by repeat constructor) rfl) ?_)))
       refine La rfl (ac_alloc zv_106 rfl) ?_
       rintro _ _ ⟨b5, rfl, rfl⟩
       refine Lac0 rfl trivial (ac_st sz_106 rfl rfl (by repeat constructor) rfl rfl rfl rfl) ?_
       rintro _ _ rfl
       refine Lnt (Gs.seq (Gsr (Lmv rfl rfl (Lnt (Gs.block (Gsr (Lq rfl (pu_eq rfl rfl) (Las rfl rfl (Lnt (Gs.cond_ff rfl rfl (Gsr ?_)))))))))))
       refine Lq rfl (pu_eq rfl rfl) (Las rfl rfl (Lnt (Gs.cond_tt rfl rfl (Gs.reg (Lmv rfl rfl (La rfl (asC (vecB_none hS hl hv)) ?_))))))
       rintro _ _ ⟨_, ⟨rfl, rfl⟩, rfl⟩
       refine Lq rfl (pu_fa fa_106_2 rfl) (Lac0 rfl trivial (ac_st sz_30 rfl rfl (by repeat constructor) rfl rfl rfl rfl) ?_)
       rintro _ _ rfl
       refine Lnil (Gs.blk_n (Gn (Gsr (Lr rfl (rd_lda ag_106 rfl (Rdc.cl 8 (by repeat constructor) rfl) rfl) ?_))))
       refine Lac0 rfl trivial (ac_st sz_106 rfl rfl (by repeat constructor) rfl rfl rfl rfl) ?_
       rintro _ _ rfl
       refine Lnt (Gs.ret (Gs.entNil (k := 3) (r := Rec.zero) ?_))
       exact Gs.finc1 Tryz.results154 ag_106 rfl (Rdc.cl 8 (by repeat constructor) rfl) rfl _ (⟨⟨3, noI, noI, Rec.zero⟩, _, _, _, _, rfl, .inr ⟨hen, .inl rfl⟩, rfl⟩) (by repeat constructor)
     | some y =>
       obtain ⟨w, m⟩ := y
       have hres : ∀ e : EntP, e = ⟨3, [], w, Rec.zero⟩ → EntRes 3 bs e m.length false := fun e he => by
         cases m with
         | nil => exact .inl ⟨by unfold readEn; rw [if_neg (by decide), if_pos rfl, hv]; simp only [he], rfl, rfl⟩
         | cons b m => exact .inr ⟨by unfold readEn; rw [if_neg (by decide), if_pos rfl, hv], .inr (.inl (by simp))⟩
       refine Cti Tryz.func154 (by kernel_rfl) 58 Tryz.ntmps154 rfl rfl fun w0 R => ?_
       refine Gsr (La rfl (ac_alloc zv_106 rfl) ?_)
       rintro _ _ ⟨b4, rfl, rfl⟩
       refine Lnt (Gsr (Lmv rfl rfl (Lq rfl (pu_build bd_106 (by repeat constructor) rfl) ?_)))
       refine La rfl (ac_alloc zv_106 rfl) ?_
       rintro _ _ ⟨b5, rfl, rfl⟩
       refine Lac0 rfl trivial (ac_st sz_106 rfl rfl (by repeat constructor) rfl rfl rfl rfl) ?_
       rintro _ _ rfl
       refine Lnt (Gs.seq (Gsr (Lmv rfl rfl (Lnt (Gs.block (Gsr (Lq rfl (pu_eq rfl rfl) (Las rfl rfl (Lnt (Gs.cond_ff rfl rfl (Gsr ?_)))))))))))
       refine Lq rfl (pu_eq rfl rfl) (Las rfl rfl (Lnt (Gs.cond_tt rfl rfl (Gs.reg (Lmv rfl rfl (La rfl (asC (vecB_some hS hl hc hv)) ?_))))))
       rintro _ _ ⟨_, ⟨wa, wc, ra, rc, rfl, ⟨hS2, hc2⟩, rfl⟩, rfl⟩
       refine Lq rfl (pu_fa fa_106_2 rfl) (Lac0 rfl trivial (ac_st sz_30 rfl rfl (by repeat constructor) rfl rfl rfl rfl) ?_)
       rintro _ _ rfl
       refine Lnil (Gs.blk_n (Gn (Gsr (Lr rfl (rd_lda ag_106 rfl (Rdc.cl 8 (by repeat constructor) rfl) rfl) ?_))))
       refine Lac0 rfl trivial (ac_st sz_106 rfl rfl (by repeat constructor) rfl rfl rfl rfl) ?_
       rintro _ _ rfl
       refine Lnt (Gs.ret (Gs.entW' (k := 3) (r := Rec.zero) (a := wa) (c := wc) (v := w) (by repeat constructor) ?_))
       exact Gs.finc1 Tryz.results154 ag_106 rfl (Rdc.cl 8 (by repeat constructor) rfl) rfl _ (⟨⟨3, noI, ⟨wa, w, wc⟩, Rec.zero⟩, _, _, _, _, rfl, hres _ rfl, rfl⟩) (by repeat constructor)
   · by_cases h2 : k = 2
     · subst h2
       have hc0 := (recRead_spec (S := two S Tx) (Srd.two1 hS) (hT.inn Inn.two2) hl hc 0 (Nat.zero_le _)).twoE
       rw [List.drop_zero] at hc0
       cases hr : readR bs with
       | none =>
         have hen : readEn 2 bs = none := by unfold readEn; rw [if_neg (by decide), if_neg (by decide), if_pos rfl, hr]
         rw [hr, show readRV 0 none = .tuple #[recV Rec.zero, int 0, .bool false] from rfl] at hc0
         refine Cti Tryz.func154 (by kernel_rfl) 58 Tryz.ntmps154 rfl rfl fun w0 R => ?_
         refine Gsr (La rfl (ac_alloc zv_106 rfl) ?_)
         rintro _ _ ⟨b4, rfl, rfl⟩
         refine Lnt (Gsr (Lmv rfl rfl (Lq rfl (pu_build bd_106 (by repeat constructor) rfl) ?_)))
         refine La rfl (ac_alloc zv_106 rfl) ?_
         rintro _ _ ⟨b5, rfl, rfl⟩
         refine Lac0 rfl trivial (ac_st sz_106 rfl rfl (by repeat constructor) rfl rfl rfl rfl) ?_
         rintro _ _ rfl
         refine Lnt (Gs.seq (Gsr (Lmv rfl rfl (Lnt (Gs.block (Gsr (Lq rfl (pu_eq rfl rfl) (Las rfl rfl (Lnt (Gs.cond_ff rfl rfl (Gsr ?_)))))))))))
         refine Lq rfl (pu_eq rfl rfl) (Las rfl rfl (Lnt (Gs.cond_ff rfl rfl (Gsr (Lq rfl (pu_eq rfl rfl) (Las rfl rfl (Lnt (Gs.cond_tt rfl rfl (Gsr (Lmv rfl rfl (Lq rfl (by first | exact pu_nil rfl | exact pu_nilF rfl) ?_)))))))))))
         refine Lq rfl (pu_fa fa_243_0 rfl) (Lr rfl (rd_ld na_83 rfl (Rdc.cl1 (by repeat constructor) rfl)) ?_)
         refine La rfl (asC (hc0)) ?_
         rintro _ _ ⟨_, ⟨rfl, rfl⟩, rfl⟩
         refine Lmv rfl rfl (Lq rfl (pu_extract rfl rfl) (Lq rfl (pu_extract rfl rfl) (Lq rfl (pu_extract rfl rfl) (La rfl (ac_alloc zv_50 rfl) ?_))))
         rintro _ _ ⟨b6, rfl, rfl⟩
         refine Lac0 rfl trivial (ac_st sz_50 rfl rfl (by repeat constructor) rfl rfl rfl rfl) ?_
         rintro _ _ rfl
         refine Las rfl rfl (Las rfl rfl (Lnt (Gsr (Lmv rfl rfl (Lr rfl (rd_lda ag_50 rfl (Rdc.cl 5 (by repeat constructor) rfl) rfl) ?_)))))
         refine Lmv rfl rfl (Lq rfl (pu_not rfl) (Lq rfl (pu_fa fa_106_3 rfl) (Lac0 rfl trivial (ac_st sz_50 rfl rfl (by repeat constructor) rfl rfl rfl rfl) ?_)))
         rintro _ _ rfl
         refine Lq rfl (by first | exact pu_nil rfl | exact pu_nilF rfl) ?_
         refine Lq rfl (pu_fa fa_243_1 rfl) (Lac0 rfl trivial (ac_st sz_4 rfl rfl (by repeat constructor) rfl rfl rfl rfl) ?_)
         rintro _ _ rfl
         refine Lnt (Gs.reg (Lmv rfl rfl (Lmv rfl rfl (Lq rfl (by first | exact pu_nil rfl | exact pu_nilF rfl) ?_))))
         refine Lq rfl (pu_fa fa_243_0 rfl) (Lr rfl (rd_ld na_83 rfl (Rdc.cl1 (by repeat constructor) rfl)) ?_)
         refine Lmv rfl rfl (Lq rfl (pu_sliceL et_83 rfl rfl (by omega) (by omega)) (Lq rfl (by first | exact pu_nil rfl | exact pu_nilF rfl) ?_))
         refine Lq rfl (pu_fa fa_243_0 rfl) (Lac0 rfl trivial (ac_st sz_83 rfl rfl (by repeat constructor) rfl rfl rfl rfl) ?_)
         rintro _ _ rfl
         refine Lnil (Gs.blk_n (Gn (Gsr (Lr rfl (rd_lda ag_106 rfl (Rdc.cl 8 (by repeat constructor) rfl) rfl) ?_))))
         refine Lac0 rfl trivial (ac_st sz_106 rfl rfl (by repeat constructor) rfl rfl rfl rfl) ?_
         rintro _ _ rfl
         refine Lnt (Gs.ret (Gs.entNil (k := 2) (r := Rec.zero) ?_))
         exact Gs.finc1 Tryz.results154 ag_106 rfl (Rdc.cl 8 (by repeat constructor) rfl) rfl _ (⟨⟨2, noI, noI, Rec.zero⟩, _, _, _, _, rfl, .inr ⟨hen, .inl rfl⟩, rfl⟩) (by repeat constructor)
       | some y =>
         obtain ⟨r, m⟩ := y
         have hm := readR_le hr
         have hres : ∀ e : EntP, e = ⟨2, [], [], r⟩ → EntRes 2 bs e (bs.length - m) false := fun e he => by
           by_cases h0 : bs.length - m = 0
           · have hd : bs.drop m = [] := List.drop_eq_nil_of_le (by omega)
             exact .inl ⟨by unfold readEn; rw [if_neg (by decide), if_neg (by decide), if_pos rfl, hr]; simp only [hd, if_true, he], rfl, h0⟩
           · have hd : bs.drop m ≠ [] := fun e => by
               have := congrArg List.length e
               rw [List.length_drop, List.length_nil] at this; omega
             exact .inr ⟨by unfold readEn; rw [if_neg (by decide), if_neg (by decide), if_pos rfl, hr]; simp only [hd, if_false], .inr (.inl (by omega))⟩
         rw [hr, show readRV 0 (some (r, m)) = .tuple #[recV r, int (m : Nat), .bool true] by show Value.tuple #[recV r, int ((0 + m : Nat) : Int), .bool true] = _; rw [Nat.zero_add]] at hc0
         refine Cti Tryz.func154 (by kernel_rfl) 58 Tryz.ntmps154 rfl rfl fun w0 R => ?_
         refine Gsr (La rfl (ac_alloc zv_106 rfl) ?_)
         rintro _ _ ⟨b4, rfl, rfl⟩
         refine Lnt (Gsr (Lmv rfl rfl (Lq rfl (pu_build bd_106 (by repeat constructor) rfl) ?_)))
         refine La rfl (ac_alloc zv_106 rfl) ?_
         rintro _ _ ⟨b5, rfl, rfl⟩
         refine Lac0 rfl trivial (ac_st sz_106 rfl rfl (by repeat constructor) rfl rfl rfl rfl) ?_
         rintro _ _ rfl
         refine Lnt (Gs.seq (Gsr (Lmv rfl rfl (Lnt (Gs.block (Gsr (Lq rfl (pu_eq rfl rfl) (Las rfl rfl (Lnt (Gs.cond_ff rfl rfl (Gsr ?_)))))))))))
         refine Lq rfl (pu_eq rfl rfl) (Las rfl rfl (Lnt (Gs.cond_ff rfl rfl (Gsr (Lq rfl (pu_eq rfl rfl) (Las rfl rfl (Lnt (Gs.cond_tt rfl rfl (Gsr (Lmv rfl rfl (Lq rfl (by first | exact pu_nil rfl | exact pu_nilF rfl) ?_)))))))))))
         refine Lq rfl (pu_fa fa_243_0 rfl) (Lr rfl (rd_ld na_83 rfl (Rdc.cl1 (by repeat constructor) rfl)) ?_)
         refine La rfl (asC (hc0)) ?_
         rintro _ _ ⟨_, ⟨rfl, rfl⟩, rfl⟩
         refine Lmv rfl rfl (Lq rfl (pu_extract rfl rfl) (Lq rfl (pu_extract rfl rfl) (Lq rfl (pu_extract rfl rfl) (La rfl (ac_alloc zv_50 rfl) ?_))))
         rintro _ _ ⟨b6, rfl, rfl⟩
         refine Lac0 rfl trivial (ac_st sz_50 rfl rfl (by repeat constructor) rfl rfl rfl rfl) ?_
         rintro _ _ rfl
         refine Las rfl rfl (Las rfl rfl (Lnt (Gsr (Lmv rfl rfl (Lr rfl (rd_lda ag_50 rfl (Rdc.cl 5 (by repeat constructor) rfl) rfl) ?_)))))
         refine Lmv rfl rfl (Lq rfl (pu_not rfl) (Lq rfl (pu_fa fa_106_3 rfl) (Lac0 rfl trivial (ac_st sz_50 rfl rfl (by repeat constructor) rfl rfl rfl rfl) ?_)))
         rintro _ _ rfl
         refine Lq rfl (by first | exact pu_nil rfl | exact pu_nilF rfl) ?_
         refine Lq rfl (pu_fa fa_243_1 rfl) (Lac0 rfl trivial (ac_st sz_4 rfl rfl (by repeat constructor) rfl rfl rfl rfl) ?_)
         rintro _ _ rfl
         refine Lnt (Gs.reg (Lmv rfl rfl (Lmv rfl rfl (Lq rfl (by first | exact pu_nil rfl | exact pu_nilF rfl) ?_))))
         refine Lq rfl (pu_fa fa_243_0 rfl) (Lr rfl (rd_ld na_83 rfl (Rdc.cl1 (by repeat constructor) rfl)) ?_)
         refine Lmv rfl rfl (Lq rfl (pu_sliceL et_83 rfl rfl (by omega) (by omega)) (Lq rfl (by first | exact pu_nil rfl | exact pu_nilF rfl) ?_))
         refine Lq rfl (pu_fa fa_243_0 rfl) (Lac0 rfl trivial (ac_st sz_83 rfl rfl (by repeat constructor) rfl rfl rfl rfl) ?_)
         rintro _ _ rfl
         refine Lnil (Gs.blk_n (Gn (Gsr (Lr rfl (rd_lda ag_106 rfl (Rdc.cl 8 (by repeat constructor) rfl) rfl) ?_))))
         refine Lac0 rfl trivial (ac_st sz_106 rfl rfl (by repeat constructor) rfl rfl rfl rfl) ?_
         rintro _ _ rfl
         refine Lnt (Gs.ret (Gs.entNil (k := 2) (r := r) ?_))
         exact Gs.finc1 Tryz.results154 ag_106 rfl (Rdc.cl 8 (by repeat constructor) rfl) rfl _ (⟨⟨2, noI, noI, r⟩, _, _, _, _, rfl, hres _ rfl, rfl⟩) (by repeat constructor)
     · have hen : readEn k bs = none := by unfold readEn; rw [if_neg h1, if_neg h3, if_neg h2]
       refine Cti Tryz.func154 (by kernel_rfl) 58 Tryz.ntmps154 rfl rfl fun w0 R => ?_
       refine Gsr (La rfl (ac_alloc zv_106 rfl) ?_)
       rintro _ _ ⟨b4, rfl, rfl⟩
       refine Lnt (Gsr (Lmv rfl rfl (Lq rfl (pu_build bd_106 (by repeat constructor) rfl) ?_)))
       refine La rfl (ac_alloc zv_106 rfl) ?_
       rintro _ _ ⟨b5, rfl, rfl⟩
       refine Lac0 rfl trivial (ac_st sz_106 rfl rfl (by repeat constructor) rfl rfl rfl rfl) ?_
       rintro _ _ rfl
       refine Lnt (Gs.seq (Gsr (Lmv rfl rfl (Lnt (Gs.block (Gsr (Lq rfl (pu_eq rfl rfl) (Las rfl rfl (Lnt (Gs.cond_ff rfl (decide_eq_false (by omega)) (Gsr ?_)))))))))))
       refine Lq rfl (pu_eq rfl rfl) (Las rfl rfl (Lnt (Gs.cond_ff rfl (decide_eq_false (by omega)) (Gsr (Lq rfl (pu_eq rfl rfl) (Las rfl rfl (Lnt (Gs.cond_ff rfl (decide_eq_false (by omega)) (Gs.skip (Gs.blk_n (Gn ?_)))))))))))
       refine Gsr (Lr rfl (rd_lda ag_106 rfl (Rdc.cl 8 (by repeat constructor) rfl) rfl) ?_)
       refine Lac0 rfl trivial (ac_st sz_106 rfl rfl (by repeat constructor) rfl rfl rfl rfl) ?_
       rintro _ _ rfl
       refine Lnt (Gs.ret (Gs.entNil (k := k) (r := Rec.zero) ?_))
       exact Gs.finc1 Tryz.results154 ag_106 rfl (Rdc.cl 8 (by repeat constructor) rfl) rfl _ (⟨⟨k, noI, noI, Rec.zero⟩, _, _, _, _, rfl, .inr ⟨hen, .inr (.inr fun n => may_zero (k := k) (by omega) (by omega) (by omega) _ rfl n)⟩, rfl⟩) (by repeat constructor)
end Go.Proofs.YtflfhpokmidnmaaGreatDoor
namespace Go.Proofs.YtflfhpokmidnmaaGreatDoor
open Go Go.Sl Go.Gv
set_option maxRecDepth 100000
theorem next_ways {S : HProp} {H' : List HProp} {m : Nat} {x : List UInt8} (v : Value) (H'' : List HProp) :
   (∃ hs, (∃ a' c', v = nextV m (nextB x) a' c' ∧ hs = S :: nextH (nextB x) a' c') ∧ H'' = hs ++ H') →
   (nextB x = none ∧ v = .tuple #[int 0, .slice none 0 0, int 0, .bool false] ∧ H'' = S :: H') ∨
   (∃ k held len a' c', nextB x = some (k, held, len) ∧ v = .tuple #[int (k : Nat), .slice a' held.length c', int ((m + len : Nat) : Int), .bool true] ∧ H'' = S :: sl 5 1 byteC a' c' held :: H') := by
 rintro ⟨_, ⟨a', c', rfl, rfl⟩, rfl⟩
 cases hx : nextB x with
 | none => exact .inl ⟨rfl, rfl, rfl⟩
 | some y => obtain ⟨k, held, len⟩ := y; exact .inr ⟨k, held, len, a', c', rfl, rfl, rfl⟩
theorem readS_stop {n : Int} {f k len : Nat} {first : Bool} {x held : List UInt8} (hx : nextB x = some (k, held, len)) (h : decide (k = 1) ≠ first ∨ readEn k held = none ∨ ∃ e, readEn k held = some e ∧ mayE e n = false) : readS n f first x = ([], 0) := by
 cases f with
 | zero => rfl
 | succ f =>
   rw [readS, hx]
   dsimp only
   by_cases h1 : decide (k = 1) ≠ first
   · rw [if_pos h1]
   · rw [if_neg h1]
     rcases h with h | h | ⟨e, h, h2⟩
     · exact (h1 h).elim
     · rw [h]
     · rw [h]; dsimp only; rw [if_neg (by rw [h2]; decide)]
theorem readS_go {n : Int} {f k len : Nat} {first : Bool} {x held : List UInt8} {e : EntP} (hx : nextB x = some (k, held, len)) (h1 : decide (k = 1) = first) (h2 : readEn k held = some e) (h3 : mayE e n = true) :
   readS n (f + 1) first x = (e :: (readS n f false (x.drop len)).1, len + (readS n f false (x.drop len)).2) := by
 rw [readS, hx]
 dsimp only
 rw [if_neg (fun h => h h1), h2]
 dsimp only
 rw [if_pos h3]
theorem segRead_spec {S Tx : HProp} {a : Option Addr} {c : Nat} {bs : List UInt8} (hS : Srd S 1 byteC a bs) (hT : RMs Tx) (hl : bs.length ≤ 1048576) (hc : bs.length ≤ c) (n : Int) :
   Ct Tryz.prog 127 [.slice a bs.length c, int n] [S, Tx]
     (fun v hs => ∃ a' c' es, v = .tuple #[.slice a' es.length c', int (readS n bs.length true bs).2] ∧ plainV es = (readS n bs.length true bs).1 ∧ hs = [S, Tx, elO a' c' es]) := by
 refine Cti Tryz.func127 (by kernel_rfl) 64 Tryz.ntmps127 rfl rfl fun w0 R => ?_
 refine Gsr (Las rfl rfl (Las rfl rfl (Lnt (Gsr (Las rfl rfl (Lnt (Gsr (Las rfl rfl (Lnil (Gs.slNil 106 8 entC (Gs.bigNil ?_)))))))))))
 refine Gn (Gs.block (Gs.loop1 (fun s : Nat × List EntV × Option Addr × Nat => s.1 ≤ bs.length ∧ 12 * s.2.1.length ≤ s.1 ∧ (s.1 = 0 ↔ s.2.1 = []) ∧ readS n bs.length true bs = (plainV s.2.1 ++ (readS n (bs.length - s.2.1.length) (decide (s.1 = 0)) (bs.drop s.1)).1, s.1 + (readS n (bs.length - s.2.1.length) (decide (s.1 = 0)) (bs.drop s.1)).2)) (fun s => [(0, .slice a bs.length c), (1, int n), (6, .slice s.2.2.1 s.2.1.length s.2.2.2), (7, int s.1)]) (fun s => [S, Tx, sl 106 8 entC s.2.2.1 s.2.2.2 s.2.1, big (s.2.1.map entO)] ++ R) (fun s => bs.length - s.1) (0, [], none, 0) (⟨Nat.zero_le _, Nat.zero_le _, Iff.intro (fun _ => rfl) (fun _ => rfl), by simp⟩) (by repeat constructor) (by repeat constructor) (fun s hs => ?_)))
 obtain ⟨m, es, ca, cc⟩ := s
 obtain ⟨hm, hml, hm0, hrd⟩ := hs
 dsimp only at hm hml hm0 hrd ⊢
 have hesl : es.length ≤ 100000 := by omega
 refine Gs.block (Gsr (Lmv rfl rfl (Lmv rfl rfl (La rfl ((asC (next_spec hS hl hc m hm)).mono next_ways) ?_))))
 rintro _ _ (⟨hnx, rfl, rfl⟩ | ⟨k, held, len, na, nc, hnx, rfl, rfl⟩)
 ·
  have hstop : readS n (bs.length - es.length) (decide (m = 0)) (bs.drop m) = ([], 0) := readS_none hnx
  refine Lmv rfl rfl (Lq rfl (pu_extract rfl rfl) (Lq rfl (pu_extract rfl rfl) (Lq rfl (pu_extract rfl rfl) (Lq rfl (pu_extract rfl rfl) (Las rfl rfl (Las rfl rfl (Las rfl rfl (Las rfl rfl (Lnt (Gs.seq (Gsr ?_)))))))))))
  refine Lmv rfl rfl (Lq rfl (pu_not rfl) (Lmv rfl rfl (Lof rfl (Lof rfl (Lof rfl (Lof rfl (Lof rfl (Lpk rfl rfl rfl (Lnt (Gs.cond_t rfl (Gsr ?_)))))))))))
  refine Lmv rfl rfl (Lmv rfl rfl (Las rfl rfl (Las rfl rfl (Lnt (Gs.ret (Gr (Gs.blk_r (Gr (Gs.blk_r (Gs.takes (As := [sl 106 8 entC ca cc es, big (es.map entO)]) (by repeat constructor) (Gs.toTwo ?_)))))))))))
  exact Gs.fin2 Tryz.results127 rfl rfl _ (⟨ca, cc, es, by rw [hrd, hstop]; rfl, by rw [hrd, hstop, List.append_nil], rfl⟩) (by repeat constructor)
 obtain ⟨hl12, hlx, hk1, hk2, hhl⟩ := next_len hnx
 rw [List.length_drop] at hlx
 refine Gs.slLen (E := 5) (sz := 1) (enc := byteC) (a := na) (c := nc) (xs := held) (by repeat constructor) fun hnc => ?_
 refine Lmv rfl rfl (Lq rfl (pu_extract rfl rfl) (Lq rfl (pu_extract rfl rfl) (Lq rfl (pu_extract rfl rfl) (Lq rfl (pu_extract rfl rfl) (Las rfl rfl (Las rfl rfl (Las rfl rfl (Las rfl rfl (Lnt (Gs.seq (Gsr ?_)))))))))))
 refine Lmv rfl rfl (Lq rfl (pu_not rfl) (Lmv rfl rfl (Lpu rfl rfl ⟨_, rfl, rfl⟩ (pu_move rfl) (Lpu rfl rfl ⟨_, rfl, rfl⟩ (pu_eq rfl rfl) (Lpu rfl rfl ⟨_, rfl, rfl⟩ (pu_move rfl) (Lpu rfl rfl ⟨_, rfl, rfl⟩ (pu_eq rfl rfl) (Lpu rfl rfl ⟨_, rfl, rfl⟩ (pu_neB Tryz.underlying4 rfl rfl) (Lpk rfl rfl rfl (Lnt (Gs.cond rfl (fun hc0 => ?_) (fun hc0 => ?_)))))))))))
 ·
  have hstop : readS n (bs.length - es.length) (decide (m = 0)) (bs.drop m) = ([], 0) := readS_stop hnx (.inl fun e => by
    have h1 : decide ((k : Int) = 1) = decide (k = 1) := decide_eq_decide.2 ⟨fun h => by omega, fun h => by omega⟩
    have h2 : decide ((m : Int) = 0) = decide (m = 0) := decide_eq_decide.2 ⟨fun h => by omega, fun h => by omega⟩
    rw [h1, h2, e] at hc0
    simp at hc0)
  refine Gsr (Lmv rfl rfl (Lmv rfl rfl (Las rfl rfl (Las rfl rfl (Lnt (Gs.ret (Gr (Gs.blk_r (Gr (Gs.blk_r (Gs.takes (As := [sl 106 8 entC ca cc es, big (es.map entO)]) (by repeat constructor) (Gs.toTwo ?_))))))))))))
  exact Gs.fin2 Tryz.results127 rfl rfl _ (⟨ca, cc, es, by rw [hrd, hstop]; rfl, by rw [hrd, hstop, List.append_nil], rfl⟩) (by repeat constructor)
 have hfirst : decide (k = 1) = decide (m = 0) := by
   have h1 : decide ((k : Int) = 1) = decide (k = 1) := decide_eq_decide.2 ⟨fun h => by omega, fun h => by omega⟩
   have h2 : decide ((m : Int) = 0) = decide (m = 0) := decide_eq_decide.2 ⟨fun h => by omega, fun h => by omega⟩
   rw [h1, h2] at hc0
   simpa using hc0
 refine Gs.skip (Gn (Gsr (Lmv rfl rfl (Lq rfl (pu_build bd_243 (by repeat constructor) rfl) ?_))))
 refine La rfl (ac_box rfl rfl) ?_
 rintro _ _ ⟨xb, rfl, rfl⟩
 refine Las rfl rfl (Lnt (Gsr (Lmv rfl rfl (Lmv rfl rfl (La rfl (asC (entry_spec (S := sl 5 1 byteC na nc held) Srd.own hT (by omega) hnc k)) ?_)))))
 rintro _ _ ⟨_, ⟨e, ra, rl, rc, bad, rfl, hres, rfl⟩, rfl⟩
 refine La rfl (ac_alloc zv_106 rfl) ?_
 rintro _ _ ⟨eb, rfl, rfl⟩
 refine Lac0 rfl trivial (ac_st sz_106 rfl rfl (by repeat constructor) rfl rfl rfl rfl) ?_
 rintro _ _ rfl
 refine Lnt (Gs.seq (Gsr (Lmv rfl rfl (Lq rfl (by first | exact pu_nil rfl | exact pu_nilF rfl) ?_))))
 refine Lq rfl (pu_fa fa_243_1 rfl) (Lr rfl (rd_ld na_4 rfl (Rdc.cl1 (by repeat constructor) rfl)) ?_)
 refine LpuB rfl rfl trivial (pu_move rfl) (fun hg4 => ?_) (fun hg4 => ?_)
 ·
  have hstop : readS n (bs.length - es.length) (decide (m = 0)) (bs.drop m) = ([], 0) := readS_stop hnx (.inr (by
    rcases hres with ⟨-, h, -⟩ | ⟨h, -⟩
    · rw [hg4] at h; cases h
    · exact .inl h))
  refine Lof rfl (Lof rfl (Lof rfl (Lof rfl (Lof rfl (Lof rfl (Lpk rfl rfl rfl (Lmv rfl rfl (Lof rfl (Lof rfl (Lof rfl (Lof rfl ?_)))))))))))
  refine Lpk rfl rfl rfl (Lnt (Gs.cond_t rfl (Gsr (Lmv rfl rfl (Lmv rfl rfl (Las rfl rfl (Las rfl rfl (Lnt (Gs.ret (Gr (Gs.blk_r ?_)))))))))))
  refine Gr (Gs.blk_r (Gs.takes (As := [sl 106 8 entC ca cc es, big (es.map entO)]) (by repeat constructor) (Gs.toTwo ?_)))
  exact Gs.fin2 Tryz.results127 rfl rfl _ (⟨ca, cc, es, by rw [hrd, hstop]; rfl, by rw [hrd, hstop, List.append_nil], rfl⟩) (by repeat constructor)
 refine Lpu rfl rfl ⟨_, rfl, rfl⟩ (pu_move rfl) (Lpu rfl rfl ⟨_, rfl, rfl⟩ (by first | exact pu_nil rfl | exact pu_nilF rfl) ?_)
 refine Lpu rfl rfl ⟨_, rfl, rfl⟩ (pu_fa fa_243_0 rfl) (Lrd rfl rfl ⟨_, rfl, rfl⟩ (rd_ld na_83 rfl (Rdc.cl1 (by repeat constructor) rfl)) ?_)
 refine Lpu rfl rfl ⟨_, rfl, rfl⟩ (pu_len Tryz.underlying83 rfl) (Lpu rfl rfl ⟨_, rfl, rfl⟩ (pu_gt rfl rfl) (Lpk rfl rfl rfl (LpuB rfl rfl trivial (pu_move rfl) (fun hg12 => ?_) (fun hg12 => ?_))))
 ·
  have hstop : readS n (bs.length - es.length) (decide (m = 0)) (bs.drop m) = ([], 0) := readS_stop hnx (.inr (by
    rcases hres with ⟨-, -, h⟩ | ⟨h, -⟩
    · have := of_decide_eq_true hg12; omega
    · exact .inl h))
  refine Lof rfl (Lof rfl (Lof rfl (Lof rfl (Lpk rfl rfl rfl (Lnt (Gs.cond_t rfl (Gsr (Lmv rfl rfl (Lmv rfl rfl (Las rfl rfl (Las rfl rfl ?_)))))))))))
  refine Lnt (Gs.ret (Gr (Gs.blk_r (Gr (Gs.blk_r (Gs.takes (As := [sl 106 8 entC ca cc es, big (es.map entO)]) (by repeat constructor) (Gs.toTwo ?_)))))))
  exact Gs.fin2 Tryz.results127 rfl rfl _ (⟨ca, cc, es, by rw [hrd, hstop]; rfl, by rw [hrd, hstop, List.append_nil], rfl⟩) (by repeat constructor)
 have hrl : rl = 0 := by have := of_decide_eq_false hg12; omega
 refine Lrd rfl rfl ⟨_, rfl, rfl⟩ (rd_lda ag_106 rfl (Rdc.cl 8 (by repeat constructor) rfl) rfl) ?_
 refine Lpu rfl rfl ⟨_, rfl, rfl⟩ (pu_move rfl) (Lac rfl rfl ⟨_, rfl, rfl⟩ (asC ((segMay_spec (U := two (entO e) Tx) (evd_entO e).two1 (hT.inn Inn.two2) n).twoE)) ?_)
 rintro _ _ ⟨_, ⟨rfl, rfl⟩, rfl⟩
 refine Lpu rfl rfl ⟨_, rfl, rfl⟩ (pu_not rfl) (Lpk rfl rfl rfl (Lnt (Gs.cond rfl (fun hc1 => ?_) (fun hc1 => ?_))))
 ·
  have hstop : readS n (bs.length - es.length) (decide (m = 0)) (bs.drop m) = ([], 0) := readS_stop hnx (.inr (by
    rcases hres with ⟨h, -, -⟩ | ⟨h, -⟩
    · exact .inr ⟨_, h, by simpa using hc1⟩
    · exact .inl h))
  refine Gsr (Lmv rfl rfl (Lmv rfl rfl (Las rfl rfl (Las rfl rfl (Lnt (Gs.ret (Gr (Gs.blk_r (Gr (Gs.blk_r (Gs.takes (As := [sl 106 8 entC ca cc es, big (es.map entO)]) (by repeat constructor) (Gs.toTwo ?_))))))))))))
  exact Gs.fin2 Tryz.results127 rfl rfl _ (⟨ca, cc, es, by rw [hrd, hstop]; rfl, by rw [hrd, hstop, List.append_nil], rfl⟩) (by repeat constructor)
 have hmay : mayE e.p n = true := by simpa using hc1
 have hen : readEn k held = some e.p := by
   rcases hres with ⟨h, -, -⟩ | ⟨-, h⟩
   · exact h
   · rcases h with h | h | h
     · rw [hg4] at h; cases h
     · omega
     · rw [h n] at hmay; cases hmay
 have hf : bs.length - es.length = (bs.length - (es ++ [e]).length) + 1 := by rw [List.length_append, List.length_cons, List.length_nil]; omega
 have hgo : readS n (bs.length - es.length) (decide (m = 0)) (bs.drop m) = (e.p :: (readS n (bs.length - (es ++ [e]).length) false (bs.drop (m + len))).1, len + (readS n (bs.length - (es ++ [e]).length) false (bs.drop (m + len))).2) := by
   rw [hf, readS_go hnx hfirst hen hmay, List.drop_drop]
 have hst : readS n bs.length true bs = (plainV (es ++ [e]) ++ (readS n (bs.length - (es ++ [e]).length) (decide (m + len = 0)) (bs.drop (m + len))).1, (m + len) + (readS n (bs.length - (es ++ [e]).length) (decide (m + len = 0)) (bs.drop (m + len))).2) := by
   rw [decide_eq_false (by omega : ¬ m + len = 0), hrd, hgo]
   refine Prod.ext ?_ ?_
   · show plainV es ++ e.p :: _ = plainV (es ++ [e]) ++ _
     rw [show plainV (es ++ [e]) = plainV es ++ [e.p] by simp [plainV], List.append_assoc]; rfl
   · show m + (len + _) = m + len + _
     omega
 refine Gs.skip (Gn (Gs.reg (Lmv rfl rfl (Lr rfl (rd_lda ag_106 rfl (Rdc.cl 8 (by repeat constructor) rfl) rfl) ?_))))
 refine La rfl (ac_lit encC_106 ([e]) et_98 ek_106 rfl (by repeat constructor) rfl rfl (by decide)) ?_
 rintro _ _ ⟨a61, rfl, rfl⟩
 refine La rfl (ac_append (xs := es) (ys := [e]) et_98 ek_106 rfl rfl (by repeat constructor) (SrcH.sl Tryz.underlying98 ek_106 (SlH.own (by repeat constructor))) (by first | omega | (simp; omega)) (by first | omega | (simp; omega))) ?_
 rintro _ _ ⟨a62, c62, rfl, rfl⟩
 refine Lmv rfl rfl (Las rfl rfl (Las rfl rfl (Lnil (Gs.takes (As := [entO e, big (es.map entO)]) (by repeat constructor) (Gs.bigBack take_snoc ?_)))))
 rw [show es.map entO ++ [entO e] = (es ++ [e]).map entO by simp]
 refine Gs.blk_n (Gn ?_)
 exact Ag (m + len, es ++ [e], a62, c62) ⟨by show m + len ≤ bs.length; omega, by show 12 * (es ++ [e]).length ≤ m + len; rw [List.length_append, List.length_cons, List.length_nil]; omega, ⟨fun h => by exfalso; have : m + len = 0 := h; omega, fun h => by exfalso; simp at h⟩, hst⟩ (by show bs.length - (m + len) < bs.length - m; omega)
end Go.Proofs.YtflfhpokmidnmaaGreatDoor
namespace Go.Proofs.YtflfhpokmidnmaaGreatDoor
open Go Go.Sl Go.Gv Go.Dv Go.Bst
set_option maxRecDepth 100000
def dig (k : Nat) : UInt8 := UInt8.ofNat (48 + k)
def nameL (k : Nat) : List UInt8 := [108, 111, 103, 46, 48, 48, 48, 48, 48, 48, 48, dig (k / 10), dig (k % 10)]
def nameK (k : Nat) : ByteArray := ⟨(nameL k).toArray⟩
theorem name_size (k : Nat) : (nameK k).size = 13 := rfl
theorem name_ok {k : Nat} (h : k < 100) : asciiB (nameK k) = true ∧ namedB (nameK k) = true := by
 have h1 : ∀ k : Fin 100, (asciiB (nameK k.val) && namedB (nameK k.val)) = true := by decide +kernel
 have h2 := h1 ⟨k, h⟩
 rwa [Bool.and_eq_true] at h2
theorem dig_inj {i j : Nat} (hi : i < 100) (hj : j < 100) (h : dig i = dig j) : i = j := by
 have := congrArg UInt8.toNat h
 unfold dig at this
 rw [UInt8.toNat_ofNat', UInt8.toNat_ofNat'] at this
 omega
theorem name_inj {i j : Nat} (hi : i < 100) (hj : j < 100) (h : nameK i = nameK j) : i = j := by
 have e : nameL i = nameL j := congrArg (fun s : ByteArray => s.data.toList) h
 simp only [nameL, List.cons.injEq, and_true, true_and] at e
 have e1 := dig_inj (by omega) (by omega) e.1
 have e2 := dig_inj (by omega) (by omega) e.2
 omega
theorem name_le {i j : Nat} (hij : i ≤ j) (hj : j < 100) : (nameK i).data.toList ≤ (nameK j).data.toList := by
 have h1 : ∀ j : Fin 100, ∀ i : Fin 100, i.val ≤ j.val → nameL i.val ≤ nameL j.val := by decide +kernel
 exact h1 ⟨j, hj⟩ ⟨i, by omega⟩ hij
structure Pa where
 n : ByteArray
 z : Nat
 t : List Int
structure Lg where
 made : Nat
 ps : List Pa
def noteT (t : List Int) (e : EntP) : List Int := if e.kind = 2 then t.set e.r.o.toNat (max (t.getD e.r.o.toNat 0) e.r.q) else t
def noteP (p : Pa) (e : EntP) (z : Nat) : Pa := ⟨p.n, p.z + z, noteT p.t e⟩
def zeros (n : Int) : List Int := List.replicate n.toNat 0
def topsOf (n : Int) (es : List EntP) : List Int := es.foldl noteT (zeros n)
theorem noteT_len (t : List Int) (e : EntP) : (noteT t e).length = t.length := by unfold noteT; split <;> simp
theorem fold_len : ∀ (es : List EntP) (t : List Int), (es.foldl noteT t).length = t.length
 | [], _ => rfl
 | e :: es, t => by rw [List.foldl_cons, fold_len es, noteT_len]
theorem tops_len (n : Int) (es : List EntP) : (topsOf n es).length = n.toNat := by unfold topsOf; rw [fold_len]; simp [zeros]
theorem tops_snoc (n : Int) (es : List EntP) (e : EntP) : topsOf n (es ++ [e]) = noteT (topsOf n es) e := by simp [topsOf]
def noteAll (p : Pa) (es : List EntP) : Pa := es.foldl (fun p e => noteP p e 0) p
theorem noteAll_eq (n : Int) (nm : ByteArray) (z : Nat) (es : List EntP) : noteAll ⟨nm, z, zeros n⟩ es = ⟨nm, z, topsOf n es⟩ := by
 have : ∀ (es : List EntP) (t : List Int), noteAll ⟨nm, z, t⟩ es = ⟨nm, z, es.foldl noteT t⟩ := fun es => by
   induction es with
   | nil => intro t; rfl
   | cons e es ih => intro t; exact ih (noteT t e)
 exact this es _
theorem noteAll_snoc (p : Pa) (es : List EntP) (e : EntP) : noteAll p (es ++ [e]) = noteP (noteAll p es) e 0 := by simp [noteAll]
def baseE (v w : List Int) : EntP := ⟨1, v, w, Rec.zero⟩
def mayW (n : Int) (e : EntP) (v w : List Int) : Bool := !decide (e.kind = 1) && (mayE e n && (vecB v n && (vecB w n && belowB w v)))
structure WOut where
 e : Int
 D : List Fl
 L : Lg
def writeL (most n : Int) (D : List Fl) (made : Nat) (U : List Pa) (p : Pa) (e : EntP) (v w : List Int) : WOut :=
 if mayW n e v w = false then ⟨2, D, ⟨made, U ++ [p]⟩⟩
 else if p.z < 400 then
   if appE most D p.n (layE e) = 0 then ⟨0, appL most D p.n (layE e), ⟨made, U ++ [noteP p e (layE e).length]⟩⟩ else ⟨appE most D p.n (layE e), D, ⟨made, U ++ [p]⟩⟩
 else if appE most (syncL D [p.n]) (nameK (made + 1)) (layE (baseE v w) ++ layE e) = 0 then
   ⟨0, appL most (syncL D [p.n]) (nameK (made + 1)) (layE (baseE v w) ++ layE e), ⟨made + 1, (U ++ [p]) ++ [noteP ⟨nameK (made + 1), (layE (baseE v w)).length, zeros n⟩ e (layE e).length]⟩⟩
 else ⟨appE most (syncL D [p.n]) (nameK (made + 1)) (layE (baseE v w) ++ layE e), syncL D [p.n], ⟨made + 1, U ++ [p]⟩⟩
structure ROut where
 es : List EntP
 D : List Fl
 ps : List Pa
def bytesF (D : List Fl) (nm : ByteArray) : List UInt8 := match lookF D nm with
 | some f => f.b
 | none => []
def readF (n : Int) (D : List Fl) (nm : ByteArray) : ROut :=
 let b := bytesF D nm
 let r := readS n b.length true b
 if r.1 = [] then ⟨[], del D nm, []⟩ else ⟨r.1, if r.2 < b.length then cutL D nm r.2 else D, [noteAll ⟨nm, r.2, zeros n⟩ r.1]⟩
structure OOut where
 D : List Fl
 L : Lg
 out : List EntP
def openL (n : Int) : List Nat → OOut → OOut
 | [], o => o
 | k :: ks, o => openL n ks ⟨(readF n o.D (nameK k)).D, ⟨max o.L.made k, o.L.ps ++ (readF n o.D (nameK k)).ps⟩, o.out ++ (readF n o.D (nameK k)).es⟩
theorem openL_snoc (n : Int) : ∀ (ks : List Nat) (k : Nat) (o : OOut), openL n (ks ++ [k]) o = openL n [k] (openL n ks o)
 | [], _, _ => rfl
 | _ :: ks, k, _ => openL_snoc n ks k _
end Go.Proofs.YtflfhpokmidnmaaGreatDoor
namespace Go.Dv
open Go Go.Kv Go.Bst
section last
variable {X : List Fl} {n : ByteArray}
theorem last_look (h : lookF X n = none) (f : Fl) (hf : f.n = n) : lookF (X ++ [f]) n = some f := by
 unfold lookF at h ⊢
 rw [List.find?_append, h]; simp [hf]
theorem last_upd (h : lookF X n = none) (f : Fl) (hf : f.n = n) (g : Fl → Fl) : upd (X ++ [f]) n g = X ++ [g f] := by
 have hne : ∀ x ∈ X, x.n ≠ n := fun x hx e => lookF_none.1 h (e ▸ List.mem_map_of_mem hx)
 simp only [upd, List.map_append, List.map_cons, List.map_nil, hf, if_true]
 congr 1
 conv => rhs; rw [← List.map_id X]
 exact List.map_congr_left fun x hx => by simp [hne x hx]
theorem last_new (h : lookF X n = none) {most : Int} {bs : List UInt8} (hm : namedB n = true) (hr : (used X : Int) + bs.length ≤ most) : appE most X n bs = 0 ∧ appL most X n bs = X ++ [⟨n, bs, 0⟩] := by
 have e : appE most X n bs = 0 := by simp only [appE, hm, if_true]; rw [if_neg (by omega)]
 exact ⟨e, by simp [appL, e, appD, h]⟩
theorem last_more (h : lookF X n = none) {most : Int} {b bs : List UInt8} {s : Nat} (hm : namedB n = true) (hr : (used X : Int) + b.length + bs.length ≤ most) : appE most (X ++ [⟨n, b, s⟩]) n bs = 0 ∧ appL most (X ++ [⟨n, b, s⟩]) n bs = X ++ [⟨n, b ++ bs, s⟩] := by
 have e : appE most (X ++ [⟨n, b, s⟩]) n bs = 0 := by simp only [appE, hm, if_true]; rw [if_neg (by rw [used_app]; simp only [used, List.map_cons, List.map_nil, List.sum_cons, List.sum_nil] at hr ⊢; omega)]
 exact ⟨e, by simp only [appL, e, if_true, appD, last_look h ⟨n, b, s⟩ rfl, Option.isSome_some]; exact last_upd h ⟨n, b, s⟩ rfl _⟩
theorem last_sync (h : lookF X n = none) {b : List UInt8} {s : Nat} : allB (X ++ [⟨n, b, s⟩]) [n] = true ∧ syncL (X ++ [⟨n, b, s⟩]) [n] = X ++ [⟨n, b, b.length⟩] := by
 refine ⟨by simp [allB, last_look h ⟨n, b, s⟩ rfl], ?_⟩
 have hne : ∀ x ∈ X, ¬ n = x.n := fun x hx e => lookF_none.1 h (e ▸ List.mem_map_of_mem hx)
 simp only [syncL, List.map_append, List.map_cons, List.map_nil, List.any_cons, List.any_nil, Bool.or_false, decide_true, if_true]
 congr 1
 conv => rhs; rw [← List.map_id X]
 exact List.map_congr_left fun x hx => by simp [hne x hx]
end last
end Go.Dv
namespace Go.Proofs.YtflfhpokmidnmaaGreatDoor
open Go Go.Sl Go.Gv Go.Dv Go.Bst
set_option maxRecDepth 100000
structure Seg where
 k : Nat
 es : List EntP
 s : Nat
def segF (x : Seg) : Fl := ⟨nameK x.k, layS x.es, x.s⟩
def segP (n : Int) (x : Seg) : Pa := ⟨nameK x.k, (layS x.es).length, topsOf n x.es⟩
structure GoodS (n : Int) (es : List EntP) : Prop where
 may : ∀ e ∈ es, mayE e n = true
 base : ∀ (i : Nat) (e : EntP), es[i]? = some e → decide (e.kind = 1) = decide (i = 0)
 ne : es ≠ []
structure Inv (n : Int) (made : Nat) (xs : List Seg) : Prop where
 asc : xs.Pairwise fun x y => x.k < y.k
 num : ∀ x ∈ xs, 1 ≤ x.k ∧ x.k ≤ made
 good : ∀ x ∈ xs, GoodS n x.es
 safe : ∀ x ∈ xs, x.s ≤ (layS x.es).length
structure Cs where
 k : Nat
 es : List EntP
 m : Nat
 s : Nat
def csF (x : Cs) : Fl := ⟨nameK x.k, (layS x.es).take x.m, x.s⟩
def after (x : Cs) : Option Seg := if wholeN x.es x.m = 0 then none else
 some ⟨x.k, x.es.take (wholeN x.es x.m), if (layS (x.es.take (wholeN x.es x.m))).length < ((layS x.es).take x.m).length then (layS (x.es.take (wholeN x.es x.m))).length else x.s⟩
section names
variable {α : Type} {f : α → Fl} {k : α → Nat}
theorem names_map (hf : ∀ x, (f x).n = nameK (k x)) (xs : List α) : names (xs.map f) = (xs.map k).map nameK := by
 simp only [names, List.map_map]
 exact List.map_congr_left fun x _ => hf x
theorem names_nd (hf : ∀ x, (f x).n = nameK (k x)) {xs : List α} (ha : xs.Pairwise fun x y => k x < k y) (hl : ∀ x ∈ xs, k x < 100) : (names (xs.map f)).Nodup := by
 rw [names_map hf, List.map_map]
 unfold List.Nodup
 rw [List.pairwise_map]
 exact (List.pairwise_iff_forall_sublist.2 fun {a b} h => by
   have h1 := List.pairwise_iff_forall_sublist.1 ha h
   have h2 := hl a (h.subset (by simp))
   have h3 := hl b (h.subset (by simp))
   exact fun e => by have := name_inj h2 h3 e; omega)
theorem sort_names (hf : ∀ x, (f x).n = nameK (k x)) {xs : List α} (ha : xs.Pairwise fun x y => k x < k y) (hl : ∀ x ∈ xs, k x < 100) : sortB (names (xs.map f)) = (xs.map k).map nameK := by
 rw [← names_map hf]
 refine sortB_eq (List.Perm.refl _) ?_
 rw [names_map hf, List.map_map, List.pairwise_map]
 exact List.pairwise_iff_forall_sublist.2 fun {a b} h => by
   have h1 := List.pairwise_iff_forall_sublist.1 ha h
   have h3 := hl b (h.subset (by simp))
   exact name_le (by omega) h3
end names
section at_
variable {A B : List Fl} {f : Fl}
theorem not_name {A : List Fl} {n : ByteArray} (h : n ∉ names A) : ∀ x ∈ A, x.n ≠ n := fun x hx e => h (e ▸ List.mem_map_of_mem hx)
theorem at_look (hA : f.n ∉ names A) : lookF (A ++ f :: B) f.n = some f := by
 have h := lookF_none.2 hA
 unfold lookF at h ⊢
 rw [List.find?_append, h]; simp
theorem at_del (hA : f.n ∉ names A) (hB : f.n ∉ names B) : del (A ++ f :: B) f.n = A ++ B := by
 unfold del
 rw [List.filter_append, List.filter_cons]
 simp only [ne_eq, not_true_eq_false, decide_false, Bool.false_eq_true, if_false]
 rw [List.filter_eq_self.2 fun x hx => by simpa using not_name hA x hx, List.filter_eq_self.2 fun x hx => by simpa using not_name hB x hx]
theorem at_upd (hA : f.n ∉ names A) (hB : f.n ∉ names B) (g : Fl → Fl) : upd (A ++ f :: B) f.n g = A ++ g f :: B := by
 unfold upd
 rw [List.map_append, List.map_cons, if_pos rfl]
 have e : ∀ C : List Fl, f.n ∉ names C → C.map (fun x => if x.n = f.n then g x else x) = C := fun C h => by
   conv => rhs; rw [← List.map_id C]
   exact List.map_congr_left fun x hx => by simp [not_name h x hx]
 rw [e A hA, e B hB]
end at_
theorem whole_len (es : List EntP) (m : Nat) : (layS (es.take (wholeN es m))).length ≤ ((layS es).take m).length := by
 induction es generalizing m with
 | nil => simp [layS]
 | cons e es ih =>
   unfold wholeN
   split
   · rename_i h
     rw [List.take_succ_cons, layS_cons, layS_cons, List.length_append, List.take_append, List.length_append, List.take_of_length_le h]
     have := ih (m - (layE e).length); omega
   · simp [layS]
theorem layS_len (es : List EntP) : es.length ≤ (layS es).length := by
 induction es with
 | nil => exact Nat.zero_le _
 | cons e es ih => rw [layS_cons, List.length_append, List.length_cons]; have := layE_pos e; omega
theorem readS_fuel {n : Int} {es : List EntP} (hm : ∀ e ∈ es, mayE e n = true) (hb : ∀ (i : Nat) (e : EntP), es[i]? = some e → decide (e.kind = 1) = decide (i = 0)) (m : Nat) :
   readS n ((layS es).take m).length true ((layS es).take m) = (es.take (wholeN es m), (layS (es.take (wholeN es m))).length) := by
 obtain ⟨junk, h1, h2⟩ := take_whole es m hm
 have hl : (es.take (wholeN es m)).length ≤ ((layS es).take m).length := Nat.le_trans (layS_len _) (whole_len es m)
 rw [h1] at hl ⊢
 exact readS_lay _ _ true junk hl (fun e he => hm e (List.mem_of_mem_take he)) (base_take (first := true) (fun i e hi => by rw [hb i e hi]; simp) _) h2
theorem readF_cs {n : Int} {A B : List Fl} {x : Cs} (hg : GoodS n x.es) (hA : nameK x.k ∉ names A) (hB : nameK x.k ∉ names B) :
   readF n (A ++ csF x :: B) (nameK x.k) = ⟨((after x).toList.flatMap Seg.es), A ++ ((after x).toList.map segF ++ B), (after x).toList.map (segP n)⟩ := by
 have hl : lookF (A ++ csF x :: B) (nameK x.k) = some (csF x) := at_look (f := csF x) hA
 have hb : bytesF (A ++ csF x :: B) (nameK x.k) = (layS x.es).take x.m := by unfold bytesF; rw [hl]; rfl
 unfold readF
 simp only [hb, readS_fuel hg.may hg.base x.m]
 unfold after
 by_cases h0 : wholeN x.es x.m = 0
 · rw [if_pos h0, if_pos (by rw [h0]; rfl)]
   simp only [Option.toList_none, List.flatMap_nil, List.map_nil, List.nil_append]
   rw [show del (A ++ csF x :: B) (nameK x.k) = A ++ B from at_del (f := csF x) hA hB]
 · have hne : x.es.take (wholeN x.es x.m) ≠ [] := fun e => by
     have h1 := congrArg List.length e
     rw [List.length_take, List.length_nil] at h1
     have h2 : x.es.length ≠ 0 := fun h => hg.ne (List.length_eq_zero_iff.1 h)
     omega
   rw [if_neg h0, if_neg hne]
   simp only [Option.toList_some, List.flatMap_cons, List.flatMap_nil, List.append_nil, List.map_cons, List.map_nil, List.cons_append, List.nil_append]
   have hw := whole_len x.es x.m
   have hpre : (layS x.es).take x.m = layS (x.es.take (wholeN x.es x.m)) ++ ((layS x.es).take x.m).drop (layS (x.es.take (wholeN x.es x.m))).length := by
     obtain ⟨junk, h1, -⟩ := take_whole (n := n) x.es x.m hg.may
     rw [h1, List.drop_left]
   by_cases hlt : (layS (x.es.take (wholeN x.es x.m))).length < ((layS x.es).take x.m).length
   · rw [if_pos hlt, if_pos hlt]
     have hE : cutE (A ++ csF x :: B) (nameK x.k) ((layS (x.es.take (wholeN x.es x.m))).length : Nat) = 0 := by
       unfold cutE; rw [hl]
       exact if_pos ⟨Int.natCast_nonneg _, by show ((layS (x.es.take (wholeN x.es x.m))).length : Int) ≤ ((layS x.es).take x.m).length; omega⟩
     have hL : cutL (A ++ csF x :: B) (nameK x.k) ((layS (x.es.take (wholeN x.es x.m))).length : Nat) = A ++ segF ⟨x.k, x.es.take (wholeN x.es x.m), (layS (x.es.take (wholeN x.es x.m))).length⟩ :: B := by
       unfold cutL; rw [if_pos hE, show upd (A ++ csF x :: B) (nameK x.k) _ = _ from at_upd (f := csF x) hA hB _]
       refine congrArg (fun z => A ++ z :: B) ?_
       show Fl.mk (nameK x.k) (((layS x.es).take x.m).take (Int.toNat ((layS (x.es.take (wholeN x.es x.m))).length : Nat))) _ = Fl.mk _ _ _
       rw [Int.toNat_natCast]
       congr 1
       conv => lhs; rw [hpre]
       rw [List.take_left]
     rw [hL]
     refine congrArg (fun z => ROut.mk _ _ [z]) ?_
     rw [noteAll_eq]; rfl
   · rw [if_neg hlt, if_neg hlt]
     have heq : (layS x.es).take x.m = layS (x.es.take (wholeN x.es x.m)) := by
       have := hpre
       rw [List.drop_eq_nil_of_le (by omega), List.append_nil] at this
       exact this
     have hf : csF x = segF ⟨x.k, x.es.take (wholeN x.es x.m), x.s⟩ := by unfold csF segF; rw [heq]
     rw [hf]
     refine congrArg (fun z => ROut.mk _ _ [z]) ?_
     rw [noteAll_eq]; rfl
theorem openL_cs {n : Int} : ∀ (xs : List Cs) (A : List Fl) (L : Lg) (out : List EntP), (∀ x ∈ xs, GoodS n x.es) → (∀ x ∈ xs, x.k < 100) → xs.Pairwise (fun x y => x.k < y.k) → (∀ x ∈ xs, nameK x.k ∉ names A) →
   openL n (xs.map Cs.k) ⟨A ++ xs.map csF, L, out⟩ = ⟨A ++ (xs.filterMap after).map segF, ⟨(xs.map Cs.k).foldl max L.made, L.ps ++ (xs.filterMap after).map (segP n)⟩, out ++ (xs.filterMap after).flatMap Seg.es⟩
 | [], A, L, out, _, _, _, _ => by simp [openL]
 | x :: xs, A, L, out, hg, hl, ha, hA => by
   have hx := hg x (by simp)
   rw [List.pairwise_cons] at ha
   have hB : nameK x.k ∉ names (xs.map csF) := by
     rw [names_map (k := Cs.k) (fun _ => rfl), List.map_map]
     intro h
     obtain ⟨y, hy, e⟩ := List.mem_map.1 h
     have h1 := ha.1 y hy
     have h2 := hl y (by simp [hy])
     have h3 : x.k = y.k := name_inj (by omega) h2 e.symm
     omega
   have hr := readF_cs (n := n) (A := A) (B := xs.map csF) hx (hA x (by simp)) hB
   rw [List.map_cons, List.map_cons, openL]
   simp only [hr]
   rw [← List.append_assoc, openL_cs xs (A ++ (after x).toList.map segF) _ _ (fun y hy => hg y (by simp [hy])) (fun y hy => hl y (by simp [hy])) ha.2 (fun y hy => by
     unfold names
     rw [List.map_append, List.mem_append]
     rintro (h | h)
     · exact hA y (by simp [hy]) h
     · rw [List.map_map] at h
       obtain ⟨z, hz, e⟩ := List.mem_map.1 h
       have hzk : z.k = x.k := by
         unfold after at hz
         split at hz
         · simp at hz
         · simp at hz; rw [hz]
       have h1 := ha.1 y hy
       have h2 := hl y (by simp [hy])
       have h3 : z.k = y.k := name_inj (by omega) h2 e
       omega)]
   rw [List.foldl_cons]
   cases h : after x with
   | none => simp [List.filterMap_cons, h]
   | some z => simp [List.filterMap_cons, h]
end Go.Proofs.YtflfhpokmidnmaaGreatDoor
namespace Go.Proofs.YtflfhpokmidnmaaGreatDoor
open Go Go.Sl Go.Gv Go.Dv Go.Bst
set_option maxRecDepth 100000
def syn (x : Seg) : Seg := ⟨x.k, x.es, (layS x.es).length⟩
def usedS (xs : List Seg) : Nat := (xs.map fun x => (layS x.es).length).sum
theorem used_seg (xs : List Seg) : used (xs.map segF) = usedS xs := by
 unfold used usedS; rw [List.map_map]; rfl
structure SOut where
 e : Int
 made : Nat
 xs : List Seg
def wrS (most : Int) (made : Nat) (X : List Seg) (x : Seg) (e : EntP) (v w : List Int) : SOut :=
 if (layS x.es).length < 400 then
   if most < usedS (X ++ [x]) + (layE e).length then ⟨8, made, X ++ [x]⟩ else ⟨0, made, X ++ [⟨x.k, x.es ++ [e], x.s⟩]⟩
 else if most < usedS (X ++ [x]) + ((layE (baseE v w)).length + (layE e).length) then ⟨8, made + 1, X ++ [syn x]⟩ else ⟨0, made + 1, X ++ [syn x] ++ [⟨made + 1, [baseE v w, e], 0⟩]⟩
def flatS (xs : List Seg) : List EntP := xs.flatMap Seg.es
theorem mayW_iff {n : Int} {e : EntP} {v w : List Int} (h : mayW n e v w = true) : e.kind ≠ 1 ∧ mayE e n = true ∧ mayE (baseE v w) n = true := by
 simp only [mayW, Bool.and_eq_true, Bool.not_eq_true', decide_eq_false_iff_not] at h
 obtain ⟨h1, h2, h3, h4, h5⟩ := h
 refine ⟨h1, h2, ?_⟩
 unfold mayE baseE
 simp [h3, h4, h5]
theorem look_init {n : Int} {made : Nat} {X : List Seg} {x : Seg} (h : Inv n made (X ++ [x])) (hm : made < 100) : nameK x.k ∉ names (X.map segF) := by
 rw [names_map (k := Seg.k) (fun _ => rfl), List.map_map]
 intro hx
 obtain ⟨y, hy, e⟩ := List.mem_map.1 hx
 have h1 := (List.pairwise_append.1 h.asc).2.2 y hy x (by simp)
 have h2 := h.num y (by simp [hy])
 have h3 := h.num x (by simp)
 have h4 : y.k = x.k := name_inj (by omega) (by omega) e
 omega
theorem look_new {n : Int} {made : Nat} {xs : List Seg} (h : Inv n made xs) (hm : made < 99) : nameK (made + 1) ∉ names (xs.map segF) := by
 rw [names_map (k := Seg.k) (fun _ => rfl), List.map_map]
 intro hx
 obtain ⟨y, hy, e⟩ := List.mem_map.1 hx
 have h2 := h.num y hy
 have h4 : y.k = made + 1 := name_inj (by omega) (by omega) e
 omega
theorem layS_snoc (es : List EntP) (e : EntP) : layS (es ++ [e]) = layS es ++ layE e := by rw [layS_app]; simp [layS]
theorem layS_two (a b : EntP) : layS [a, b] = layE a ++ layE b := by simp [layS]
theorem used_snoc (X : List Seg) (x : Seg) : usedS (X ++ [x]) = usedS X + (layS x.es).length := by simp [usedS]
theorem zeros_note (n : Int) (v w : List Int) (e : EntP) : topsOf n [baseE v w, e] = noteT (zeros n) e := by
 show noteT (noteT (zeros n) (baseE v w)) e = _
 rfl
theorem writeL_eq {most n : Int} {made : Nat} {X : List Seg} {x : Seg} {e : EntP} {v w : List Int} (h : Inv n made (X ++ [x])) (hm : made < 99) (hw : mayW n e v w = true) :
   writeL most n ((X ++ [x]).map segF) made (X.map (segP n)) (segP n x) e v w = ⟨(wrS most made X x e v w).e, (wrS most made X x e v w).xs.map segF, ⟨(wrS most made X x e v w).made, (wrS most made X x e v w).xs.map (segP n)⟩⟩ := by
 have hk := h.num x (by simp)
 have hno := lookF_none.2 (look_init h (by omega))
 have hok := (name_ok (k := x.k) (by omega)).2
 have hok1 := (name_ok (k := made + 1) (by omega)).2
 have hnew := look_new h hm
 have hD : (X ++ [x]).map segF = X.map segF ++ [⟨nameK x.k, layS x.es, x.s⟩] := by simp [segF]
 have hu : used ((X ++ [x]).map segF) = usedS (X ++ [x]) := used_seg _
 have hu2 : usedS (X ++ [x]) = used (X.map segF) + (layS x.es).length := by rw [used_snoc, used_seg]
 unfold writeL wrS
 rw [if_neg (by rw [hw]; exact fun e => by cases e)]
 rw [show (segP n x).n = nameK x.k from rfl]
 by_cases hz : (layS x.es).length < 400
 · rw [if_pos (show (segP n x).z < 400 from hz), if_pos hz]
   by_cases hr : most < usedS (X ++ [x]) + (layE e).length
   · rw [if_pos hr]
     have hE : appE most ((X ++ [x]).map segF) (nameK x.k) (layE e) = 8 := by unfold appE; rw [if_pos hok, hu, if_pos hr]
     rw [if_neg (by rw [hE]; decide), hE]
     simp [segP]
   · rw [if_neg hr]
     have hl := last_more (s := x.s) hno (b := layS x.es) (bs := layE e) (most := most) hok (by rw [hu2] at hr; omega)
     rw [if_pos (show appE most ((X ++ [x]).map segF) (nameK x.k) (layE e) = 0 by rw [hD]; exact hl.1)]
     rw [show appL most ((X ++ [x]).map segF) (nameK x.k) (layE e) = X.map segF ++ [⟨nameK x.k, layS x.es ++ layE e, x.s⟩] by rw [hD]; exact hl.2]
     simp only [List.map_append, List.map_cons, List.map_nil, segF, segP, noteP, layS_snoc, List.length_append, tops_snoc]
 · rw [if_neg (show ¬ (segP n x).z < 400 from hz), if_neg hz]
   have hs : syncL ((X ++ [x]).map segF) [nameK x.k] = (X ++ [syn x]).map segF := by
     rw [hD]
     have := (last_sync (s := x.s) (b := layS x.es) hno).2
     rw [this]; simp [segF, syn]
   rw [hs]
   have hu3 : used ((X ++ [syn x]).map segF) = usedS (X ++ [x]) := by rw [used_seg, used_snoc, used_snoc]; rfl
   have hnew2 : lookF ((X ++ [syn x]).map segF) (nameK (made + 1)) = none := lookF_none.2 (by
     rw [names_map (k := Seg.k) (fun _ => rfl)] at hnew ⊢
     simpa [syn] using hnew)
   by_cases hr : most < usedS (X ++ [x]) + ((layE (baseE v w)).length + (layE e).length)
   · have hE : appE most ((X ++ [syn x]).map segF) (nameK (made + 1)) (layE (baseE v w) ++ layE e) = 8 := by unfold appE; rw [if_pos hok1, hu3, if_pos (by rw [List.length_append]; omega)]
     rw [if_pos hr, if_neg (by rw [hE]; decide), hE]
     simp [segP, syn]
   · have hl := last_new hnew2 (most := most) (bs := layE (baseE v w) ++ layE e) hok1 (by rw [hu3, List.length_append]; omega)
     rw [if_neg hr, if_pos hl.1, hl.2]
     simp only [List.map_append, List.map_cons, List.map_nil, segF, segP, noteP, layS_two, zeros_note, List.length_append, syn]
theorem wrS_code {most : Int} {made : Nat} {X : List Seg} {x : Seg} {e : EntP} {v w : List Int} : ((wrS most made X x e v w).e = 0 ∨ (wrS most made X x e v w).e = 8) ∧ made ≤ (wrS most made X x e v w).made ∧ (wrS most made X x e v w).made ≤ made + 1 := by
 unfold wrS
 split <;> split <;> simp
theorem GoodS.snoc {n : Int} {es : List EntP} (h : GoodS n es) {e : EntP} (hk : e.kind ≠ 1) (he : mayE e n = true) : GoodS n (es ++ [e]) := by
 refine ⟨fun x hx => ?_, fun i x hx => ?_, by simp⟩
 · rcases List.mem_append.1 hx with hx | hx
   · exact h.may x hx
   · simp at hx; subst hx; exact he
 · by_cases hi : i < es.length
   · rw [List.getElem?_append_left hi] at hx; exact h.base i x hx
   · rw [List.getElem?_append_right (by omega)] at hx
     have hlen : es.length ≠ 0 := fun e => h.ne (List.length_eq_zero_iff.1 e)
     have hx1 : i - es.length = 0 := by
       have := (List.getElem?_eq_some_iff.1 hx).1
       simp at this; omega
     rw [hx1] at hx
     simp at hx; subst hx
     rw [decide_eq_false hk, decide_eq_false (by omega)]
theorem GoodS.two {n : Int} {v w : List Int} {e : EntP} (hb : mayE (baseE v w) n = true) (hk : e.kind ≠ 1) (he : mayE e n = true) : GoodS n [baseE v w, e] :=
 GoodS.snoc (es := [baseE v w]) ⟨fun x hx => by simp at hx; subst hx; exact hb, fun i x hx => by
   cases i with
   | zero => simp at hx; subst hx; rfl
   | succ i => simp at hx, by simp⟩ hk he
theorem Inv.init {n : Int} {made : Nat} {X : List Seg} {x y : Seg} (h : Inv n made (X ++ [x])) (hk : y.k = x.k) (hg : GoodS n y.es) (hs : y.s ≤ (layS y.es).length) : Inv n made (X ++ [y]) := by
 have ha := List.pairwise_append.1 h.asc
 refine ⟨List.pairwise_append.2 ⟨ha.1, by simp, fun a h1 b h2 => by simp at h2; subst h2; rw [hk]; exact ha.2.2 a h1 x (by simp)⟩, fun z hz => ?_, fun z hz => ?_, fun z hz => ?_⟩ <;> rcases List.mem_append.1 hz with hz | hz
 · exact h.num z (by simp [hz])
 · simp at hz; subst hz; rw [hk]; exact h.num x (by simp)
 · exact h.good z (by simp [hz])
 · simp at hz; subst hz; exact hg
 · exact h.safe z (by simp [hz])
 · simp at hz; subst hz; exact hs
theorem Inv.more {n : Int} {made : Nat} {xs : List Seg} (h : Inv n made xs) {es : List EntP} {s : Nat} (hg : GoodS n es) (hs : s ≤ (layS es).length) : Inv n (made + 1) (xs ++ [⟨made + 1, es, s⟩]) := by
 refine ⟨List.pairwise_append.2 ⟨h.asc, by simp, fun a h1 b h2 => by simp at h2; subst h2; have := h.num a h1; show a.k < made + 1; omega⟩, fun z hz => ?_, fun z hz => ?_, fun z hz => ?_⟩ <;> rcases List.mem_append.1 hz with hz | hz
 · have := h.num z hz; omega
 · simp at hz; subst hz; simp
 · exact h.good z hz
 · simp at hz; subst hz; exact hg
 · exact h.safe z hz
 · simp at hz; subst hz; exact hs
theorem Inv.mono {n : Int} {made made' : Nat} {xs : List Seg} (h : Inv n made xs) (hm : made ≤ made') : Inv n made' xs := ⟨h.asc, fun x hx => by have := h.num x hx; omega, h.good, h.safe⟩
theorem wrS_inv {most n : Int} {made : Nat} {X : List Seg} {x : Seg} {e : EntP} {v w : List Int} (h : Inv n made (X ++ [x])) (hw : mayW n e v w = true) : Inv n (wrS most made X x e v w).made (wrS most made X x e v w).xs := by
 obtain ⟨hk, he, hb⟩ := mayW_iff hw
 have hg := h.good x (by simp)
 have hs := h.safe x (by simp)
 unfold wrS
 split
 · split
   · exact h
   · exact h.init rfl (hg.snoc hk he) (by show x.s ≤ (layS (x.es ++ [e])).length; rw [layS_snoc, List.length_append]; omega)
 · have h1 : Inv n made (X ++ [syn x]) := h.init rfl hg (Nat.le_refl _)
   split
   · exact h1.mono (Nat.le_succ made)
   · exact h1.more (GoodS.two hb hk he) (Nat.zero_le _)
theorem wrS_used {most : Int} {made : Nat} {X : List Seg} {x : Seg} {e : EntP} {v w : List Int} : usedS (wrS most made X x e v w).xs ≤ usedS (X ++ [x]) + ((layE (baseE v w)).length + (layE e).length) := by
 unfold wrS
 split <;> split <;> dsimp only <;> simp only [used_snoc, syn, layS_snoc, layS_two, List.length_append] <;> omega
theorem wrS_room {most : Int} {made : Nat} {X : List Seg} {x : Seg} {e : EntP} {v w : List Int} (hr : (usedS (X ++ [x]) : Int) + ((layE (baseE v w)).length + (layE e).length) ≤ most) : (wrS most made X x e v w).e = 0 := by
 unfold wrS
 split
 · rw [if_neg (by omega)]
 · rw [if_neg (by omega)]
theorem layE_len {e : EntP} {n : Int} (h : mayE e n = true) : (layE e).length ≤ 144 := by unfold layE; rw [frB_len]; have := body_len h; omega
theorem base_len {v w : List Int} {n : Int} (h : mayE (baseE v w) n = true) : (layE (baseE v w)).length ≤ 46 := by
 unfold mayE baseE at h
 simp only [if_true, Bool.and_eq_true] at h
 have h1 := vec_len h.1.1.2
 have h2 := vec_len h.1.2
 unfold layE bodyE baseE; rw [frB_len]
 simp only [if_true, List.length_append, nums_len]; omega
structure CsOk (n : Int) (xs : List Cs) : Prop where
 asc : xs.Pairwise fun x y => x.k < y.k
 num : ∀ x ∈ xs, 1 ≤ x.k ∧ x.k < 99
 good : ∀ x ∈ xs, GoodS n x.es
 safe : ∀ x ∈ xs, x.s ≤ ((layS x.es).take x.m).length
def topK (ks : List Nat) : Nat := ks.foldl max 0
theorem fold_max (ks : List Nat) (m : Nat) : (∀ k ∈ ks, k ≤ ks.foldl max m) ∧ m ≤ ks.foldl max m ∧ ∀ t, m ≤ t → (∀ k ∈ ks, k ≤ t) → ks.foldl max m ≤ t := by
 induction ks generalizing m with
 | nil => exact ⟨by simp, Nat.le_refl _, fun t h _ => h⟩
 | cons k ks ih =>
   obtain ⟨h1, h2, h3⟩ := ih (max m k)
   rw [List.foldl_cons]
   refine ⟨fun j hj => ?_, by omega, fun t ht hk => h3 t (by have := hk k (by simp); omega) fun j hj => hk j (by simp [hj])⟩
   rcases List.mem_cons.1 hj with rfl | hj
   · omega
   · exact h1 j hj
theorem GoodS.take {n : Int} {es : List EntP} (h : GoodS n es) {j : Nat} (hj : j ≠ 0) : GoodS n (es.take j) :=
 ⟨fun e he => h.may e (List.mem_of_mem_take he), (fun i e hi => by
   rw [List.getElem?_take] at hi
   split at hi
   · exact h.base i e hi
   · cases hi), (fun e => by
   have h1 := congrArg List.length e
   rw [List.length_take, List.length_nil] at h1
   have h2 : es.length ≠ 0 := fun e => h.ne (List.length_eq_zero_iff.1 e)
   omega)⟩
theorem after_some {x : Cs} {y : Seg} (h : after x = some y) : wholeN x.es x.m ≠ 0 ∧ y.k = x.k ∧ y.es = x.es.take (wholeN x.es x.m) ∧ (x.s ≤ ((layS x.es).take x.m).length → y.s ≤ (layS y.es).length) := by
 unfold after at h
 split at h
 · cases h
 · rename_i h0
   cases h
   refine ⟨h0, rfl, rfl, fun hs => ?_⟩
   show (if _ then _ else _) ≤ (layS (x.es.take (wholeN x.es x.m))).length
   split
   · exact Nat.le_refl _
   · omega
theorem CsOk.inv {n : Int} {xs : List Cs} (h : CsOk n xs) : Inv n (topK (xs.map Cs.k)) (xs.filterMap after) := by
 refine ⟨?_, fun y hy => ?_, fun y hy => ?_, fun y hy => ?_⟩
 · rw [List.pairwise_filterMap]
   exact h.asc.imp fun {a b} hab a' ha b' hb => by
     rw [(after_some ha).2.1, (after_some hb).2.1]; exact hab
 all_goals
   obtain ⟨x, hx, e⟩ := List.mem_filterMap.1 hy
   obtain ⟨h0, h1, h2, h3⟩ := after_some e
 · rw [h1]
   exact ⟨(h.num x hx).1, (fold_max (xs.map Cs.k) 0).1 _ (List.mem_map_of_mem hx)⟩
 · rw [h2]; exact (h.good x hx).take h0
 · exact h3 (h.safe x hx)
theorem CsOk.top {n : Int} {xs : List Cs} (h : CsOk n xs) {t : Nat} (ht : ∀ x ∈ xs, x.k ≤ t) : topK (xs.map Cs.k) ≤ t :=
 (fold_max (xs.map Cs.k) 0).2.2 t (Nat.zero_le _) fun k hk => by
   obtain ⟨x, hx, rfl⟩ := List.mem_map.1 hk
   exact ht x hx
def ofSeg (x : Seg) : Cs := ⟨x.k, x.es, (layS x.es).length, x.s⟩
theorem of_csF (x : Seg) : csF (ofSeg x) = segF x := by simp [csF, ofSeg, segF]
theorem of_after {n : Int} {x : Seg} (hg : GoodS n x.es) : after (ofSeg x) = some x := by
 have hw : wholeN x.es (layS x.es).length = x.es.length := whole_all _ _ (Nat.le_refl _)
 have h2 : x.es.length ≠ 0 := fun e => hg.ne (List.length_eq_zero_iff.1 e)
 unfold after ofSeg
 simp only [hw, List.take_length]
 rw [if_neg h2, if_neg (Nat.lt_irrefl _)]
theorem of_afters {n : Int} : ∀ {xs : List Seg}, (∀ x ∈ xs, GoodS n x.es) → (xs.map ofSeg).filterMap after = xs
 | [], _ => rfl
 | x :: xs, h => by
   rw [List.map_cons, List.filterMap_cons, of_after (h x (by simp)), of_afters fun y hy => h y (by simp [hy])]
theorem Inv.cs {n : Int} {made : Nat} {xs : List Seg} (h : Inv n made xs) (hm : made < 99) : CsOk n (xs.map ofSeg) := by
 refine ⟨?_, fun x hx => ?_, fun x hx => ?_, fun x hx => ?_⟩
 · rw [List.pairwise_map]; exact h.asc
 all_goals
   obtain ⟨y, hy, rfl⟩ := List.mem_map.1 hx
 · have := h.num y hy; exact ⟨this.1, by show y.k < 99; omega⟩
 · exact h.good y hy
 · show y.s ≤ ((layS y.es).take (layS y.es).length).length
   rw [List.take_length]; exact h.safe y hy
end Go.Proofs.YtflfhpokmidnmaaGreatDoor
namespace Go.Proofs
open Go.Shelf
def Tryz.laysItoa_ren : Go.Shelf.Ren := ⟨fun | 171 => 131 | 243 => 156 | 246 => 199 | 283 => 224 | 284 => 225 | 285 => 226 | 286 => 227 | 129 => 185 | 317 => 242 | 318 => 243 | 319 => 244 | 320 => 245 | 337 => 251 | 338 => 252 | n => n, fun | 3 => 3 | 9 => 9 | 2 => 2 | 4 => 4 | 171 => 310 | 0 => 0 | 53 => 165 | 37 => 83 | 5 => 5 | 173 => 312 | 212 => 328 | 51 => 268 | 20 => 20 | 213 => 329 | 46 => 65 | 232 => 350 | 233 => 351 | n => n, fun | 17 => 4 | 18 => 10 | 19 => 11 | n => n⟩
theorem Tryz.laysItoa : Go.Proofs.Lays.n171 Tryz.prog Tryz.laysItoa_ren := {
 mixed := by kernel_rfl
 f129 := Tryz.func185.trans (congrArg some (by kernel_rfl))
 f171 := Tryz.func131.trans (congrArg some (by kernel_rfl))
 f243 := Tryz.func156.trans (congrArg some (by kernel_rfl))
 f246 := Tryz.func199.trans (congrArg some (by kernel_rfl))
 f283 := Tryz.func224.trans (congrArg some (by kernel_rfl))
 f284 := Tryz.func225.trans (congrArg some (by kernel_rfl))
 f285 := Tryz.func226.trans (congrArg some (by kernel_rfl))
 f286 := Tryz.func227.trans (congrArg some (by kernel_rfl))
 f317 := Tryz.func242.trans (congrArg some (by kernel_rfl))
 f318 := Tryz.func243.trans (congrArg some (by kernel_rfl))
 f319 := Tryz.func244.trans (congrArg some (by kernel_rfl))
 f320 := Tryz.func245.trans (congrArg some (by kernel_rfl))
 f337 := Tryz.func251.trans (congrArg some (by kernel_rfl))
 f338 := Tryz.func252.trans (congrArg some (by kernel_rfl))
 t0 := Tryz.underlying0
 a0 := Tryz.isAgg0
 z0 := Tryz.sizeOf0
 v0 := Tryz.zeroValue0
 t2 := Tryz.underlying2
 a2 := Tryz.isAgg2
 z2 := Tryz.sizeOf2
 v2 := Tryz.zeroValue2
 t3 := Tryz.underlying3
 a3 := Tryz.isAgg3
 z3 := Tryz.sizeOf3
 v3 := Tryz.zeroValue3
 t4 := Tryz.underlying4
 a4 := Tryz.isAgg4
 z4 := Tryz.sizeOf4
 v4 := Tryz.zeroValue4
 t5 := Tryz.underlying5
 a5 := Tryz.isAgg5
 z5 := Tryz.sizeOf5
 v5 := Tryz.zeroValue5
 t9 := Tryz.underlying9
 a9 := Tryz.isAgg9
 z9 := Tryz.sizeOf9
 v9 := Tryz.zeroValue9
 t20 := Tryz.underlying20
 a20 := Tryz.isAgg20
 z20 := Tryz.sizeOf20
 v20 := Tryz.zeroValue20
 t37 := Tryz.underlying83
 a37 := Tryz.isAgg83
 z37 := Tryz.sizeOf83
 v37 := Tryz.zeroValue83
 t46 := Tryz.underlying65
 a46 := Tryz.isAgg65
 z46 := Tryz.sizeOf65
 v46 := Tryz.zeroValue65
 t51 := Tryz.underlying268
 a51 := Tryz.isAgg268
 z51 := Tryz.sizeOf268
 v51 := Tryz.zeroValue268
 t53 := Tryz.underlying165
 a53 := Tryz.isAgg165
 z53 := Tryz.sizeOf165
 v53 := Tryz.zeroValue165
 t171 := Tryz.underlying310
 a171 := Tryz.isAgg310
 z171 := Tryz.sizeOf310
 v171 := Tryz.zeroValue310
 t173 := Tryz.underlying312
 a173 := Tryz.isAgg312
 z173 := Tryz.sizeOf312
 v173 := Tryz.zeroValue312
 t212 := Tryz.underlying328
 a212 := Tryz.isAgg328
 z212 := Tryz.sizeOf328
 v212 := Tryz.zeroValue328
 t213 := Tryz.underlying329
 a213 := Tryz.isAgg329
 z213 := Tryz.sizeOf329
 t232 := Tryz.underlying350
 a232 := Tryz.isAgg350
 z232 := Tryz.sizeOf350
 v232 := Tryz.zeroValue350
 t233 := Tryz.underlying351
 a233 := Tryz.isAgg351
 z233 := Tryz.sizeOf351
 v233 := Tryz.zeroValue351
 g17 := by kernel_rfl
 g18 := by kernel_rfl
 g19 := by kernel_rfl }
def Tryz.laysRepeat_ren : Go.Shelf.Ren := ⟨fun | 105 => 132 | 212 => 157 | 99 => 86 | 165 => 158 | 166 => 159 | 170 => 160 | 169 => 161 | 263 => 200 | 264 => 201 | 206 => 123 | 240 => 202 | 241 => 203 | 276 => 228 | 277 => 229 | n => n, fun | 9 => 9 | 3 => 3 | 4 => 4 | 20 => 20 | 0 => 0 | 46 => 65 | 109 => 245 | 5 => 5 | 72 => 249 | 76 => 141 | 51 => 268 | 146 => 283 | 53 => 165 | 148 => 285 | 70 => 247 | 37 => 83 | 75 => 140 | 127 => 287 | 164 => 314 | 80 => 147 | n => n, fun | n => n⟩
theorem Tryz.laysRepeat : Go.Proofs.Lays.n105 Tryz.prog Tryz.laysRepeat_ren := {
 mixed := by kernel_rfl
 f99 := Tryz.func86.trans (congrArg some (by kernel_rfl))
 f105 := Tryz.func132.trans (congrArg some (by kernel_rfl))
 f165 := Tryz.func158.trans (congrArg some (by kernel_rfl))
 f166 := Tryz.func159.trans (congrArg some (by kernel_rfl))
 f169 := Tryz.func161.trans (congrArg some (by kernel_rfl))
 f170 := Tryz.func160.trans (congrArg some (by kernel_rfl))
 f206 := Tryz.func123.trans (congrArg some (by kernel_rfl))
 f212 := Tryz.func157.trans (congrArg some (by kernel_rfl))
 f240 := Tryz.func202.trans (congrArg some (by kernel_rfl))
 f241 := Tryz.func203.trans (congrArg some (by kernel_rfl))
 f263 := Tryz.func200.trans (congrArg some (by kernel_rfl))
 f264 := Tryz.func201.trans (congrArg some (by kernel_rfl))
 f276 := Tryz.func228.trans (congrArg some (by kernel_rfl))
 f277 := Tryz.func229.trans (congrArg some (by kernel_rfl))
 t0 := Tryz.underlying0
 a0 := Tryz.isAgg0
 z0 := Tryz.sizeOf0
 v0 := Tryz.zeroValue0
 t3 := Tryz.underlying3
 a3 := Tryz.isAgg3
 z3 := Tryz.sizeOf3
 v3 := Tryz.zeroValue3
 t4 := Tryz.underlying4
 a4 := Tryz.isAgg4
 z4 := Tryz.sizeOf4
 v4 := Tryz.zeroValue4
 t5 := Tryz.underlying5
 a5 := Tryz.isAgg5
 z5 := Tryz.sizeOf5
 v5 := Tryz.zeroValue5
 t9 := Tryz.underlying9
 a9 := Tryz.isAgg9
 z9 := Tryz.sizeOf9
 v9 := Tryz.zeroValue9
 t20 := Tryz.underlying20
 a20 := Tryz.isAgg20
 z20 := Tryz.sizeOf20
 v20 := Tryz.zeroValue20
 t37 := Tryz.underlying83
 a37 := Tryz.isAgg83
 z37 := Tryz.sizeOf83
 v37 := Tryz.zeroValue83
 t46 := Tryz.underlying65
 a46 := Tryz.isAgg65
 z46 := Tryz.sizeOf65
 v46 := Tryz.zeroValue65
 t51 := Tryz.underlying268
 a51 := Tryz.isAgg268
 z51 := Tryz.sizeOf268
 v51 := Tryz.zeroValue268
 t53 := Tryz.underlying165
 a53 := Tryz.isAgg165
 z53 := Tryz.sizeOf165
 v53 := Tryz.zeroValue165
 t70 := Tryz.underlying247
 a70 := Tryz.isAgg247
 z70 := Tryz.sizeOf247
 v70 := Tryz.zeroValue247
 t72 := Tryz.underlying249
 a72 := Tryz.isAgg249
 z72 := Tryz.sizeOf249
 v72 := Tryz.zeroValue249
 t75 := Tryz.underlying140
 a75 := Tryz.isAgg140
 z75 := Tryz.sizeOf140
 v75 := Tryz.zeroValue140
 t76 := Tryz.underlying141
 a76 := Tryz.isAgg141
 z76 := Tryz.sizeOf141
 v76 := Tryz.zeroValue141
 t109 := Tryz.underlying245
 a109 := Tryz.isAgg245
 z109 := Tryz.sizeOf245
 v109 := Tryz.zeroValue245
 t127 := Tryz.underlying287
 a127 := Tryz.isAgg287
 z127 := Tryz.sizeOf287
 v127 := Tryz.zeroValue287
 t146 := Tryz.underlying283
 a146 := Tryz.isAgg283
 z146 := Tryz.sizeOf283
 v146 := Tryz.zeroValue283
 t148 := Tryz.underlying285
 a148 := Tryz.isAgg285
 z148 := Tryz.sizeOf285
 v148 := Tryz.zeroValue285
 t164 := Tryz.underlying314
 a164 := Tryz.isAgg314
 z164 := Tryz.sizeOf314
 v164 := Tryz.zeroValue314 }
def Tryz.laysAtoi_ren : Go.Shelf.Ren := ⟨fun | 172 => 87 | 244 => 124 | 245 => 125 | 247 => 147 | 279 => 148 | 280 => 149 | 281 => 150 | 282 => 151 | 287 => 194 | 316 => 195 | 171 => 131 | 205 => 196 | 321 => 221 | 322 => 222 | 243 => 156 | 246 => 199 | 283 => 224 | 284 => 225 | 285 => 226 | 286 => 227 | 129 => 185 | 317 => 242 | 318 => 243 | 319 => 244 | 320 => 245 | 337 => 251 | 338 => 252 | n => n, fun | 9 => 9 | 3 => 3 | 75 => 140 | 76 => 141 | 4 => 4 | 5 => 5 | 167 => 232 | 37 => 83 | 0 => 0 | 85 => 233 | 2 => 2 | 168 => 235 | 53 => 165 | 175 => 275 | 46 => 65 | 210 => 278 | 127 => 287 | 145 => 308 | 143 => 306 | 21 => 21 | 171 => 310 | 173 => 312 | 212 => 328 | 51 => 268 | 20 => 20 | 213 => 329 | 232 => 350 | 233 => 351 | 80 => 147 | n => n, fun | 15 => 2 | 16 => 3 | 17 => 4 | 18 => 10 | 19 => 11 | n => n⟩
theorem Tryz.laysAtoi : Go.Proofs.Lays.n172 Tryz.prog Tryz.laysAtoi_ren := {
 mixed := by kernel_rfl
 f129 := Tryz.func185.trans (congrArg some (by kernel_rfl))
 f171 := Tryz.func131.trans (congrArg some (by kernel_rfl))
 f172 := Tryz.func87.trans (congrArg some (by kernel_rfl))
 f205 := Tryz.func196.trans (congrArg some (by kernel_rfl))
 f243 := Tryz.func156.trans (congrArg some (by kernel_rfl))
 f244 := Tryz.func124.trans (congrArg some (by kernel_rfl))
 f245 := Tryz.func125.trans (congrArg some (by kernel_rfl))
 f246 := Tryz.func199.trans (congrArg some (by kernel_rfl))
 f247 := Tryz.func147.trans (congrArg some (by kernel_rfl))
 f279 := Tryz.func148.trans (congrArg some (by kernel_rfl))
 f280 := Tryz.func149.trans (congrArg some (by kernel_rfl))
 f281 := Tryz.func150.trans (congrArg some (by kernel_rfl))
 f282 := Tryz.func151.trans (congrArg some (by kernel_rfl))
 f283 := Tryz.func224.trans (congrArg some (by kernel_rfl))
 f284 := Tryz.func225.trans (congrArg some (by kernel_rfl))
 f285 := Tryz.func226.trans (congrArg some (by kernel_rfl))
 f286 := Tryz.func227.trans (congrArg some (by kernel_rfl))
 f287 := Tryz.func194.trans (congrArg some (by kernel_rfl))
 f316 := Tryz.func195.trans (congrArg some (by kernel_rfl))
 f317 := Tryz.func242.trans (congrArg some (by kernel_rfl))
 f318 := Tryz.func243.trans (congrArg some (by kernel_rfl))
 f319 := Tryz.func244.trans (congrArg some (by kernel_rfl))
 f320 := Tryz.func245.trans (congrArg some (by kernel_rfl))
 f321 := Tryz.func221.trans (congrArg some (by kernel_rfl))
 f322 := Tryz.func222.trans (congrArg some (by kernel_rfl))
 f337 := Tryz.func251.trans (congrArg some (by kernel_rfl))
 f338 := Tryz.func252.trans (congrArg some (by kernel_rfl))
 t0 := Tryz.underlying0
 a0 := Tryz.isAgg0
 z0 := Tryz.sizeOf0
 v0 := Tryz.zeroValue0
 t2 := Tryz.underlying2
 a2 := Tryz.isAgg2
 z2 := Tryz.sizeOf2
 v2 := Tryz.zeroValue2
 t3 := Tryz.underlying3
 a3 := Tryz.isAgg3
 z3 := Tryz.sizeOf3
 v3 := Tryz.zeroValue3
 t4 := Tryz.underlying4
 a4 := Tryz.isAgg4
 z4 := Tryz.sizeOf4
 v4 := Tryz.zeroValue4
 t5 := Tryz.underlying5
 a5 := Tryz.isAgg5
 z5 := Tryz.sizeOf5
 v5 := Tryz.zeroValue5
 t9 := Tryz.underlying9
 a9 := Tryz.isAgg9
 z9 := Tryz.sizeOf9
 v9 := Tryz.zeroValue9
 t20 := Tryz.underlying20
 a20 := Tryz.isAgg20
 z20 := Tryz.sizeOf20
 v20 := Tryz.zeroValue20
 t21 := Tryz.underlying21
 a21 := Tryz.isAgg21
 z21 := Tryz.sizeOf21
 v21 := Tryz.zeroValue21
 t37 := Tryz.underlying83
 a37 := Tryz.isAgg83
 z37 := Tryz.sizeOf83
 v37 := Tryz.zeroValue83
 t46 := Tryz.underlying65
 a46 := Tryz.isAgg65
 z46 := Tryz.sizeOf65
 v46 := Tryz.zeroValue65
 t51 := Tryz.underlying268
 a51 := Tryz.isAgg268
 z51 := Tryz.sizeOf268
 v51 := Tryz.zeroValue268
 t53 := Tryz.underlying165
 a53 := Tryz.isAgg165
 z53 := Tryz.sizeOf165
 v53 := Tryz.zeroValue165
 t75 := Tryz.underlying140
 a75 := Tryz.isAgg140
 z75 := Tryz.sizeOf140
 v75 := Tryz.zeroValue140
 t76 := Tryz.underlying141
 a76 := Tryz.isAgg141
 z76 := Tryz.sizeOf141
 v76 := Tryz.zeroValue141
 t85 := Tryz.underlying233
 a85 := Tryz.isAgg233
 z85 := Tryz.sizeOf233
 v85 := Tryz.zeroValue233
 t127 := Tryz.underlying287
 a127 := Tryz.isAgg287
 z127 := Tryz.sizeOf287
 v127 := Tryz.zeroValue287
 t143 := Tryz.underlying306
 a143 := Tryz.isAgg306
 z143 := Tryz.sizeOf306
 v143 := Tryz.zeroValue306
 t145 := Tryz.underlying308
 a145 := Tryz.isAgg308
 z145 := Tryz.sizeOf308
 v145 := Tryz.zeroValue308
 t167 := Tryz.underlying232
 a167 := Tryz.isAgg232
 z167 := Tryz.sizeOf232
 v167 := Tryz.zeroValue232
 t168 := Tryz.underlying235
 a168 := Tryz.isAgg235
 z168 := Tryz.sizeOf235
 v168 := Tryz.zeroValue235
 t171 := Tryz.underlying310
 a171 := Tryz.isAgg310
 z171 := Tryz.sizeOf310
 v171 := Tryz.zeroValue310
 t173 := Tryz.underlying312
 a173 := Tryz.isAgg312
 z173 := Tryz.sizeOf312
 v173 := Tryz.zeroValue312
 t175 := Tryz.underlying275
 a175 := Tryz.isAgg275
 z175 := Tryz.sizeOf275
 v175 := Tryz.zeroValue275
 t210 := Tryz.underlying278
 a210 := Tryz.isAgg278
 z210 := Tryz.sizeOf278
 v210 := Tryz.zeroValue278
 t212 := Tryz.underlying328
 a212 := Tryz.isAgg328
 z212 := Tryz.sizeOf328
 v212 := Tryz.zeroValue328
 t213 := Tryz.underlying329
 a213 := Tryz.isAgg329
 z213 := Tryz.sizeOf329
 t232 := Tryz.underlying350
 a232 := Tryz.isAgg350
 z232 := Tryz.sizeOf350
 v232 := Tryz.zeroValue350
 t233 := Tryz.underlying351
 a233 := Tryz.isAgg351
 z233 := Tryz.sizeOf351
 v233 := Tryz.zeroValue351
 g15 := by kernel_rfl
 g16 := by kernel_rfl
 g17 := by kernel_rfl
 g18 := by kernel_rfl
 g19 := by kernel_rfl }
end Go.Proofs
namespace Go.Proofs
open Go.Shelf
namespace YtflfhpokmidnmaaGreatDoor
open Go Go.Sl Go.Gv Go.RowKit
set_option maxRecDepth 100000
theorem itoa_spec (i : Nat) (hi : i < 100) : Ct Tryz.prog 131 [int i] [] (fun v hs => v = .string ⟨(Lib.decDigits i).toArray⟩ ∧ hs = []) :=
 Ct.ofBelow Tryz.func131 rfl (by kernel_rfl) (V := fun _ => .string ⟨(Lib.decDigits i).toArray⟩) (fun w0 w R st => (Any.strconv_Itoa_small Tryz.laysItoa i hi w).mono fun e w' ⟨h1, h2⟩ => ⟨h1, by rw [h2]; exact Below.refl _ _⟩) (fun _ => ⟨rfl, rfl⟩)
theorem builderX : Builder.Extra Tryz.prog Tryz.laysRepeat_ren where
 sizeBuilder := by kernel_rfl
 liesBuilder := by kernel_rfl
 t5 := Tryz.underlying5
 a5 := Tryz.isAgg5
 z5 := Tryz.sizeOf5
 v5 := Tryz.zeroValue5
 infoByte := by kernel_rfl
 cellsByte := by kernel_rfl
 sizeByte := by kernel_rfl
 neB5 := by decide
theorem repeat_spec (s : ByteArray) (c : Nat) (hc : c ≤ 1000) (hs : s.size ≤ 1000) : Ct Tryz.prog 132 [.string s, int c] [] (fun v hs => v = .string ⟨(Lib.repeatL s.data.toList c).toArray⟩ ∧ hs = []) :=
 Ct.ofBelow Tryz.func132 rfl (by kernel_rfl) (V := fun _ => .string ⟨(Lib.repeatL s.data.toList c).toArray⟩) (fun w0 w R st => Any.strings_Repeat Tryz.laysRepeat builderX s c w (by omega) (Nat.le_trans (Nat.mul_le_mul hs hc) (by decide))) (fun _ => ⟨rfl, rfl⟩)
theorem hasPrefix_specL (s p : ByteArray) : Ct Tryz.prog 86 [.string s, .string p] [] (fun v hs => v = .bool (Lib.hasPrefix s.data.toList p.data.toList) ∧ hs = []) :=
 Ct.ofBelow Tryz.func86 rfl (by kernel_rfl) (V := fun _ => .bool (Lib.hasPrefix s.data.toList p.data.toList)) (fun w0 w R st => (Any.strings_HasPrefix Tryz.laysHP s p w).mono fun e w' ⟨h1, h2⟩ => ⟨h1, by rw [h2]; exact Below.refl _ _⟩) (fun _ => ⟨rfl, rfl⟩)
theorem atoi_spec (s : ByteArray) (n : Int) (hl : s.size ≤ 18) (h : Lib.atoi s.data.toList = some n) : Ct Tryz.prog 87 [.string s] [] (fun v hs => v = .tuple #[int n, .nilIface] ∧ hs = []) :=
 Ct.ofBelow Tryz.func87 rfl (by kernel_rfl) (V := fun _ => .tuple #[int n, .nilIface]) (fun w0 w R st => (Any.strconv_Atoi Tryz.laysAtoi s n hl h w).mono fun e w' ⟨h1, t, h2⟩ => ⟨h1, by rw [h2]; exact ⟨rfl, rfl, rfl, by rw [Lib.bytesWorld_size]; omega, fun j hj => Lib.bytesWorld_at_old w _ t j hj⟩⟩) (fun _ => ⟨rfl, rfl⟩)
end YtflfhpokmidnmaaGreatDoor
end Go.Proofs
namespace Go.Sl
open Go
section
variable {P : Program} {env : Env} {d : Option Tmp} {x z : Operand} {T ty : TypeId} {pos : String} {af : Array Edge} {g : Option (Nat × Bool)}
theorem pu_sliceLS {s : ByteArray} {k : IntKind} {j : Int} (ht : P.underlying T = some .string) (hx : ev env x = some (.string s)) (hz : ev env z = some (.int k j)) (h0 : 0 ≤ j) (h1 : j ≤ s.size) :
   Pu P ⟨d, .slice T x (some z) none none, ty, pos, af, g⟩ env (.string (s.extract j.toNat s.size)) := fun ρ w e => by
 refine run_v (s := Instr.sliceAt T (ρ x) (some (ρ z)) none none) ?_
 rw [e.eval hx, e.eval hz]
 have hu : (underlying T).run P w = .ok .string w := by simp [underlying, ht, go_sem]
 unfold Instr.sliceAt
 simp only [Sem.run_bind, hu, Result.andThen_ok]
 unfold Instr.slice
 simp only [Sem.run_bind, hu, Result.andThen_ok]
 simp [go_sem, Instr.sliceBounds, Instr.sliceBound, asIntOf, h0, h1]
end
end Go.Sl
namespace Go.Proofs.YtflfhpokmidnmaaGreatDoor
open Go Go.Sl Go.Gv Go.Dv
set_option maxRecDepth 100000
structure PaV where
 p : Pa
 a : Option Addr
 c : Nat
abbrev paC (x : PaV) : List Value := [.string x.p.n, int (x.p.z : Nat), .slice x.a x.p.t.length x.c]
abbrev encC_127 : PaV → List Value := paC
theorem ek_127 : EncOk 3 paC := ⟨fun _ => rfl, fun x v hv => by
 simp only [paC, List.mem_cons, List.not_mem_nil, or_false] at hv
 rcases hv with rfl | rfl | rfl <;> rfl⟩
def topO (x : PaV) : HProp := sl 3 1 intC x.a x.c x.p.t
abbrev lgC (d : Nat) (n : Int) (made : Nat) (a : Option Addr) (l c : Nat) : List Value := [ptr d, int n, int (made : Nat), .slice a l c]
def lgr (b d : Nat) (n : Int) (L : Lg) : HProp := fun h => ∃ y : Option Addr × Nat × List PaV, y.2.2.map PaV.p = L.ps ∧ two (cl b 125 (lgC d n L.made y.1 y.2.2.length y.2.1)) (two (sl 127 3 paC y.1 y.2.1 y.2.2) (big (y.2.2.map topO))) h
section
variable {w0 : World} {nn : Nat} {env : Env} {H : List HProp} {X : Act → World → Prop}
theorem Gs.lgOpen {b d : Nat} {n : Int} {made : Nat} {ps : List Pa} {H' : List HProp} (t : Take (lgr b d n ⟨made, ps⟩) H H')
   (g : ∀ a c P, P.map PaV.p = ps → Gs w0 nn env (cl b 125 (lgC d n made a P.length c) :: sl 127 3 paC a c P :: big (P.map topO) :: H') X) : Gs w0 nn env H X := fun ac w e s => by
 obtain ⟨⟨a, c, P⟩, s1⟩ := (s.take t).ex
 obtain ⟨h1, s2⟩ := s1.pure
 have s3 := (Sat.two.1 s2).take (.tl .hd)
 exact g a c P h1 ac w e ((Sat.two.1 s3).takes (As := [cl b 125 (lgC d n made a P.length c), sl 127 3 paC a c P, big (P.map topO)]) (by repeat constructor))
theorem Gs.lgClose {b d : Nat} {n : Int} {made : Nat} {ps : List Pa} {a : Option Addr} {c l : Nat} {P : List PaV} {H' : List HProp} (t : Takes [cl b 125 (lgC d n made a l c), sl 127 3 paC a c P, big (P.map topO)] H H') (hl : l = P.length) (h : P.map PaV.p = ps)
   (g : Gs w0 nn env (lgr b d n ⟨made, ps⟩ :: H') X) : Gs w0 nn env H X := fun ac w e s => by
 subst hl
 have s1 := s.takes t
 have s2 : Sat w0 w (two (sl 127 3 paC a c P) (big (P.map topO)) :: cl b 125 (lgC d n made a P.length c) :: H') := Sat.two.2 (s1.takes (As := [sl 127 3 paC a c P, big (P.map topO), cl b 125 (lgC d n made a P.length c)]) (by repeat constructor))
 have s3 := Sat.two.2 (s2.take (.tl .hd))
 exact g ac w e (s3.ent fun h' x => ⟨(a, c, P), h, x⟩)
end
theorem name_of {k : Nat} (h : k < 100) : (⟨#[108, 111, 103, 46]⟩ : ByteArray) ++ (⟨(Lib.repeatL [48] (9 - (Lib.decDigits k).length)).toArray⟩ : ByteArray) ++ (⟨(Lib.decDigits k).toArray⟩ : ByteArray) = nameK k := by
 have e : ∀ (a b : List UInt8), (⟨a.toArray⟩ : ByteArray) ++ (⟨b.toArray⟩ : ByteArray) = ⟨(a ++ b).toArray⟩ := fun a b => by
   apply ByteArray.ext
   simp
 have e0 : (⟨#[108, 111, 103, 46]⟩ : ByteArray) = ⟨([108, 111, 103, 46] : List UInt8).toArray⟩ := rfl
 rw [e0, e, e]
 refine congrArg (fun l : List UInt8 => (⟨l.toArray⟩ : ByteArray)) ?_
 rw [Lib.decDigits]
 by_cases h1 : k < 10
 · rw [dif_pos h1]
   have e1 : k / 10 = 0 := by omega
   have e2 : k % 10 = k := by omega
   simp only [nameL, dig, e1, e2, List.length_cons, List.length_nil, Nat.zero_add, Nat.add_zero]
   rfl
 · rw [dif_neg h1, Lib.decDigits, dif_pos (by omega)]
   simp only [nameL, dig, List.length_append, List.length_cons, List.length_nil]
   rfl
theorem dec_len {k : Nat} (h : k < 100) : 1 ≤ (Lib.decDigits k).length ∧ (Lib.decDigits k).length ≤ 2 := by
 rw [Lib.decDigits]
 by_cases h1 : k < 10
 · rw [dif_pos h1]; simp
 · rw [dif_neg h1, Lib.decDigits, dif_pos (by omega)]; simp
theorem rep_len (c : Nat) : (Lib.repeatL [48] c).length = c := by rw [Lib.repeatL_length]; simp
theorem call_spec {b d : Nat} {n : Int} {made : Nat} {ps : List Pa} (h : made + 1 < 100) :
   Ct Tryz.prog 90 [ptr b] [lgr b d n ⟨made, ps⟩] (fun v hs => v = .string (nameK (made + 1)) ∧ hs = [lgr b d n ⟨made + 1, ps⟩]) := by
 have hdl := dec_len h
 have hrl := rep_len (9 - (Lib.decDigits (made + 1)).length)
 refine Cti Tryz.func90 (by kernel_rfl) 23 Tryz.ntmps90 rfl rfl fun w0 R => ?_
 refine Gs.lgOpen (by repeat constructor) fun a c P hP => ?_
 refine Gsr (Las rfl rfl (Lnt (Gsr (Lmv rfl rfl (Lq rfl (by first | exact pu_nil rfl | exact pu_nilF rfl) ?_)))))
 refine Lq rfl (pu_fa fa_125_2 rfl) (Lr rfl (rd_ld na_3 rfl (Rdc.cl1 (by repeat constructor) rfl)) ?_)
 refine Lq rfl (pu_addI (z := ((made + 1 : Nat) : Int)) rfl rfl (by omega) (by omega) (by omega)) ?_
 refine Lq rfl (by first | exact pu_nil rfl | exact pu_nilF rfl) ?_
 refine Lq rfl (pu_fa fa_125_2 rfl) (Lac0 rfl trivial (ac_st sz_3 rfl rfl (by repeat constructor) rfl rfl rfl rfl) ?_)
 rintro _ _ rfl
 refine Lnt (Gsr (Lmv rfl rfl (Lq rfl (by first | exact pu_nil rfl | exact pu_nilF rfl) ?_)))
 refine Lq rfl (pu_fa fa_125_2 rfl) (Lr rfl (rd_ld na_3 rfl (Rdc.cl1 (by repeat constructor) rfl)) ?_)
 refine La rfl (asC (itoa_spec (made + 1) h)) ?_
 rintro _ _ ⟨_, ⟨rfl, rfl⟩, rfl⟩
 refine Las rfl rfl (Lnt (Gsr (Lmv rfl rfl (Lq rfl (pu_lenS Tryz.underlying9 rfl) ?_))))
 rw [show ((⟨(Lib.decDigits (made + 1)).toArray⟩ : ByteArray).size) = (Lib.decDigits (made + 1)).length from rfl]
 refine Lq rfl (pu_subI (z := ((9 - (Lib.decDigits (made + 1)).length : Nat) : Int)) rfl rfl (by omega) (by omega) (by omega)) ?_
 refine La rfl (asC (repeat_spec ⟨#[48]⟩ (9 - (Lib.decDigits (made + 1)).length) (by omega) (by decide))) ?_
 rintro _ _ ⟨_, ⟨rfl, rfl⟩, rfl⟩
 refine Lq rfl (pu_addS (by show 4 + (Lib.repeatL [48] (9 - (Lib.decDigits (made + 1)).length)).length ≤ _; omega) rfl rfl) ?_
 refine Lmv rfl rfl (Lq rfl (pu_addS (by rw [ByteArray.size_append]; show 4 + (Lib.repeatL [48] (9 - (Lib.decDigits (made + 1)).length)).length + (Lib.decDigits (made + 1)).length ≤ _; omega) rfl rfl) ?_)
 rw [show (⟨#[108, 111, 103, 46]⟩ : ByteArray) ++ (⟨(Lib.repeatL ([48] : List UInt8) (9 - (Lib.decDigits (made + 1)).length)).toArray⟩ : ByteArray) ++ (⟨(Lib.decDigits (made + 1)).toArray⟩ : ByteArray) = nameK (made + 1) from name_of h]
 refine Las rfl rfl (Lnt (Gs.ret (Gs.lgClose (made := made + 1) (ps := ps) (a := a) (c := c) (P := P) (by repeat constructor) rfl hP ?_)))
 exact Gs.fin1 Tryz.results90 rfl _ (⟨rfl, rfl⟩) (by repeat constructor)
abbrev newP (nm : ByteArray) (z : Nat) (n : Int) (b : Nat) : PaV := ⟨⟨nm, z, zeros n⟩, some ⟨b, 0, none⟩, n.toNat⟩
theorem begin_spec {b d : Nat} {n : Int} {made : Nat} {ps : List Pa} {nm : ByteArray} {z : Nat} (h1 : 1 ≤ n) (h8 : n ≤ 8) (hl : ps.length ≤ 1000) :
   Ct Tryz.prog 92 [ptr b, .string nm, int (z : Nat)] [lgr b d n ⟨made, ps⟩] (fun v hs => v = .tuple #[] ∧ hs = [lgr b d n ⟨made, ps ++ [⟨nm, z, zeros n⟩]⟩]) := by
 refine Cti Tryz.func92 (by kernel_rfl) 23 Tryz.ntmps92 rfl rfl fun w0 R => ?_
 refine Gs.lgOpen (by repeat constructor) fun a c P hP => ?_
 have hPl : P.length = ps.length := by rw [← hP, List.length_map]
 have hzl : (List.replicate n.toNat (0 : Int)).length = n.toNat := by simp
 refine Gs.regD mixed (by kernel_rfl) (Rmv 0 rfl (by kernel_rfl) rfl (Rmv 1 rfl (by kernel_rfl) rfl (Rq 2 rfl (by kernel_rfl) (by first | exact pu_nil rfl | exact pu_nilF rfl) ?_)))
 refine Rq 3 rfl (by kernel_rfl) (pu_fa fa_125_3 rfl) (Rr 4 rfl (by kernel_rfl) (rd_ld na_123 rfl (Rdc.cl1 (by repeat constructor) rfl)) ?_)
 refine Rmv 5 rfl (by kernel_rfl) rfl (Rmv 6 rfl (by kernel_rfl) rfl (Rmv 7 rfl (by kernel_rfl) rfl (Rq 8 rfl (by kernel_rfl) (by first | exact pu_nil rfl | exact pu_nilF rfl) ?_)))
 refine Rq 9 rfl (by kernel_rfl) (pu_fa fa_125_1 rfl) (Rr 10 rfl (by kernel_rfl) (rd_ld na_3 rfl (Rdc.cl1 (by repeat constructor) rfl)) ?_)
 refine Rg.one (by kernel_rfl) (Stp.acK 11 rfl rfl (by kernel_rfl) trivial (ac_make intC 0 et_30 ek_3 zv_3 rfl rfl rfl (by omega) (by omega) (by omega) (by omega)) (by rintro _ _ ⟨mb, rfl, rfl⟩ w s; first | exact s.drop | exact s | exact Ent.sat (by repeat constructor) s) ?_)
 rintro _ _ ⟨mb, rfl, rfl⟩
 refine Rq 12 rfl (by kernel_rfl) (pu_build bd_127 (by repeat constructor) rfl) ?_
 refine Rg.one (by kernel_rfl) (Stp.acK 13 rfl rfl (by kernel_rfl) trivial (ac_lit encC_127 ([(newP nm z n mb)]) et_123 ek_127 rfl (by repeat constructor) rfl rfl (by decide)) (by rintro _ _ ⟨a19, rfl, rfl⟩ w s; first | exact s.drop | exact s | exact Ent.sat (by repeat constructor) s) ?_)
 rintro _ _ ⟨a19, rfl, rfl⟩
 refine Rg.one (by kernel_rfl) (Stp.ac 14 rfl rfl (by kernel_rfl) trivial (ac_append (xs := P) (ys := [(newP nm z n mb)]) et_123 ek_127 rfl rfl (by repeat constructor) (SrcH.sl Tryz.underlying123 ek_127 (SlH.own (by repeat constructor))) (by first | omega | (simp; omega)) (by first | omega | (simp; omega)))  ?_)
 rintro _ _ ⟨a20, c20, rfl, rfl⟩
 refine Rq 15 rfl (by kernel_rfl) (by first | exact pu_nil rfl | exact pu_nilF rfl) ?_
 refine Rq 16 rfl (by kernel_rfl) (pu_fa fa_125_3 rfl) (Rg.one (by kernel_rfl) (Stp.ac0 17 rfl rfl (by kernel_rfl) trivial (ac_st sz_123 rfl rfl (by repeat constructor) rfl rfl rfl rfl)  ?_))
 rintro _ _ rfl
 refine Rg.end (by kernel_rfl) (Gs.fin_n (Gs.takes (As := [topO (newP nm z n mb), big (P.map topO)]) (by repeat constructor) (Gs.bigBack take_snoc ?_)))
 rw [show P.map topO ++ [topO (newP nm z n mb)] = (P ++ [(newP nm z n mb)]).map topO by simp]
 refine Gs.lgClose (made := made) (ps := ps ++ [⟨nm, z, zeros n⟩]) (a := a20) (c := c20) (P := P ++ [(newP nm z n mb)]) (by repeat constructor) rfl (by rw [List.map_append, hP]; rfl) ?_
 exact Gs.fin0 Tryz.results92 _ (⟨rfl, rfl⟩) (by repeat constructor)
end Go.Proofs.YtflfhpokmidnmaaGreatDoor
namespace Go.Sl
open Go
theorem sl_enc {α : Type} {E sz : Nat} {enc : α → List Value} {a : Option Addr} {c : Nat} {xs ys : List α} (h : xs.map enc = ys.map enc) : ∀ hh, sl E sz enc a c xs hh → sl E sz enc a c ys hh := fun hh x => by
 have hl : xs.length = ys.length := by have := congrArg List.length h; simpa using this
 rcases x with ⟨rfl, rfl, rfl⟩ | ⟨b, off, cells, rfl, hp, h1, h2, h3⟩
 · exact .inl ⟨rfl, List.length_eq_zero_iff.1 hl.symm, rfl⟩
 · refine .inr ⟨b, off, cells, rfl, hp, by omega, h2, fun i y hi j v hj => ?_⟩
   have hx : (ys.map enc)[i]? = some (enc y) := by rw [List.getElem?_map, hi]; rfl
   rw [← h, List.getElem?_map] at hx
   obtain ⟨x, hx1, hx2⟩ := Option.map_eq_some_iff.1 hx
   exact h3 i x hx1 j v (by rw [hx2]; exact hj)
theorem Gs.slPre {α : Type} {w0 : World} {n : Nat} {env : Env} {H H' : List HProp} {X : Act → World → Prop} {E sz : Nat} {enc : α → List Value} {a : Option Addr} {c : Nat} {xs ys : List α} (t : Take (sl E sz enc a c (xs ++ ys)) H H') (g : Gs w0 n env (sl E sz enc a c xs :: H') X) : Gs w0 n env H X :=
 fun ac w e s => g ac w e ((s.take t).ent sl_pre)
theorem Gs.slEnc {α : Type} {w0 : World} {n : Nat} {env : Env} {H H' : List HProp} {X : Act → World → Prop} {E sz : Nat} {enc : α → List Value} {a : Option Addr} {c : Nat} {xs ys : List α} (h : xs.map enc = ys.map enc) (t : Take (sl E sz enc a c xs) H H') (g : Gs w0 n env (sl E sz enc a c ys :: H') X) : Gs w0 n env H X :=
 fun ac w e s => g ac w e ((s.take t).ent (sl_enc h))
end Go.Sl
namespace Go.Proofs.YtflfhpokmidnmaaGreatDoor
open Go Go.Sl Go.Gv Go.Dv
set_option maxRecDepth 100000
theorem growB_spec {k : Nat} (h0 : 0 < k) (hk : k ≤ 1000000) : Ct Tryz.prog 140 [.slice none 0 0, int k] [] (fun v hs => ∃ b c, v = .slice (some ⟨b, 0, none⟩) 0 c ∧ hs = [sl 5 1 byteC (some ⟨b, 0, none⟩) c []]) := by
 refine Cti Tryz.func140 (by kernel_rfl) 27 Tryz.ntmps140 rfl rfl fun w0 R => ?_
 refine Gsr (Las rfl rfl (Lnt (Gs.seq (Gsr (Lmv rfl rfl (Lq rfl (pu_lt rfl rfl) (Lnt (Gs.cond_ff rfl (decide_eq_false (by omega)) (Gs.skip (Gn (Gs.seq ?_)))))))))))
 refine Gsr (Lmv rfl rfl (Lmv rfl rfl (Lq rfl (pu_cap Tryz.underlying83 rfl) (Lmv rfl rfl (Lq rfl (pu_len Tryz.underlying83 rfl) (Lq rfl (pu_subI (z := 0) rfl rfl rfl (by decide) (by decide)) ?_))))))
 refine Lq rfl (pu_subI (z := (k : Int)) rfl rfl (by omega) (by omega) (by omega)) ?_
 refine Las rfl rfl (Lnt (Gsr (Lmv rfl rfl (Lq rfl (pu_gt rfl rfl) (Lnt (Gs.cond_tt rfl (decide_eq_true (by omega)) (Gs.reg (Lmv rfl rfl (Lmv rfl rfl (Lq rfl (pu_cap Tryz.underlying83 rfl) (Lq rfl (pu_sliceH et_83 rfl rfl (by decide) (by decide)) ?_)))))))))))
 refine Lmv rfl rfl (La rfl (ac_appendZ (a := none) (c := 0) (l := 0) (xs := []) (z0 := (0 : UInt8)) (k := k) (enc := byteC) et_83 (.inr ⟨.int .u8 0, rfl, zv_5, rfl⟩) Tryz.underlying3 ek_5 rfl rfl rfl (fun _ _ h => (h rfl).elim) h0 (by decide) (by simp; omega) (by simp; omega) (by simp; omega)) ?_)
 rintro _ _ ⟨nb, nc, rfl, hnc, rfl⟩
 refine Lmv rfl rfl (Lq rfl (pu_len Tryz.underlying83 rfl) (Lq rfl (pu_sliceH et_83 rfl rfl (by decide) (by omega)) ?_))
 rw [suba_zero]
 refine Las rfl rfl (Lnt (Gsr (Lmv rfl rfl (Las rfl rfl (Lnt (Gs.ret (Gs.slPre (E := 5) (sz := 1) (enc := byteC) (a := some ⟨nb, 0, none⟩) (c := nc) (xs := ([] : List UInt8)) (ys := List.replicate k (0 : UInt8)) (by repeat constructor) ?_)))))))
 exact Gs.fin1 Tryz.results140 rfl _ (⟨nb, nc, rfl, rfl⟩) (by repeat constructor)
theorem concat_spec {U S : HProp} {a : Option Addr} {c : Nat} {ps : List (SlV UInt8)} (hU : Srd U 1 slC a ps) (hS : ∀ p ∈ ps, Srd S 1 byteC p.a p.xs) (hl : ps.length ≤ 1000) (hb : (flat ps).length ≤ 100000) (h0 : 0 < (flat ps).length) :
   Ct Tryz.prog 109 [.slice a ps.length c] [U, S] (fun v hs => ∃ a' c', v = .slice a' (flat ps).length c' ∧ hs = [U, S, sl 5 1 byteC a' c' (flat ps)]) := by
 have hle : ∀ i, (flat (ps.take i)).length ≤ (flat ps).length := fun i => by
   conv => rhs; rw [← List.take_append_drop i ps]
   unfold flat; rw [List.flatMap_append, List.length_append]; omega
 refine Cti Tryz.func109 (by kernel_rfl) 36 Tryz.ntmps109 rfl rfl fun w0 R => ?_
 refine Gs.slAddr (hU.h (by repeat constructor)) fun ab ao ha => ?_
 refine Gsr (Las rfl rfl (Lnt (Gsr (Las rfl rfl (Lnt (Gs.seq (Gsr (Lmv rfl rfl (Lq rfl (pu_len Tryz.underlying221 rfl) (Lmv rfl rfl (Lnt ?_)))))))))))
 refine Gs.block (Gs.loop1 (fun i : Nat => i ≤ ps.length) (fun i => [(0, .slice a ps.length c), (3, int ((flat (ps.take i)).length : Nat)), (9, .slice a ps.length c), (10, int ps.length), (11, int i)]) (fun i => [U, S] ++ R) (fun i => ps.length - i) 0 (Nat.zero_le _) (by repeat constructor) (by repeat constructor) (fun i hi => ?_))
 refine Gsr (Lq rfl (pu_lt rfl rfl) (Lnt (Gs.seq (Gs.cond rfl (fun hc0 => ?_) (fun hc0 => ?_)))))
 ·
  have hlt : i < ps.length := by have := of_decide_eq_true hc0; omega
  obtain ⟨x, hx⟩ : ∃ x, ps[i]? = some x := ⟨ps[i], by simp [hlt]⟩
  obtain rfl := ha (by rintro rfl; simp at hlt)
  have hst : (flat (ps.take (i + 1))).length = (flat (ps.take i)).length + x.xs.length := by rw [flat_take hx, List.length_append]
  have h1 := hle (i + 1)
  refine Gs.skip (Gn (Gs.seq (Gs.block (Gsr (Lq rfl (pu_ia se_221 rfl rfl (by omega) (by omega)) (Lr rfl (rd_ld na_83 rfl (Rdc.el0 (hU.h (by repeat constructor)) hx rfl rfl)) ?_))))))
  refine Las rfl rfl (Lnt (Gsr (Lmv rfl rfl (Lmv rfl rfl (Lq rfl (pu_len Tryz.underlying83 rfl) (Lq rfl (pu_addI (z := ((flat (ps.take (i + 1))).length : Nat)) rfl rfl (by rw [hst]; omega) (by omega) (by omega)) ?_))))))
  refine Las rfl rfl (Lnt (Gsr (Lmv rfl rfl (Lq rfl (pu_lt rfl rfl) (Lnt (Gs.cond_ff rfl (decide_eq_false (by omega)) (Gs.skip (Gs.blk_n (Gn (Gs.reg (Lq rfl (by first | exact pu_addI rfl rfl rfl (by omega) (by omega) | exact pu_add rfl rfl) ?_)))))))))))
  refine Lmv rfl rfl (Lnt ?_)
  exact Ag (i + 1) (by omega) (by omega)
 have hge : i = ps.length := by have := of_decide_eq_false hc0; omega
 rw [hge, List.take_length]
 refine Gs.exit (Gx (Gx (Gs.blk_hit (Gn (Gsr (Lmv rfl rfl (La rfl (asC (growB_spec h0 (by omega))) ?_)))))))
 rintro _ _ ⟨_, ⟨gb, gc, rfl, rfl⟩, rfl⟩
 refine Las rfl rfl (Lnt (Gs.seq (Gsr (Lmv rfl rfl (Lq rfl (pu_len Tryz.underlying221 rfl) (Lmv rfl rfl (Lnt (Gs.block (Gs.loop1 (fun s : Nat × Option Addr × Nat => s.1 ≤ ps.length) (fun s => [(6, .slice s.2.1 (flat (ps.take s.1)).length s.2.2), (25, .slice a ps.length c), (26, int ps.length), (27, int s.1)]) (fun s => [U, S, sl 5 1 byteC s.2.1 s.2.2 (flat (ps.take s.1))] ++ R) (fun s => ps.length - s.1) (0, some ⟨gb, 0, none⟩, gc) (Nat.zero_le _) (by repeat constructor) (by repeat constructor) (fun s hs => ?_))))))))))
 obtain ⟨j, ca, cc⟩ := s
 dsimp only at hs ⊢
 refine Gsr (Lq rfl (pu_lt rfl rfl) (Lnt (Gs.seq (Gs.cond rfl (fun hc2 => ?_) (fun hc2 => ?_)))))
 ·
  have hlt : j < ps.length := by have := of_decide_eq_true hc2; omega
  obtain ⟨x, hx⟩ : ∃ x, ps[j]? = some x := ⟨ps[j], by simp [hlt]⟩
  obtain rfl := ha (by rintro rfl; simp at hlt)
  have hst : flat (ps.take (j + 1)) = flat (ps.take j) ++ x.xs := flat_take hx
  have h1 := hle (j + 1)
  rw [hst, List.length_append] at h1
  refine Gs.skip (Gn (Gs.seq (Gs.block (Gsr (Lq rfl (pu_ia se_221 rfl rfl (by omega) (by omega)) (Lr rfl (rd_ld na_83 rfl (Rdc.el0 (hU.h (by repeat constructor)) hx rfl rfl)) ?_))))))
  refine Las rfl rfl (Lnt (Gs.reg (Lmv rfl rfl (Lmv rfl rfl (La rfl (ac_append et_83 ek_5 rfl rfl (by repeat constructor) (SrcH.sl Tryz.underlying83 ek_5 ((hS x (List.mem_of_getElem? hx)).h (by repeat constructor))) (by first | omega | (simp; omega)) (by first | omega | (simp; omega))) ?_)))))
  rintro _ _ ⟨a33, c33, rfl, rfl⟩
  rw [← hst]
  refine Las rfl rfl (Lnil (Gs.blk_n (Gn (Gs.reg (Lq rfl (by first | exact pu_addI rfl rfl rfl (by omega) (by omega) | exact pu_add rfl rfl) ?_)))))
  refine Lmv rfl rfl (Lnt ?_)
  exact Ag (j + 1, a33, c33) (by show j + 1 ≤ ps.length; omega) (by show ps.length - (j + 1) < ps.length - j; omega)
 have hge : j = ps.length := by have := of_decide_eq_false hc2; omega
 rw [hge, List.take_length]
 refine Gs.exit (Gx (Gx (Gs.blk_hit (Gn (Gsr (Lmv rfl rfl (Las rfl rfl (Lnt (Gs.ret ?_)))))))))
 exact Gs.fin1 Tryz.results109 rfl _ (⟨ca, cc, rfl, rfl⟩) (by repeat constructor)
theorem split_last {α β : Type} {f : α → β} {P : List α} {U : List β} {p : β} (h : P.map f = U ++ [p]) : ∃ V x, P = V ++ [x] ∧ V.map f = U ∧ f x = p := by
 obtain ⟨V, W, h1, h2, h3⟩ := List.map_eq_append_iff.1 h
 obtain ⟨x, W', h4, h5, h6⟩ := List.map_eq_cons_iff.1 h3
 have : W' = [] := List.map_eq_nil_iff.1 h6
 subst this
 exact ⟨V, x, by rw [h1, h4], h2, h5⟩
theorem set_last {α : Type} (V : List α) (x y : α) : (V ++ [x]).set V.length y = V ++ [y] := by simp
theorem note_spec {b d : Nat} {n : Int} {made : Nat} {U : List Pa} {p : Pa} {e : EntV} {z : Nat} (hz : p.z + z ≤ 10000000) (hU : U.length ≤ 1000) (ho : e.kind = 2 → 0 ≤ e.r.o ∧ e.r.o < (p.t.length : Int)) :
   Ct Tryz.prog 108 [ptr b, entV e, int (z : Nat)] [lgr b d n ⟨made, U ++ [p]⟩] (fun v hs => v = .tuple #[] ∧ hs = [lgr b d n ⟨made, U ++ [noteP p e.p z]⟩]) := by
 obtain ⟨ek, ev, ew, eo, eq, ewl, ec, et⟩ := e
 dsimp only at ho
 refine Cti Tryz.func108 (by kernel_rfl) 53 Tryz.ntmps108 rfl rfl fun w0 R => ?_
 refine Gs.lgOpen (by repeat constructor) fun a c P hP => ?_
 obtain ⟨V, ⟨xp, xa, xc⟩, rfl, hV, hx⟩ := split_last hP
 obtain rfl : xp = p := hx
 have hVl : V.length = U.length := by rw [← hV, List.length_map]
 have hPx : (V ++ [(⟨xp, xa, xc⟩ : PaV)])[V.length]? = some ⟨xp, xa, xc⟩ := by simp
 have hPl : ((V ++ [(⟨xp, xa, xc⟩ : PaV)]).length : Int) - 1 = ((V.length : Nat) : Int) := by rw [List.length_append, List.length_cons, List.length_nil]; omega
 refine Gs.slAddr (xs := V ++ [(⟨xp, xa, xc⟩ : PaV)]) (SlH.own (E := 127) (enc := paC) (by repeat constructor)) fun pb po hpa => ?_
 obtain rfl := hpa (by simp)
 refine Gsr (La rfl (ac_box rfl rfl) ?_)
 rintro _ _ ⟨b4, rfl, rfl⟩
 refine Lnt (Gs.seq (Gs.regD mixed (by kernel_rfl) (Rmv 0 rfl (by kernel_rfl) rfl (Rq 1 rfl (by kernel_rfl) (by first | exact pu_nil rfl | exact pu_nilF rfl) ?_))))
 refine Rq 2 rfl (by kernel_rfl) (pu_fa fa_125_3 rfl) (Rr 3 rfl (by kernel_rfl) (rd_ld na_123 rfl (Rdc.cl1 (by repeat constructor) rfl)) ?_)
 refine Rmv 4 rfl (by kernel_rfl) rfl (Rq 5 rfl (by kernel_rfl) (by first | exact pu_nil rfl | exact pu_nilF rfl) ?_)
 refine Rq 6 rfl (by kernel_rfl) (pu_fa fa_125_3 rfl) (Rr 7 rfl (by kernel_rfl) (rd_ld na_123 rfl (Rdc.cl1 (by repeat constructor) rfl)) ?_)
 refine Rq 8 rfl (by kernel_rfl) (pu_len Tryz.underlying123 rfl) (Rq 9 rfl (by kernel_rfl) (pu_subI (z := ((V.length : Nat) : Int)) rfl rfl hPl.symm (by omega) (by omega)) ?_)
 refine Rq 10 rfl (by kernel_rfl) (pu_ia se_123 rfl rfl (by omega) (by rw [List.length_append, List.length_cons, List.length_nil]; omega)) ?_
 refine Rq 11 rfl (by kernel_rfl) (pu_assign rfl) (Rg.end (by kernel_rfl) (Gn (Gsr (Lmv rfl rfl (Lq rfl (by first | exact pu_nil rfl | exact pu_nilF rfl) ?_)))))
 refine Lq rfl (pu_fa fa_127_1 rfl) (Lr rfl (rd_ld na_3 rfl (Rdc.elp 1 (SlH.own (xs := V ++ [(⟨xp, xa, xc⟩ : PaV)]) (E := 127) (enc := paC) (sz := 3) (by repeat constructor)) hPx rfl rfl)) ?_)
 refine Lmv rfl rfl (Lq rfl (pu_addI (i := ((xp.z : Nat) : Int)) (j := ((z : Nat) : Int)) (z := ((xp.z + z : Nat) : Int)) rfl rfl (by omega) (by omega) (by omega)) ?_)
 refine Lq rfl (by first | exact pu_nil rfl | exact pu_nilF rfl) ?_
 refine Lq rfl (pu_fa fa_127_1 rfl) (Lac0 rfl trivial (ac_stE (enc := paC) (xs := V ++ [(⟨xp, xa, xc⟩ : PaV)]) (i := V.length) (x0 := ⟨xp, xa, xc⟩) (y0 := ⟨⟨xp.n, xp.z + z, xp.t⟩, xa, xc⟩) (vs := [int ((xp.z + z : Nat) : Int)]) (fo := 1) sz_3 ek_127 rfl rfl (by repeat constructor) rfl rfl rfl hPx rfl rfl) ?_)
 rintro _ _ rfl
 refine Lnil ?_
 rw [set_last]
 refine Gn (Gsr (Lq rfl (pu_fa fa_106_0 rfl) (Lr rfl (rd_ld na_3 rfl (Rdc.cl1 (by repeat constructor) rfl)) ?_)))
 refine Lq rfl (pu_eq rfl rfl) (Lnt (Gs.cond rfl (fun hc0 => ?_) (fun hc0 => ?_)))
 ·
  have hk : ek = 2 := of_decide_eq_true hc0
  obtain ⟨h0, hlt⟩ := ho hk
  obtain ⟨o, rfl⟩ := Int.eq_ofNat_of_zero_le h0
  have hlt' : o < xp.t.length := Int.ofNat_lt.1 hlt
  obtain ⟨old, hold⟩ : ∃ v, xp.t[o]? = some v := ⟨xp.t[o], by simp [hlt']⟩
  rw [show (V ++ [(⟨xp, xa, xc⟩ : PaV)]).map topO = V.map topO ++ [topO ⟨xp, xa, xc⟩] by simp]
  refine Gs.takes (As := [big (V.map topO ++ [topO ⟨xp, xa, xc⟩])]) (by repeat constructor) (Gs.bigTake take_snoc ?_)
  refine (show Gs _ _ _ (sl 3 1 intC xa xc xp.t :: _) _ from ?_)
  refine Gs.slAddr (xs := xp.t) (a := xa) (SlH.own (E := 3) (enc := intC) (sz := 1) (c := xc) .hd) fun tb tq hta => ?_
  obtain rfl := hta (by intro h; rw [h] at hlt'; simp at hlt')
  have hPy : (V ++ [(⟨⟨xp.n, xp.z + z, xp.t⟩, some ⟨tb, tq, none⟩, xc⟩ : PaV)])[V.length]? = some ⟨⟨xp.n, xp.z + z, xp.t⟩, some ⟨tb, tq, none⟩, xc⟩ := by simp
  have hnt : noteT xp.t ⟨ek, ev.xs, ew.xs, ⟨((o : Nat) : Int), eq, ewl, ec, et⟩⟩ = xp.t.set o (max old eq) := by
    unfold noteT
    rw [if_pos hk]
    show xp.t.set ((o : Nat) : Int).toNat (max (xp.t.getD ((o : Nat) : Int).toNat 0) eq) = _
    rw [Int.toNat_natCast, List.getD_eq_getElem?_getD, hold]; rfl
  refine Gs.regD mixed (by kernel_rfl) (Rmv 0 rfl (by kernel_rfl) rfl (Rq 1 rfl (by kernel_rfl) (by first | exact pu_nil rfl | exact pu_nilF rfl) ?_))
  refine Rq 2 rfl (by kernel_rfl) (pu_fa fa_127_2 rfl) (Rr 3 rfl (by kernel_rfl) (rd_ld na_30 rfl (Rdc.elp 1 (SlH.own (xs := V ++ [(⟨⟨xp.n, xp.z + z, xp.t⟩, some ⟨tb, tq, none⟩, xc⟩ : PaV)]) (E := 127) (enc := paC) (sz := 3) (by repeat constructor)) hPy rfl rfl)) ?_)
  refine Rq 4 rfl (by kernel_rfl) (pu_fa fa_106_3 rfl) (Rq 5 rfl (by kernel_rfl) (pu_fa fa_50_0 rfl) (Rq 6 rfl (by kernel_rfl) (pu_fa fa_35_0 rfl) (Rr 7 rfl (by kernel_rfl) (rd_ld na_3 rfl (Rdc.cl1 (by repeat constructor) rfl)) ?_)))
  refine Rmv 8 rfl (by kernel_rfl) rfl (Rq 9 rfl (by kernel_rfl) (by first | exact pu_nil rfl | exact pu_nilF rfl) ?_)
  refine Rq 10 rfl (by kernel_rfl) (pu_fa fa_127_2 rfl) (Rr 11 rfl (by kernel_rfl) (rd_ld na_30 rfl (Rdc.elp 1 (SlH.own (xs := V ++ [(⟨⟨xp.n, xp.z + z, xp.t⟩, some ⟨tb, tq, none⟩, xc⟩ : PaV)]) (E := 127) (enc := paC) (sz := 3) (by repeat constructor)) hPy rfl rfl)) ?_)
  refine Rq 12 rfl (by kernel_rfl) (pu_fa fa_106_3 rfl) (Rq 13 rfl (by kernel_rfl) (pu_fa fa_50_0 rfl) (Rq 14 rfl (by kernel_rfl) (pu_fa fa_35_0 rfl) (Rr 15 rfl (by kernel_rfl) (rd_ld na_3 rfl (Rdc.cl1 (by repeat constructor) rfl)) ?_)))
  refine Rq 16 rfl (by kernel_rfl) (pu_ia se_30 rfl rfl (by omega) (by omega)) (Rr 17 rfl (by kernel_rfl) (rd_ld na_3 rfl (Rdc.el0 (SlH.own (xs := xp.t) (E := 3) (enc := intC) (by repeat constructor)) hold rfl rfl)) ?_)
  refine Rq 18 rfl (by kernel_rfl) (pu_fa fa_106_3 rfl) (Rq 19 rfl (by kernel_rfl) (pu_fa fa_50_0 rfl) (Rq 20 rfl (by kernel_rfl) (pu_fa fa_35_1 rfl) (Rr 21 rfl (by kernel_rfl) (rd_ld na_3 rfl (Rdc.cl1 (by repeat constructor) rfl)) ?_)))
  refine Rq 22 rfl (by kernel_rfl) (pu_max rfl rfl) (Rq 23 rfl (by kernel_rfl) (pu_ia se_30 rfl rfl (by omega) (by omega)) (Rg.one (by kernel_rfl) (Stp.ac0 24 rfl rfl (by kernel_rfl) trivial (ac_stE (enc := intC) (xs := xp.t) (i := o) (x0 := old) (y0 := max old eq) (vs := [int (max old eq)]) (fo := 0) sz_3 ek_3 rfl rfl (by repeat constructor) rfl rfl rfl hold rfl rfl)  ?_)))
  rintro _ _ rfl
  refine Rg.end (by kernel_rfl) (Gs.takes (As := [sl 3 1 intC (some ⟨tb, tq, none⟩) xc (xp.t.set o (max old eq)), big (V.map topO)]) (by repeat constructor) ?_)
  refine (show Gs _ _ _ (topO ⟨⟨xp.n, xp.z + z, xp.t.set o (max old eq)⟩, some ⟨tb, tq, none⟩, xc⟩ :: big (V.map topO) :: _) _ from ?_)
  refine Gs.bigBack take_snoc ?_
  rw [show V.map topO ++ [topO ⟨⟨xp.n, xp.z + z, xp.t.set o (max old eq)⟩, some ⟨tb, tq, none⟩, xc⟩] = (V ++ [(⟨⟨xp.n, xp.z + z, xp.t.set o (max old eq)⟩, some ⟨tb, tq, none⟩, xc⟩ : PaV)]).map topO by simp]
  refine Gs.slEnc (E := 127) (sz := 3) (enc := paC) (a := some ⟨pb, po, none⟩) (c := c) (xs := V ++ [(⟨⟨xp.n, xp.z + z, xp.t⟩, some ⟨tb, tq, none⟩, xc⟩ : PaV)]) (ys := V ++ [(⟨⟨xp.n, xp.z + z, xp.t.set o (max old eq)⟩, some ⟨tb, tq, none⟩, xc⟩ : PaV)]) (by simp [paC]) (by repeat constructor) ?_
  refine Gs.lgClose (made := made) (ps := U ++ [noteP xp ⟨ek, ev.xs, ew.xs, ⟨((o : Nat) : Int), eq, ewl, ec, et⟩⟩ z]) (a := some ⟨pb, po, none⟩) (c := c) (P := V ++ [(⟨⟨xp.n, xp.z + z, xp.t.set o (max old eq)⟩, some ⟨tb, tq, none⟩, xc⟩ : PaV)]) (by repeat constructor) (by simp) (by rw [List.map_append, hV]; unfold noteP; rw [hnt]; rfl) ?_
  refine Gs.fin_n ?_
  exact Gs.fin0 Tryz.results108 _ (⟨rfl, rfl⟩) (by repeat constructor)
 have hk : ek ≠ 2 := of_decide_eq_false hc0
 have hnt : noteT xp.t ⟨ek, ev.xs, ew.xs, ⟨eo, eq, ewl, ec, et⟩⟩ = xp.t := by unfold noteT; exact if_neg hk
 rw [show (V ++ [(⟨xp, xa, xc⟩ : PaV)]).map topO = (V ++ [(⟨⟨xp.n, xp.z + z, xp.t⟩, xa, xc⟩ : PaV)]).map topO by simp [topO]]
 refine Gs.lgClose (made := made) (ps := U ++ [noteP xp ⟨ek, ev.xs, ew.xs, ⟨eo, eq, ewl, ec, et⟩⟩ z]) (a := some ⟨pb, po, none⟩) (c := c) (P := V ++ [(⟨⟨xp.n, xp.z + z, xp.t⟩, xa, xc⟩ : PaV)]) (by repeat constructor) (by simp) (by rw [List.map_append, hV]; unfold noteP; rw [hnt]; rfl) ?_
 refine Gs.skip (Gs.fin_n ?_)
 exact Gs.fin0 Tryz.results108 _ (⟨rfl, rfl⟩) (by repeat constructor)
end Go.Proofs.YtflfhpokmidnmaaGreatDoor
