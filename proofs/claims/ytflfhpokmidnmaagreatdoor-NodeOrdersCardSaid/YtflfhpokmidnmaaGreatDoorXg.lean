/- What the closing leans on: part 7. -/
import Derived.Test.YtflfhpokmidnmaaGreatDoorXf
import Derived.Test.YtflfhpokmidnmaaGreatDoorXe
import Derived.Test.YtflfhpokmidnmaaGreatDoorXc
import Derived.Test.YtflfhpokmidnmaaGreatDoorXd
namespace Go.Proofs.YtflfhpokmidnmaaGreatDoor
open Go Go.Sl Go.Gv
def hdB (k : Nat) (body : List UInt8) : List UInt8 := [71, UInt8.ofNat k, UInt8.ofNat (body.length / 256), UInt8.ofNat body.length]
def frB (k : Nat) (body : List UInt8) : List UInt8 := hdB k body ++ body ++ bytes8 (hashB (hdB k body ++ body)) 8
def endB (x : List UInt8) : Nat := 4 + ((x.getD 2 0).toNat * 256 + (x.getD 3 0).toNat)
def nextB (x : List UInt8) : Option (Nat × List UInt8 × Nat) :=
 if x.length < 12 then none
 else if x.getD 0 0 ≠ 71 ∨ x.getD 1 0 = 0 ∨ x.length - 8 < endB x then none
 else if (x.drop (endB x)).take 8 = bytes8 (hashB (x.take (endB x))) 8 then some ((x.getD 1 0).toNat, (x.take (endB x)).drop 4, endB x + 8) else none
theorem hdB_len (k : Nat) (body : List UInt8) : (hdB k body).length = 4 := rfl
theorem frB_len (k : Nat) (body : List UInt8) : (frB k body).length = body.length + 12 := by
 unfold frB; rw [List.length_append, List.length_append, bytes8_length, hdB_len]; omega
theorem frB_end (k : Nat) (body rest : List UInt8) (hl : body.length ≤ 65535) : endB (frB k body ++ rest) = body.length + 4 := by
 have e2 : (frB k body ++ rest).getD 2 0 = UInt8.ofNat (body.length / 256) := rfl
 have e3 : (frB k body ++ rest).getD 3 0 = UInt8.ofNat body.length := rfl
 unfold endB
 rw [e2, e3, UInt8.toNat_ofNat', UInt8.toNat_ofNat']
 omega
theorem next_fr (k : Nat) (body rest : List UInt8) (hk : 1 ≤ k) (hk2 : k ≤ 255) (hl : body.length ≤ 65535) : nextB (frB k body ++ rest) = some (k, body, body.length + 12) := by
 have hlen := frB_len k body
 have he := frB_end k body rest hl
 have e0 : (frB k body ++ rest).getD 0 0 = 71 := rfl
 have e1 : (frB k body ++ rest).getD 1 0 = UInt8.ofNat k := rfl
 have hkn : (UInt8.ofNat k).toNat = k := by rw [UInt8.toNat_ofNat']; omega
 have hk0 : UInt8.ofNat k ≠ 0 := fun e => by have := congrArg UInt8.toNat e; rw [hkn] at this; simp at this; omega
 have hhb : (hdB k body ++ body).length = body.length + 4 := by rw [List.length_append, hdB_len]; omega
 have ht : (frB k body ++ rest).take (body.length + 4) = hdB k body ++ body := by
   unfold frB
   rw [List.append_assoc, ← hhb, List.take_left]
 have hd : ((frB k body ++ rest).drop (body.length + 4)).take 8 = bytes8 (hashB (hdB k body ++ body)) 8 := by
   unfold frB
   rw [List.append_assoc, ← hhb, List.drop_left]
   have := List.take_left (l₁ := bytes8 (hashB (hdB k body ++ body)) 8) (l₂ := rest)
   rwa [bytes8_length] at this
 unfold nextB
 rw [if_neg (by rw [List.length_append, hlen]; omega), he, e0, e1, if_neg (by
   rintro (h | h | h)
   · exact h rfl
   · exact hk0 h
   · rw [List.length_append, hlen] at h; omega), ht, hd, if_pos rfl, hkn]
 refine congrArg some (Prod.ext rfl (Prod.ext ?_ rfl))
 show (hdB k body ++ body).drop 4 = body
 rw [← hdB_len k body, List.drop_left]
theorem next_cut (k : Nat) (body : List UInt8) (m : Nat) (hl : body.length ≤ 65535) (hm : m < (frB k body).length) : nextB ((frB k body).take m) = none := by
 have hlen := frB_len k body
 have htl : ((frB k body).take m).length = m := by rw [List.length_take]; omega
 unfold nextB
 by_cases h12 : m < 12
 · rw [if_pos (by rw [htl]; exact h12)]
 · rw [if_neg (by rw [htl]; exact h12)]
   have hg : ∀ i, i < m → ((frB k body).take m).getD i 0 = (frB k body).getD i 0 := fun i hi => by
     rw [List.getD_eq_getElem?_getD, List.getD_eq_getElem?_getD, List.getElem?_take, if_pos hi]
   have he : endB ((frB k body).take m) = body.length + 4 := by
     have := frB_end k body [] hl
     rw [List.append_nil] at this
     unfold endB at this ⊢
     rw [hg 2 (by omega), hg 3 (by omega)]; exact this
   rw [he, htl, if_pos (.inr (.inr (by omega)))]
theorem next_len {x : List UInt8} {k : Nat} {b : List UInt8} {n : Nat} (h : nextB x = some (k, b, n)) : 12 ≤ n ∧ n ≤ x.length ∧ 1 ≤ k ∧ k ≤ 255 ∧ b.length + 12 = n := by
 unfold nextB at h
 split at h
 · cases h
 · rename_i h1
   split at h
   · cases h
   · rename_i h2
     split at h
     · cases h
       have h3 : ¬ x.length - 8 < endB x := fun e => h2 (.inr (.inr e))
       have h4 : x.getD 1 0 ≠ 0 := fun e => h2 (.inr (.inl e))
       have h5 : (x.getD 1 0).toNat ≠ 0 := fun e => h4 (UInt8.toNat_inj.1 e)
       have h6 := (x.getD 1 0).toNat_lt
       have h7 : 4 ≤ endB x := by unfold endB; omega
       refine ⟨by omega, by omega, by omega, by omega, ?_⟩
       rw [List.length_drop, List.length_take]; omega
     · cases h
end Go.Proofs.YtflfhpokmidnmaaGreatDoor
namespace Go.Proofs.YtflfhpokmidnmaaGreatDoor
open Go Go.Sl Go.Gv
set_option maxRecDepth 100000
def byteN (n : Int) (k : Nat) : UInt8 := cutB (shrK .i64 n ((8 * k : Nat) : Int))
def numB (n : Int) : Nat → List UInt8
 | 0 => []
 | k + 1 => byteN n k :: numB n k
theorem numB_length (n : Int) : ∀ k, (numB n k).length = k
 | 0 => rfl
 | k + 1 => by simp [numB, numB_length n k]
theorem put_specL (a : Option Addr) (c : Nat) (xs : List UInt8) (n : Int) (k : Nat) (hl : xs.length ≤ 100000) (hk : k ≤ 8) :
   Ct Tryz.prog 139 [.slice a xs.length c, int n, int k] [sl 5 1 byteC a c xs] (fun v hs => ∃ a' c', v = .slice a' (xs ++ numB n k).length c' ∧ hs = [sl 5 1 byteC a' c' (xs ++ numB n k)]) := by
 refine Cti Tryz.func139 (by kernel_rfl) 20 Tryz.ntmps139 rfl rfl fun w0 R => ?_
 refine Gsr (Las rfl rfl (Lnt (Gs.seq (Gs.block (Gs.loop1 (fun s : Nat × Option Addr × Nat × List UInt8 => s.2.2.2 ++ numB n s.1 = xs ++ numB n k ∧ s.1 ≤ k) (fun s => [(0, .slice s.2.1 s.2.2.2.length s.2.2.1), (1, int n), (2, int s.1)]) (fun s => [sl 5 1 byteC s.2.1 s.2.2.1 s.2.2.2] ++ R) (fun s => s.1) (k, a, c, xs) (⟨rfl, Nat.le_refl _⟩) (by repeat constructor) (by repeat constructor) (fun s hs => ?_))))))
 obtain ⟨j, ca, cc, l⟩ := s
 obtain ⟨hl1, hj⟩ := hs
 dsimp only at hj hl1 ⊢
 have hll : l.length ≤ 100008 := by have := congrArg List.length hl1; simp only [List.length_append, numB_length] at this; omega
 refine Gs.seq (Gsr (Lmv rfl rfl (Lq rfl (pu_gt rfl rfl) (Lnt (Gs.cond rfl (fun hc0 => ?_) (fun hc0 => ?_))))))
 ·
  obtain ⟨i, rfl⟩ : ∃ i, j = i + 1 := ⟨j - 1, by have := of_decide_eq_true hc0; omega⟩
  have hl2 : (l ++ [byteN n i]) ++ numB n i = xs ++ numB n k := by rw [← hl1]; simp [numB]
  refine Gs.skip (Gn (Gs.block (Gsr (Lmv rfl rfl (Lq rfl (pu_subI (z := (i : Int)) rfl rfl (by omega) (by omega) (by omega)) ?_)))))
  refine Las rfl rfl (Lnt (Gs.reg (Lmv rfl rfl (Lmv rfl rfl (Lmv rfl rfl (Lq rfl (pu_mulI (z := ((8 * i : Nat) : Int)) rfl rfl (by omega) (by omega) (by omega)) ?_))))))
  refine Lq rfl (pu_shr rfl rfl (by omega)) (Lq rfl (pu_conv Tryz.underlying3 Tryz.underlying5 rfl) ?_)
  rw [cutB_eq]
  refine La rfl (ac_lit encC_5 ([byteN n i]) et_83 ek_5 rfl (by repeat constructor) rfl rfl (by decide)) ?_
  rintro _ _ ⟨a17, rfl, rfl⟩
  refine La rfl (ac_append et_83 ek_5 rfl rfl (by repeat constructor) (SrcH.sl Tryz.underlying83 ek_5 (SlH.own (by repeat constructor))) (by first | omega | (simp; omega)) (by first | omega | (simp; omega))) ?_
  rintro _ _ ⟨a18, c18, rfl, rfl⟩
  refine Las rfl rfl (Lnil (Gs.blk_n (Gn ?_)))
  exact Ag (i, a18, c18, l ++ [byteN n i]) ⟨hl2, by show i ≤ k; omega⟩ (by show i < i + 1; omega)
 have hge : j = 0 := by have := of_decide_eq_false hc0; omega
 subst hge
 rw [show l = xs ++ numB n k by rw [← hl1]; simp [numB]]
 refine Gs.exit (Gx (Gx (Gs.blk_hit (Gn (Gsr (Lmv rfl rfl (Las rfl rfl (Lnt (Gs.ret ?_)))))))))
 exact Gs.fin1 Tryz.results139 rfl _ (⟨ca, cc, rfl, rfl⟩) (by repeat constructor)
def layB (r : Rec) : List UInt8 := ((((([] ++ numB r.o 1) ++ numB r.q 2) ++ numB r.w 6) ++ numB r.c 2) ++ numB (r.t.size : Int) 1) ++ r.t.data.toList
theorem recB_text {r : Rec} (h : recB r = true) : r.t.data.toList.length ≤ 120 := by
 have h1 : textB r.t = true := by simp only [recB, Bool.and_eq_true] at h; exact h.2
 have h2 : (r.t.size : Int) ≤ 120 := by simp only [textB, Bool.and_eq_true, decide_eq_true_eq] at h1; exact h1.1
 have h3 : r.t.data.toList.length = r.t.size := by rw [Array.length_toList]; rfl
 omega
theorem layB_length (r : Rec) : (layB r).length = 12 + r.t.data.toList.length := by simp [layB, numB_length]; omega
theorem layR_ok {h0 : Hp} (T : Tabs h0) (r : Rec) (hr : recB r = true) : Ct Tryz.prog 101 [recV r] [ro h0] (fun v hs => ∃ a c, v = .tuple #[.slice a (layB r).length c, int 0] ∧ hs = [ro h0, sl 5 1 byteC a c (layB r)]) := by
 have ht : r.t.data.toList.length ≤ 120 := recB_text hr
 have htl : (r.t.size : Int) = r.t.data.toList.length := by rw [Array.length_toList]; rfl
 obtain ⟨l1, hl1⟩ : ∃ l, l = [] ++ numB r.o 1 := ⟨_, rfl⟩
 obtain ⟨l2, hl2⟩ : ∃ l, l = l1 ++ numB r.q 2 := ⟨_, rfl⟩
 obtain ⟨l3, hl3⟩ : ∃ l, l = l2 ++ numB r.w 6 := ⟨_, rfl⟩
 obtain ⟨l4, hl4⟩ : ∃ l, l = l3 ++ numB r.c 2 := ⟨_, rfl⟩
 obtain ⟨l5, hl5⟩ : ∃ l, l = l4 ++ numB (r.t.size : Int) 1 := ⟨_, rfl⟩
 have hlay : layB r = l5 ++ r.t.data.toList := by rw [hl5, hl4, hl3, hl2, hl1]; rfl
 have k1 : l1.length = 1 := by rw [hl1]; simp [numB_length]
 have k2 : l2.length = 3 := by rw [hl2, List.length_append, numB_length, k1]
 have k3 : l3.length = 9 := by rw [hl3, List.length_append, numB_length, k2]
 have k4 : l4.length = 11 := by rw [hl4, List.length_append, numB_length, k3]
 have k5 : l5.length = 12 := by rw [hl5, List.length_append, numB_length, k4]
 refine Cti Tryz.func101 (by kernel_rfl) 33 Tryz.ntmps101 rfl rfl fun w0 R => ?_
 refine Gsr (La rfl (ac_box rfl rfl) ?_)
 rintro _ _ ⟨b1, rfl, rfl⟩
 refine Las rfl rfl (Las rfl rfl (Lnt (Gs.seq (Gsr (Lr rfl (rd_lda ag_50 rfl (Rdc.cl 5 (by repeat constructor) rfl) rfl) ?_)))))
 refine La rfl (asC (recMay_spec T r)) ?_
 rintro _ _ ⟨_, ⟨rfl, rfl⟩, rfl⟩
 refine Lq rfl (pu_not rfl) (Lnt (Gs.cond_ff rfl (by simp [hr]) ?_))
 refine Gs.skip (Gn (Gs.seq (Gs.slNil 5 1 byteC (Gs.regD mixed (by kernel_rfl) (Rq 0 rfl (by kernel_rfl) (pu_fa fa_50_0 rfl) (Rq 1 rfl (by kernel_rfl) (pu_fa fa_35_0 rfl) (Rr 2 rfl (by kernel_rfl) (rd_ld na_3 rfl (Rdc.cl1 (by repeat constructor) rfl)) ?_)))))))
 refine Rq 4 rfl (by kernel_rfl) (pu_fa fa_50_0 rfl) (Rq 5 rfl (by kernel_rfl) (pu_fa fa_35_1 rfl) (Rr 6 rfl (by kernel_rfl) (rd_ld na_3 rfl (Rdc.cl1 (by repeat constructor) rfl)) ?_))
 refine Rg.one (by kernel_rfl) (Stp.acR 3 [6] rfl rfl (by kernel_rfl) trivial (asC (put_specL none 0 [] r.o 1 (by decide) (by decide))) (by rintro _ _ ⟨_, ⟨ba1, bc1, rfl, rfl⟩, rfl⟩; exact (Reads.cons rfl rfl rfl trivial rfl (rd_ld na_3 rfl (Rdc.cl1 (by repeat constructor) rfl)) Reads.nil)) ?_)
 rintro _ _ ⟨_, ⟨ba1, bc1, rfl, rfl⟩, rfl⟩
 rw [← hl1]
 refine Rg.one (by kernel_rfl) (Stp.ac 7 rfl rfl (by kernel_rfl) trivial (asC (put_specL ba1 bc1 l1 r.q 2 (by omega) (by decide)))  ?_)
 rintro _ _ ⟨_, ⟨ba2, bc2, rfl, rfl⟩, rfl⟩
 rw [← hl2]
 refine Rq 8 rfl (by kernel_rfl) (pu_assign rfl) (Rg.end (by kernel_rfl) (Gn (Gs.seq (Gs.regD mixed (by kernel_rfl) (Rmv 0 rfl (by kernel_rfl) rfl (Rq 1 rfl (by kernel_rfl) (pu_fa fa_50_1 rfl) (Rq 2 rfl (by kernel_rfl) (pu_fa fa_48_0 rfl) (Rr 3 rfl (by kernel_rfl) (rd_ld na_3 rfl (Rdc.cl1 (by repeat constructor) rfl)) ?_))))))))
 refine Rq 5 rfl (by kernel_rfl) (pu_fa fa_50_1 rfl) (Rq 6 rfl (by kernel_rfl) (pu_fa fa_48_1 rfl) (Rr 7 rfl (by kernel_rfl) (rd_ld na_3 rfl (Rdc.cl1 (by repeat constructor) rfl)) ?_))
 refine Rq 9 rfl (by kernel_rfl) (pu_fa fa_50_2 rfl) (Rr 10 rfl (by kernel_rfl) (rd_ld na_9 rfl (Rdc.cl1 (by repeat constructor) rfl)) ?_)
 refine Rq 11 rfl (by kernel_rfl) (pu_lenS Tryz.underlying9 rfl) (Rg.one (by kernel_rfl) (Stp.acR 4 [7, 10] rfl rfl (by kernel_rfl) trivial (asC (put_specL ba2 bc2 l2 r.w 6 (by omega) (by decide))) (by rintro _ _ ⟨_, ⟨ba3, bc3, rfl, rfl⟩, rfl⟩; exact (Reads.cons rfl rfl rfl trivial rfl (rd_ld na_3 rfl (Rdc.cl1 (by repeat constructor) rfl)) (Reads.cons rfl rfl rfl trivial rfl (rd_ld na_9 rfl (Rdc.cl1 (by repeat constructor) rfl)) Reads.nil))) ?_))
 rintro _ _ ⟨_, ⟨ba3, bc3, rfl, rfl⟩, rfl⟩
 rw [← hl3]
 refine Rg.one (by kernel_rfl) (Stp.acR 8 [10] rfl rfl (by kernel_rfl) trivial (asC (put_specL ba3 bc3 l3 r.c 2 (by omega) (by decide))) (by rintro _ _ ⟨_, ⟨ba4, bc4, rfl, rfl⟩, rfl⟩; exact (Reads.cons rfl rfl rfl trivial rfl (rd_ld na_9 rfl (Rdc.cl1 (by repeat constructor) rfl)) Reads.nil)) ?_)
 rintro _ _ ⟨_, ⟨ba4, bc4, rfl, rfl⟩, rfl⟩
 rw [← hl4]
 refine Rg.one (by kernel_rfl) (Stp.ac 12 rfl rfl (by kernel_rfl) trivial (asC (put_specL ba4 bc4 l4 (r.t.size : Int) 1 (by omega) (by decide)))  ?_)
 rintro _ _ ⟨_, ⟨ba5, bc5, rfl, rfl⟩, rfl⟩
 rw [← hl5]
 refine Rq 13 rfl (by kernel_rfl) (pu_assign rfl) (Rg.end (by kernel_rfl) (Gn (Gsr (Lmv rfl rfl (Lq rfl (pu_fa fa_50_2 rfl) (Lr rfl (rd_ld na_9 rfl (Rdc.cl1 (by repeat constructor) rfl)) ?_))))))
 refine La rfl (ac_append et_83 ek_5 rfl rfl (by repeat constructor) (SrcH.strB Tryz.underlying9 r.t) (by first | omega | (simp; omega)) (by first | omega | (simp; omega))) ?_
 rintro _ _ ⟨a32, c32, rfl, rfl⟩
 refine Las rfl rfl (Las rfl rfl (Lnt (Gs.ret ?_)))
 exact Gs.fin2 Tryz.results101 rfl rfl _ (⟨_, _, by rw [hlay], by rw [hlay]⟩) (by repeat constructor)
theorem layR_bad {h0 : Hp} (T : Tabs h0) (r : Rec) (hr : recB r = false) : Ct Tryz.prog 101 [recV r] [ro h0] (fun v hs => v = .tuple #[.slice none 0 0, int 2] ∧ hs = [ro h0]) := by
 refine Cti Tryz.func101 (by kernel_rfl) 33 Tryz.ntmps101 rfl rfl fun w0 R => ?_
 refine Gsr (La rfl (ac_box rfl rfl) ?_)
 rintro _ _ ⟨b1, rfl, rfl⟩
 refine Las rfl rfl (Las rfl rfl (Lnt (Gs.seq (Gsr (Lr rfl (rd_lda ag_50 rfl (Rdc.cl 5 (by repeat constructor) rfl) rfl) ?_)))))
 refine La rfl (asC (recMay_spec T r)) ?_
 rintro _ _ ⟨_, ⟨rfl, rfl⟩, rfl⟩
 refine Lq rfl (pu_not rfl) (Lnt (Gs.cond_tt rfl (by simp [hr]) ?_))
 refine Gsr (Las rfl rfl (Las rfl rfl (Lnt (Gs.ret (Gr ?_)))))
 exact Gs.fin2 Tryz.results101 rfl rfl _ (⟨rfl, rfl⟩) (by repeat constructor)
end Go.Proofs.YtflfhpokmidnmaaGreatDoor
namespace Go.Proofs.YtflfhpokmidnmaaGreatDoor
open Go Go.Sl Go.Gv
def valF (a : Int) (l : List UInt8) : Int := l.foldl (fun n x => 256 * n + x.toNat) a
abbrev valB (l : List UInt8) : Int := valF 0 l
theorem byte_at (n : Nat) (s : Nat) (hs : s ≤ 7) : (cutB (shrK .i64 (n : Int) ((8 * s : Nat) : Int))).toNat = n / 256 ^ s % 256 := by
 have e : shrK .i64 (n : Int) ((8 * s : Nat) : Int) = ((n / 256 ^ s : Nat) : Int) := by
   unfold shrK
   have h1 : min ((8 * s : Nat) : Int).toNat IntKind.i64.bits = 8 * s := by
     rw [Int.toNat_natCast, Nat.min_def, if_pos]
     show 8 * s ≤ 64; omega
   rw [h1]
   have h2 : (2 : Int) ^ (8 * s) = ((256 ^ s : Nat) : Int) := by rw [Int.pow_mul]; norm_cast
   rw [h2, Int.fdiv_eq_ediv_of_nonneg _ (Int.natCast_nonneg _)]; norm_cast
 rw [e]
 have := cutB_eq ((n / 256 ^ s : Nat) : Int)
 have h : IntKind.u8.wrap ((n / 256 ^ s : Nat) : Int) = ((n / 256 ^ s % 256 : Nat) : Int) := by simp [IntKind.wrap, IntKind.bits, IntKind.signed]
 rw [h] at this
 exact (Int.ofNat.inj this).symm
theorem val_be (n : Nat) : ∀ (s : Nat) (a : Nat), s ≤ 8 → valF (a : Int) (numB (n : Int) s) = ((a * 256 ^ s + n % 256 ^ s : Nat) : Int)
 | 0, a, _ => by
   show (a : Int) = _
   rw [Nat.pow_zero, Nat.mod_one, Nat.mul_one, Nat.add_zero]
 | s + 1, a, h => by
   have e : valF (a : Int) (numB (n : Int) (s + 1)) = valF ((256 * a + n / 256 ^ s % 256 : Nat) : Int) (numB (n : Int) s) := by
     show valF (256 * (a : Int) + (byteN (n : Int) s).toNat) (numB (n : Int) s) = _
     rw [show (byteN (n : Int) s).toNat = n / 256 ^ s % 256 from byte_at n s (by omega)]
     refine congrArg (fun z => valF z (numB (n : Int) s)) ?_
     rw [Int.natCast_add, Int.natCast_mul]; rfl
   rw [e, val_be n s _ (by omega)]
   have h2 : n % 256 ^ (s + 1) = n % 256 ^ s + 256 ^ s * (n / 256 ^ s % 256) := by rw [Nat.pow_succ, Nat.mod_mul]
   rw [h2]
   refine congrArg Nat.cast ?_
   rw [Nat.pow_succ, Nat.add_mul, Nat.mul_assoc, Nat.mul_comm 256 (a * 256 ^ s)]
   rw [Nat.mul_comm (n / 256 ^ s % 256) (256 ^ s), Nat.mul_assoc, Nat.add_assoc, Nat.add_comm (256 ^ s * _) (n % 256 ^ s)]
theorem val_be0 {n : Int} {s : Nat} (hs : s ≤ 8) (h0 : 0 ≤ n) (h1 : n < 256 ^ s) : valB (numB n s) = n := by
 obtain ⟨m, rfl⟩ := Int.eq_ofNat_of_zero_le h0
 have h := val_be m s 0 hs
 have hm : m < 256 ^ s := by
   have e : ((256 : Int) ^ s) = ((256 ^ s : Nat) : Int) := (Int.natCast_pow 256 s).symm
   rw [e] at h1; exact Int.ofNat_lt.1 h1
 rw [Nat.zero_mul, Nat.zero_add, Nat.mod_eq_of_lt hm] at h
 exact h
theorem layR_len (r : Rec) : (layB r).length = 12 + r.t.size := by rw [layB_length]; simp
def readR (x : List UInt8) : Option (Rec × Nat) :=
 if x.length < 12 then none
 else if x.length - 12 < (x.getD 11 0).toNat then none
 else
   let r : Rec := ⟨(x.getD 0 0).toNat, valB ((x.take 3).drop 1), valB ((x.take 9).drop 3), valB ((x.take 11).drop 9), ⟨((x.take (12 + (x.getD 11 0).toNat)).drop 12).toArray⟩⟩
   if recB r then some (r, 12 + (x.getD 11 0).toNat) else none
theorem cut_mid {α : Type} (a b c : List α) {i j : Nat} (hi : a.length = i) (hj : a.length + b.length = j) : ((a ++ b ++ c).take j).drop i = b := by
 subst hi; subst hj
 rw [List.append_assoc, List.take_append, List.drop_append]
 simp
theorem read_lay {r : Rec} (h : recB r = true) (rest : List UInt8) : readR (layB r ++ rest) = some (r, (layB r).length) := by
 have hb := h
 simp only [recB, keyB, stampB, inB, textB, Rec.key, Bool.and_eq_true, decide_eq_true_eq] at hb
 obtain ⟨⟨⟨⟨⟨o1, o2⟩, q1⟩, q2⟩, ⟨⟨w1, w2⟩, c1, c2⟩⟩, t1, -⟩ := hb
 have o1 : 0 ≤ r.o := of_decide_eq_true o1
 have o2 : r.o < 8 := of_decide_eq_true o2
 have q1 : 1 ≤ r.q := of_decide_eq_true q1
 have q2 : r.q ≤ 1023 := of_decide_eq_true q2
 have hlen := layR_len r
 have e0 : (layB r ++ rest).getD 0 0 = cutB (shrK .i64 r.o ((8 * 0 : Nat) : Int)) := rfl
 have e11 : (layB r ++ rest).getD 11 0 = cutB (shrK .i64 (r.t.size : Int) ((8 * 0 : Nat) : Int)) := rfl
 have v0 : ((layB r ++ rest).getD 0 0).toNat = r.o.toNat := by
   obtain ⟨m, hm⟩ := Int.eq_ofNat_of_zero_le o1
   rw [e0, hm, byte_at m 0 (by omega)]
   simp; omega
 have v11 : ((layB r ++ rest).getD 11 0).toNat = r.t.size := by
   rw [e11, byte_at r.t.size 0 (by omega)]; simp; omega
 have p1 : ((layB r ++ rest).take 3).drop 1 = numB r.q 2 := by
   have := cut_mid (numB r.o 1) (numB r.q 2) (numB r.w 6 ++ numB r.c 2 ++ numB (r.t.size : Int) 1 ++ r.t.data.toList ++ rest) (i := 1) (j := 3) (by rw [numB_length]) (by rw [numB_length, numB_length])
   rw [← this]; unfold layB; simp only [List.append_assoc, List.nil_append]
 have p2 : ((layB r ++ rest).take 9).drop 3 = numB r.w 6 := by
   have := cut_mid (numB r.o 1 ++ numB r.q 2) (numB r.w 6) (numB r.c 2 ++ numB (r.t.size : Int) 1 ++ r.t.data.toList ++ rest) (i := 3) (j := 9) (by simp [numB_length]) (by simp [numB_length])
   rw [← this]; unfold layB; simp only [List.append_assoc, List.nil_append]
 have p3 : ((layB r ++ rest).take 11).drop 9 = numB r.c 2 := by
   have := cut_mid (numB r.o 1 ++ numB r.q 2 ++ numB r.w 6) (numB r.c 2) (numB (r.t.size : Int) 1 ++ r.t.data.toList ++ rest) (i := 9) (j := 11) (by simp [numB_length]) (by simp [numB_length])
   rw [← this]; unfold layB; simp only [List.append_assoc, List.nil_append]
 have p4 : ((layB r ++ rest).take (12 + r.t.size)).drop 12 = r.t.data.toList := by
   have := cut_mid (numB r.o 1 ++ numB r.q 2 ++ numB r.w 6 ++ numB r.c 2 ++ numB (r.t.size : Int) 1) r.t.data.toList rest (i := 12) (j := 12 + r.t.size) (by simp [numB_length]) (by simp [numB_length])
   rw [← this]; unfold layB; simp only [List.append_assoc, List.nil_append]
 unfold readR
 rw [if_neg (by rw [List.length_append]; omega), v11, if_neg (by rw [List.length_append]; omega), v0, p1, p2, p3, p4, val_be0 (by omega) (by omega) (by omega), val_be0 (by omega) (by omega) (by omega), val_be0 (by omega) (by omega) (by omega)]
 have er : (⟨(r.o.toNat : Int), r.q, r.w, r.c, ⟨r.t.data.toList.toArray⟩⟩ : Rec) = r := by
   obtain ⟨o, q, w, c, t⟩ := r
   cases t
   simp only [Rec.mk.injEq, and_true]
   exact Int.toNat_of_nonneg o1
 simp only
 rw [er, if_pos h, hlen]
end Go.Proofs.YtflfhpokmidnmaaGreatDoor
namespace Go.Proofs.YtflfhpokmidnmaaGreatDoor
open Go Go.Sl Go.Gv
structure EntP where
 kind : Int
 v : List Int
 w : List Int
 r : Rec
 deriving DecidableEq
def vecB (v : List Int) (n : Int) : Bool := decide (1 ≤ n) && decide (n ≤ 8) && decide ((v.length : Int) = n) && v.all fun x => decide (0 ≤ x) && decide (x ≤ 1023)
def belowB : List Int → List Int → Bool
 | [], [] => true
 | a :: x, b :: y => decide (a ≤ b) && belowB x y
 | _, _ => false
def mayE (e : EntP) (n : Int) : Bool :=
 if e.kind = 1 then decide (e.r = Rec.zero) && vecB e.v n && vecB e.w n && belowB e.w e.v
 else if e.kind = 3 then decide (e.r = Rec.zero) && decide (e.v = []) && vecB e.w n
 else if e.kind = 2 then decide (e.v = []) && decide (e.w = []) && decide (1 ≤ n) && decide (n ≤ 8) && decide (e.r.o < n) && recB e.r
 else false
def twoB (x : Int) : List UInt8 := [cutB (shrK .i64 x 8), cutB x]
def numsB (v : List Int) : List UInt8 := UInt8.ofNat v.length :: v.flatMap twoB
def bodyE (e : EntP) : List UInt8 := if e.kind = 1 then numsB e.v ++ numsB e.w else if e.kind = 3 then numsB e.w else layB e.r
def layE (e : EntP) : List UInt8 := frB e.kind.toNat (bodyE e)
def readV (b : List UInt8) : Option (List Int × List UInt8) :=
 if b = [] ∨ (b.length - 1) / 2 < (b.getD 0 0).toNat then none
 else some ((List.range (b.getD 0 0).toNat).map fun i => (((b.getD (1 + 2 * i) 0).toNat * 256 + (b.getD (2 + 2 * i) 0).toNat : Nat) : Int), b.drop (1 + 2 * (b.getD 0 0).toNat))
def readEn (k : Nat) (b : List UInt8) : Option EntP :=
 if k = 1 then
   match readV b with
   | none => none
   | some (v, l) => match readV l with
     | some (w, []) => some ⟨1, v, w, Rec.zero⟩
     | _ => none
 else if k = 3 then
   match readV b with
   | some (w, []) => some ⟨3, [], w, Rec.zero⟩
   | _ => none
 else if k = 2 then
   match readR b with
   | none => none
   | some (r, m) => if b.drop m = [] then some ⟨2, [], [], r⟩ else none
 else none
def readS (n : Int) : Nat → Bool → List UInt8 → List EntP × Nat
 | 0, _, _ => ([], 0)
 | f + 1, first, x => match nextB x with
   | none => ([], 0)
   | some (k, b, len) =>
     if decide (k = 1) ≠ first then ([], 0)
     else match readEn k b with
       | none => ([], 0)
       | some e => if mayE e n then (e :: (readS n f false (x.drop len)).1, len + (readS n f false (x.drop len)).2) else ([], 0)
theorem two_len (v : List Int) : (v.flatMap twoB).length = 2 * v.length := by
 induction v with
 | nil => rfl
 | cons x v ih => rw [List.flatMap_cons, List.length_append, ih]; show 2 + _ = 2 * (v.length + 1); omega
theorem two_get {v : List Int} {i : Nat} {x : Int} (rest : List UInt8) (h : v[i]? = some x) : (v.flatMap twoB ++ rest).getD (2 * i) 0 = cutB (shrK .i64 x 8) ∧ (v.flatMap twoB ++ rest).getD (2 * i + 1) 0 = cutB x := by
 induction v generalizing i with
 | nil => cases h
 | cons y v ih =>
   cases i with
   | zero => cases h; exact ⟨rfl, rfl⟩
   | succ i =>
     have := ih (i := i) (by simpa using h)
     rw [List.flatMap_cons, List.append_assoc]
     exact this
theorem cut_small {x : Int} (h0 : 0 ≤ x) (h1 : x ≤ 1023) : ((cutB (shrK .i64 x 8)).toNat * 256 + (cutB x).toNat : Nat) = x.toNat := by
 obtain ⟨m, rfl⟩ := Int.eq_ofNat_of_zero_le h0
 have e1 := byte_at m 1 (by omega)
 have e0 := byte_at m 0 (by omega)
 have ez : shrK .i64 (m : Int) ((8 * 0 : Nat) : Int) = (m : Int) := by unfold shrK; simp
 rw [ez] at e0
 have e1' : (cutB (shrK .i64 (m : Int) 8)).toNat = m / 256 ^ 1 % 256 := e1
 rw [e1', e0]
 simp only [Nat.pow_one, Nat.pow_zero, Nat.div_one, Int.toNat_natCast]
 omega
theorem readV_nums {v : List Int} {n : Int} (hv : vecB v n = true) (rest : List UInt8) : readV (numsB v ++ rest) = some (v, rest) := by
 unfold vecB at hv
 simp only [Bool.and_eq_true, decide_eq_true_eq, List.all_eq_true] at hv
 obtain ⟨⟨⟨n1, n8⟩, hl⟩, hx⟩ := hv
 have hl8 : v.length ≤ 8 := by omega
 have h0 : (numsB v ++ rest).getD 0 0 = UInt8.ofNat v.length := rfl
 have h0n : ((numsB v ++ rest).getD 0 0).toNat = v.length := by rw [h0, UInt8.toNat_ofNat']; omega
 have hlen : (numsB v ++ rest).length = 1 + 2 * v.length + rest.length := by
   unfold numsB; rw [List.length_append, List.length_cons, two_len]; omega
 unfold readV
 rw [h0n, if_neg (by
   rintro (h | h)
   · exact absurd (congrArg List.length h) (by rw [hlen, List.length_nil]; omega)
   · rw [hlen] at h; omega)]
 refine congrArg some (Prod.ext ?_ ?_)
 · refine List.ext_getElem? fun i => ?_
   rw [List.getElem?_map]
   by_cases hi : i < v.length
   · have hvi : v[i]? = some v[i] := by simp [hi]
     rw [List.getElem?_range hi, hvi]
     obtain ⟨g1, g2⟩ := two_get rest hvi
     have e1 : (numsB v ++ rest).getD (1 + 2 * i) 0 = cutB (shrK .i64 v[i] 8) := by rw [← g1, Nat.add_comm]; rfl
     have e2 : (numsB v ++ rest).getD (2 + 2 * i) 0 = cutB v[i] := by rw [← g2, show 2 + 2 * i = (2 * i + 1) + 1 by omega]; rfl
     rw [Option.map_some, e1, e2]
     have hb := hx v[i] (List.getElem_mem hi)
     have := cut_small hb.1 hb.2
     rw [this, Int.toNat_of_nonneg hb.1]
   · rw [List.getElem?_eq_none (by rw [List.length_range]; omega), List.getElem?_eq_none (by show v.length ≤ i; omega)]; rfl
 · show (numsB v ++ rest).drop (1 + 2 * v.length) = rest
   have : (numsB v).length = 1 + 2 * v.length := by unfold numsB; rw [List.length_cons, two_len]; omega
   rw [← this, List.drop_left]
theorem read_body {e : EntP} {n : Int} (h : mayE e n = true) : readEn e.kind.toNat (bodyE e) = some e := by
 obtain ⟨k, v, w, r⟩ := e
 unfold mayE at h
 unfold bodyE readEn
 simp only at h ⊢
 by_cases h1 : k = 1
 · subst h1
   simp only [if_true, Bool.and_eq_true, decide_eq_true_eq] at h
   obtain ⟨⟨⟨hr, hv⟩, hw⟩, -⟩ := h
   rw [if_pos rfl, if_pos (show (1 : Int).toNat = 1 from rfl), readV_nums hv]
   have := readV_nums hw []
   rw [List.append_nil] at this
   simp only [this, hr]
 · rw [if_neg h1] at h
   have k1 : ¬ k.toNat = 1 := fun e => h1 (by omega)
   rw [if_neg h1, if_neg k1]
   by_cases h3 : k = 3
   · subst h3
     simp only [if_true, Bool.and_eq_true, decide_eq_true_eq] at h
     obtain ⟨⟨hr, hv⟩, hw⟩ := h
     rw [if_pos rfl, if_pos (show (3 : Int).toNat = 3 from rfl)]
     have := readV_nums hw []
     rw [List.append_nil] at this
     simp only [this, hr, hv]
   · rw [if_neg h3] at h
     have k3 : ¬ k.toNat = 3 := fun e => h3 (by omega)
     rw [if_neg h3, if_neg k3]
     by_cases h2 : k = 2
     · subst h2
       simp only [if_true, Bool.and_eq_true, decide_eq_true_eq] at h
       obtain ⟨⟨⟨⟨⟨hv, hw⟩, -⟩, -⟩, -⟩, hr⟩ := h
       rw [if_pos (show (2 : Int).toNat = 2 from rfl)]
       have := read_lay hr []
       rw [List.append_nil] at this
       simp only [this, List.drop_length, if_true, hv, hw]
     · rw [if_neg h2] at h; cases h
theorem may_kind {e : EntP} {n : Int} (h : mayE e n = true) : e.kind = 1 ∨ e.kind = 2 ∨ e.kind = 3 := by
 unfold mayE at h
 by_cases h1 : e.kind = 1
 · exact .inl h1
 · rw [if_neg h1] at h
   by_cases h3 : e.kind = 3
   · exact .inr (.inr h3)
   · rw [if_neg h3] at h
     by_cases h2 : e.kind = 2
     · exact .inr (.inl h2)
     · rw [if_neg h2] at h; cases h
theorem vec_len {v : List Int} {n : Int} (h : vecB v n = true) : v.length ≤ 8 := by
 unfold vecB at h
 simp only [Bool.and_eq_true, decide_eq_true_eq] at h
 omega
theorem nums_len (v : List Int) : (numsB v).length = 1 + 2 * v.length := by unfold numsB; rw [List.length_cons, two_len]; omega
theorem body_len {e : EntP} {n : Int} (h : mayE e n = true) : (bodyE e).length ≤ 132 := by
 obtain ⟨k, v, w, r⟩ := e
 unfold mayE at h
 unfold bodyE
 simp only at h ⊢
 by_cases h1 : k = 1
 · rw [if_pos h1] at h ⊢
   simp only [Bool.and_eq_true] at h
   have a := vec_len h.1.1.2
   have b := vec_len h.1.2
   rw [List.length_append, nums_len, nums_len]; omega
 · rw [if_neg h1] at h ⊢
   by_cases h3 : k = 3
   · rw [if_pos h3] at h ⊢
     simp only [Bool.and_eq_true] at h
     have a := vec_len h.2
     rw [nums_len]; omega
   · rw [if_neg h3] at h ⊢
     by_cases h2 : k = 2
     · rw [if_pos h2] at h
       simp only [Bool.and_eq_true] at h
       have hr := h.2
       have hs : (r.t.size : Int) ≤ 120 := by
         simp only [recB, textB, Bool.and_eq_true] at hr
         exact of_decide_eq_true hr.2.1
       rw [layR_len]; omega
     · rw [if_neg h2] at h; cases h
def layS (es : List EntP) : List UInt8 := es.flatMap layE
theorem next_ent {e : EntP} {n : Int} (h : mayE e n = true) (rest : List UInt8) : nextB (layE e ++ rest) = some (e.kind.toNat, bodyE e, (layE e).length) := by
 have hb := body_len h
 have hk := may_kind h
 unfold layE
 rw [frB_len]
 exact next_fr _ _ _ (by omega) (by omega) (by omega)
theorem readS_none {n : Int} {f : Nat} {first : Bool} {x : List UInt8} (h : nextB x = none) : readS n f first x = ([], 0) := by
 cases f with
 | zero => rfl
 | succ f => rw [readS, h]
theorem readS_lay {n : Int} : ∀ (es : List EntP) (f : Nat) (first : Bool) (junk : List UInt8), es.length ≤ f → (∀ e ∈ es, mayE e n = true) → (∀ (i : Nat) (e : EntP), es[i]? = some e → (decide (e.kind = 1) = (first && decide (i = 0)))) → nextB junk = none →
   readS n f first (layS es ++ junk) = (es, (layS es).length)
 | [], f, first, junk, _, _, _, hj => by rw [show layS [] ++ junk = junk from rfl, readS_none hj]; rfl
 | e :: es, 0, _, _, hf, _, _, _ => by simp at hf
 | e :: es, f + 1, first, junk, hf, hm, hb, hj => by
   have he := hm e List.mem_cons_self
   have hk := may_kind he
   have hb0 := hb 0 e rfl
   have e1 : layS (e :: es) ++ junk = layE e ++ (layS es ++ junk) := by unfold layS; rw [List.flatMap_cons, List.append_assoc]
   have hkk : decide (e.kind.toNat = 1) = first := by
     rw [show decide (e.kind.toNat = 1) = decide (e.kind = 1) from decide_eq_decide.2 ⟨fun h => by omega, fun h => by omega⟩, hb0]; simp
   have ih := readS_lay es f false junk (by simpa using hf) (fun x hx => hm x (List.mem_cons_of_mem _ hx)) (fun i x hx => by
     have := hb (i + 1) x (by simpa using hx)
     rw [this]; simp) hj
   rw [e1, readS, next_ent he]
   simp only
   rw [if_neg (by rw [hkk]; exact fun h => h rfl), read_body he]
   simp only
   rw [if_pos he, List.drop_left, ih]
   refine Prod.ext rfl ?_
   show (layE e).length + (layS es).length = (layS (e :: es)).length
   unfold layS; rw [List.flatMap_cons, List.length_append]
end Go.Proofs.YtflfhpokmidnmaaGreatDoor
namespace Go.Proofs.YtflfhpokmidnmaaGreatDoor
open Go Go.Sl Go.Gv Go.Kv Go.Po Go.Ix Go.Qu Go.Shelf
set_option maxRecDepth 100000
structure StM where
 v : List Int
 w : List Int
 rs : List Rec
def accM (s : StM) (r : Rec) : StM := if recB r && decide (r.o < (s.v.length : Int)) && decide (r.q = at0 s.v r.o.toNat + 1) then ⟨s.v.set r.o.toNat r.q, s.w, s.rs ++ [r]⟩ else s
def raiM (s : StM) (w : List Int) : StM := if vecB w s.v.length then ⟨joinV s.v (joinV s.w w), joinV s.w w, leftR (joinV s.w w) s.rs⟩ else s
def stepM (s : StM) (e : EntP) : StM := if e.kind = 2 then accM s e.r else raiM s e.w
def zeroM (n : Nat) : StM := ⟨List.replicate n 0, List.replicate n 0, []⟩
def playM (n : Nat) (es : List EntP) : StM := es.foldl stepM (raiM (zeroM n) ((es.head?.map EntP.v).getD []))
def OkM (n : Nat) (s : StM) : Prop := StOk n s.v s.w s.rs
theorem vecB_iff {w : List Int} {n : Int} : vecB w n = true ↔ 1 ≤ n ∧ n ≤ 8 ∧ (w.length : Int) = n ∧ ∀ x ∈ w, 0 ≤ x ∧ x ≤ 1023 := by
 unfold vecB
 simp only [Bool.and_eq_true, decide_eq_true_eq, List.all_eq_true]
 exact ⟨fun ⟨⟨⟨h1, h2⟩, h3⟩, h4⟩ => ⟨h1, h2, h3, h4⟩, fun ⟨h1, h2, h3, h4⟩ => ⟨⟨⟨h1, h2⟩, h3⟩, h4⟩⟩
theorem at0_in {w : List Int} {o : Nat} (h : o < w.length) : at0 w o ∈ w := by
 unfold at0; rw [List.getD_eq_getElem?_getD, List.getElem?_eq_getElem h]; exact List.getElem_mem h
theorem recB_parts {r : Rec} (h : recB r = true) : 0 ≤ r.o ∧ r.o < 8 ∧ 1 ≤ r.q ∧ r.q ≤ 1023 := by
 unfold recB keyB at h
 simp only [Bool.and_eq_true, decide_eq_true_eq] at h
 have e1 : r.key.o = r.o := rfl
 have e2 : r.key.q = r.q := rfl
 rw [e1, e2] at h
 omega
theorem OkM.zero (n : Nat) : OkM n (zeroM n) := StOk.zero n
theorem OkM.acc {n : Nat} {s : StM} (h : OkM n s) (r : Rec) : OkM n (accM s r) := by
 unfold accM
 split
 · rename_i e
   simp only [Bool.and_eq_true, decide_eq_true_eq] at e
   obtain ⟨⟨e1, e2⟩, e3⟩ := e
   have hp := recB_parts e1
   rw [StOk.v h] at e2
   exact (StOk.acc h e1 (o := r.o.toNat) (by omega) (by omega) e3 hp.2.2.2).1
 · exact h
theorem OkM.rai {n : Nat} {s : StM} (h : OkM n s) (w : List Int) : OkM n (raiM s w) := by
 unfold raiM
 split
 · rename_i e
   rw [StOk.v h] at e
   obtain ⟨-, -, e3, e4⟩ := vecB_iff.1 e
   have hl : w.length = n := by omega
   exact StOk.raise h hl fun o ho => e4 _ (at0_in (by omega))
 · exact h
theorem OkM.step {n : Nat} {s : StM} (h : OkM n s) (e : EntP) : OkM n (stepM s e) := by
 unfold stepM; split
 · exact h.acc _
 · exact h.rai _
theorem OkM.steps {n : Nat} : ∀ (es : List EntP) {s : StM}, OkM n s → OkM n (es.foldl stepM s)
 | [], _, h => h
 | e :: es, _, h => OkM.steps es (h.step e)
theorem OkM.play (n : Nat) (es : List EntP) : OkM n (playM n es) := OkM.steps es ((OkM.zero n).rai _)
theorem play_snoc {n : Nat} {es : List EntP} (h : es ≠ []) (e : EntP) : playM n (es ++ [e]) = stepM (playM n es) e := by
 unfold playM
 rw [List.foldl_append]
 cases es with
 | nil => exact (h rfl).elim
 | cons x es => rfl
theorem vec_ext {a b : List Int} (hl : a.length = b.length) (h : ∀ o, o < a.length → at0 a o = at0 b o) : a = b := by
 refine List.ext_getElem hl fun i h1 h2 => ?_
 have := h i h1
 unfold at0 at this
 rw [List.getD_eq_getElem?_getD, List.getD_eq_getElem?_getD, List.getElem?_eq_getElem h1, List.getElem?_eq_getElem h2] at this
 exact this
theorem joinV_len {a b : List Int} (h : a.length = b.length) : (joinV a b).length = a.length := by unfold joinV; rw [List.length_zipWith, h, Nat.min_self]
theorem joinV_le {a b : List Int} (hl : a.length = b.length) (h : ∀ o, o < a.length → at0 b o ≤ at0 a o) : joinV a b = a :=
 vec_ext (joinV_len hl) fun o ho => by rw [joinV_len hl] at ho; rw [at0_join hl ho]; have := h o ho; omega
theorem leftR_all {W : List Int} {rs : List Rec} (h : ∀ r ∈ rs, at0 W r.o.toNat < r.q) : leftR W rs = rs := List.filter_eq_self.2 fun r hr => decide_eq_true (h r hr)
theorem leftR_none {W : List Int} {rs : List Rec} (h : ∀ r ∈ rs, r.q ≤ at0 W r.o.toNat) : leftR W rs = [] := List.filter_eq_nil_iff.2 fun r hr hd => by have := of_decide_eq_true hd; have := h r hr; omega
theorem OkM.rec {n : Nat} {s : StM} (h : OkM n s) {r : Rec} (hr : r ∈ s.rs) : ∃ o : Nat, o < n ∧ r.o = (o : Int) ∧ at0 s.w o < r.q ∧ r.q ≤ at0 s.v o := by
 obtain ⟨o, h1, h2, h3, h4⟩ := (StOk.keys h r.key).1 (List.mem_map.2 ⟨r, hr, rfl⟩)
 exact ⟨o, h1, h2, h3, h4⟩
theorem raiM_le {n : Nat} {s : StM} (h : OkM n s) {w : List Int} (hw : w.length = n) (hle : ∀ o, o < n → at0 w o ≤ at0 s.w o) : raiM s w = s := by
 unfold raiM
 split
 · have hv := StOk.v h
   have hwl := StOk.w h
   have e1 : joinV s.w w = s.w := joinV_le (by omega) fun o ho => hle o (by omega)
   have e2 : joinV s.v s.w = s.v := joinV_le (by omega) fun o ho => ((StOk.le h o (by omega)).2.1)
   rw [e1, e2, leftR_all fun r hr => by
     obtain ⟨o, h1, h2, h3, -⟩ := h.rec hr
     rw [h2, Int.toNat_natCast]; exact h3]
 · rfl
theorem raiM_v {n : Nat} {s : StM} (h : OkM n s) {w : List Int} (hb : vecB w n = true) (hle : ∀ o, o < n → at0 w o ≤ at0 s.v o) : raiM s w = ⟨s.v, joinV s.w w, leftR (joinV s.w w) s.rs⟩ := by
 have hv := StOk.v h
 have hwl := StOk.w h
 obtain ⟨-, -, e3, -⟩ := vecB_iff.1 hb
 unfold raiM
 rw [if_pos (by rw [hv]; exact hb)]
 have e1 : joinV s.v (joinV s.w w) = s.v := joinV_le (by rw [joinV_len (by omega)]; omega) fun o ho => by
   rw [at0_join (by omega) (by omega)]
   have h1 := StOk.le h o (by omega)
   have h2 := hle o (by omega)
   omega
 rw [e1]
theorem joinV_right {a b c : List Int} (h1 : a.length = b.length) (h2 : a.length = c.length) : joinV (joinV a b) c = joinV (joinV a c) b :=
 vec_ext (by rw [joinV_len (by rw [joinV_len h1]; exact h2), joinV_len h1, joinV_len (by rw [joinV_len h2]; exact h1), joinV_len h2]) fun o ho => by
   rw [joinV_len (by rw [joinV_len h1]; exact h2), joinV_len h1] at ho
   rw [at0_join (by rw [joinV_len h1]; exact h2) (by rw [joinV_len h1]; exact ho), at0_join h1 ho, at0_join (by rw [joinV_len h2]; exact h1) (by rw [joinV_len h2]; exact ho), at0_join h2 ho]
   omega
theorem leftR_sub {A B : List Int} {rs : List Rec} (h : ∀ r ∈ rs, at0 B r.o.toNat ≤ at0 A r.o.toNat) : leftR A (leftR B rs) = leftR A rs := by
 unfold leftR
 rw [List.filter_filter]
 refine List.filter_congr fun r hr => ?_
 have h1 := h r hr
 rw [← Bool.decide_and]
 exact decide_eq_decide.2 (by omega)
theorem sim_acc {n : Nat} {s : StM} (h : OkM n s) {vb : List Int} (hb : vecB vb n = true) (hle : ∀ o, o < n → at0 vb o ≤ at0 s.v o) (r : Rec) :
   accM (raiM s vb) r = raiM (accM s r) vb ∧ ∀ o, o < n → at0 vb o ≤ at0 (accM s r).v o := by
 have hv := StOk.v h
 have hw := StOk.w h
 obtain ⟨-, -, e3, -⟩ := vecB_iff.1 hb
 rw [raiM_v h hb hle]
 by_cases hc : (recB r && decide (r.o < (s.v.length : Int)) && decide (r.q = at0 s.v r.o.toNat + 1)) = true
 · have hacc : accM s r = ⟨s.v.set r.o.toNat r.q, s.w, s.rs ++ [r]⟩ := by unfold accM; rw [if_pos hc]
   have h2 := h.acc r
   rw [hacc] at h2 ⊢
   simp only [Bool.and_eq_true, decide_eq_true_eq] at hc
   obtain ⟨⟨c1, c2⟩, c3⟩ := hc
   have hp := recB_parts c1
   have hi : r.o.toNat < s.v.length := by omega
   have hle2 : ∀ o, o < n → at0 vb o ≤ at0 (s.v.set r.o.toNat r.q) o := fun o ho => by
     rw [at0_set hi]
     have := hle o ho
     split
     · rename_i e; rw [e] at this ⊢; omega
     · exact this
   refine ⟨?_, hle2⟩
   rw [raiM_v h2 hb hle2]
   unfold accM
   rw [if_pos (by simp only [Bool.and_eq_true, decide_eq_true_eq]; exact ⟨⟨c1, c2⟩, c3⟩)]
   congr 1
   show leftR (joinV s.w vb) s.rs ++ [r] = leftR (joinV s.w vb) (s.rs ++ [r])
   unfold leftR
   rw [List.filter_append]
   congr 1
   rw [List.filter_cons_of_pos]
   · rfl
   · refine decide_eq_true ?_
     rw [at0_join (by omega) (by omega)]
     have h3 := StOk.le h r.o.toNat (by omega)
     have h4 := hle r.o.toNat (by omega)
     omega
 · have hacc : accM s r = s := by unfold accM; rw [if_neg hc]
   rw [hacc]
   refine ⟨?_, hle⟩
   rw [raiM_v h hb hle]
   unfold accM
   rw [if_neg hc]
theorem raiM_yes {n : Nat} {s : StM} (h : OkM n s) {w : List Int} (hb : vecB w n = true) : raiM s w = ⟨joinV s.v (joinV s.w w), joinV s.w w, leftR (joinV s.w w) s.rs⟩ := by
 unfold raiM; rw [if_pos (by rw [StOk.v h]; exact hb)]
theorem raiM_no {n : Nat} {s : StM} (h : OkM n s) {w : List Int} (hb : ¬ vecB w n = true) : raiM s w = s := by
 unfold raiM; rw [if_neg (by rw [StOk.v h]; exact hb)]
theorem sim_rai {n : Nat} {s : StM} (h : OkM n s) {vb : List Int} (hb : vecB vb n = true) (hle : ∀ o, o < n → at0 vb o ≤ at0 s.v o) (w : List Int) :
   raiM (raiM s vb) w = raiM (raiM s w) vb ∧ ∀ o, o < n → at0 vb o ≤ at0 (raiM s w).v o := by
 have hv := StOk.v h
 have hw := StOk.w h
 obtain ⟨-, -, e3, -⟩ := vecB_iff.1 hb
 by_cases hc : vecB w n = true
 · obtain ⟨-, -, f3, -⟩ := vecB_iff.1 hc
   have hlw : s.w.length = w.length := by omega
   have hlb : s.w.length = vb.length := by omega
   have hj1 := joinV_len hlw
   have hj2 := joinV_len hlb
   have hle2 : ∀ o, o < n → at0 vb o ≤ at0 (raiM s w).v o := fun o ho => by
     rw [raiM_yes h hc]
     show at0 vb o ≤ at0 (joinV s.v (joinV s.w w)) o
     rw [at0_join (by omega) (by omega)]
     have := hle o ho; omega
   refine ⟨?_, hle2⟩
   rw [raiM_v (h.rai w) hb hle2, raiM_yes (h.rai vb) hc, raiM_yes h hc, raiM_v h hb hle]
   have hjr := joinV_right hlb hlw
   have hlt : ∀ r ∈ s.rs, r.o.toNat < s.w.length := fun r hr => by
     obtain ⟨o, h1, h2, -, -⟩ := h.rec hr
     rw [h2, Int.toNat_natCast]; omega
   show (⟨joinV s.v (joinV (joinV s.w vb) w), joinV (joinV s.w vb) w, leftR (joinV (joinV s.w vb) w) (leftR (joinV s.w vb) s.rs)⟩ : StM) = ⟨joinV s.v (joinV s.w w), joinV (joinV s.w w) vb, leftR (joinV (joinV s.w w) vb) (leftR (joinV s.w w) s.rs)⟩
   rw [leftR_sub (A := joinV (joinV s.w vb) w) (B := joinV s.w vb) fun r hr => by rw [at0_join (a := joinV s.w vb) (b := w) (by omega) (by rw [hj2]; exact hlt r hr)]; omega,
     leftR_sub (A := joinV (joinV s.w w) vb) (B := joinV s.w w) fun r hr => by rw [at0_join (a := joinV s.w w) (b := vb) (by omega) (by rw [hj1]; exact hlt r hr)]; omega, hjr]
   congr 1
   refine vec_ext ?_ fun o ho => ?_
   · rw [joinV_len (by rw [joinV_len (by omega)]; omega), joinV_len (by omega)]
   · rw [joinV_len (by rw [joinV_len (by omega)]; omega)] at ho
     rw [at0_join (by rw [joinV_len (by omega)]; omega) ho, at0_join (by omega) ho, at0_join (by omega) (by omega)]
     have := hle o (by omega)
     omega
 · rw [raiM_no h hc, raiM_no (h.rai vb) hc]
   exact ⟨rfl, hle⟩
theorem sim_steps {n : Nat} {vb : List Int} (hb : vecB vb n = true) : ∀ (es : List EntP) {s : StM}, OkM n s → (∀ o, o < n → at0 vb o ≤ at0 s.v o) → es.foldl stepM (raiM s vb) = raiM (es.foldl stepM s) vb
 | [], _, _, _ => rfl
 | e :: es, s, h, hle => by
   rw [List.foldl_cons, List.foldl_cons]
   have h1 : stepM (raiM s vb) e = raiM (stepM s e) vb ∧ ∀ o, o < n → at0 vb o ≤ at0 (stepM s e).v o := by
     unfold stepM; split
     · exact sim_acc h hb hle _
     · exact sim_rai h hb hle _
   rw [h1.1]
   exact sim_steps hb es (h.step e) h1.2
theorem sim_steps_v {n : Nat} {vb : List Int} (hb : vecB vb n = true) : ∀ (es : List EntP) {s : StM}, OkM n s → (∀ o, o < n → at0 vb o ≤ at0 s.v o) → ∀ o, o < n → at0 vb o ≤ at0 (es.foldl stepM s).v o
 | [], _, _, hle => hle
 | e :: es, s, h, hle => by
   refine sim_steps_v hb es (h.step e) ?_
   unfold stepM; split
   · exact (sim_acc h hb hle _).2
   · exact (sim_rai h hb hle _).2
theorem play_trim {n : Nat} {es fs : List EntP} {e : EntP} (hne : es ≠ []) (hb : vecB e.v n = true) (he : (playM n es).v = e.v) : playM n (e :: fs) = raiM (playM n (es ++ e :: fs)) e.v := by
 have hok := OkM.play n es
 have hle : ∀ o, o < n → at0 e.v o ≤ at0 (playM n es).v o := fun o _ => by rw [he]; exact Int.le_refl _
 have h1 : raiM (zeroM n) e.v = raiM (playM n es) e.v := by
   obtain ⟨-, -, e3, e4⟩ := vecB_iff.1 hb
   have hz := OkM.zero n
   rw [raiM_yes hz hb, raiM_v hok hb hle, he]
   have hw := StOk.w hok
   have hzl : (zeroM n).w.length = e.v.length := by show (List.replicate n (0 : Int)).length = _; rw [List.length_replicate]; omega
   have hz0 : ∀ o, o < n → at0 (List.replicate n (0 : Int)) o = 0 := fun o ho => by
     unfold at0; rw [List.getD_eq_getElem?_getD, List.getElem?_replicate, if_pos ho]; rfl
   have hjz : joinV (zeroM n).w e.v = e.v := vec_ext (by rw [joinV_len hzl, hzl]) fun o ho => by
     rw [joinV_len hzl, hzl] at ho
     rw [at0_join hzl (by omega)]
     show max (at0 (List.replicate n (0 : Int)) o) _ = _
     rw [hz0 o (by omega)]
     have := (e4 _ (at0_in (w := e.v) (o := o) ho)).1
     omega
   have hjs : joinV (playM n es).w e.v = e.v := vec_ext (by rw [joinV_len (by omega)]; omega) fun o ho => by
     rw [joinV_len (by omega)] at ho
     rw [at0_join (by omega) ho]
     have := StOk.le hok o (by omega)
     rw [he] at this
     omega
   rw [hjz, hjs]
   have hjv : joinV (zeroM n).v e.v = e.v := hjz
   rw [hjv]
   congr 1
   show [] = leftR e.v (playM n es).rs
   rw [leftR_none (rs := (playM n es).rs) fun r hr => by
     obtain ⟨o, h1, h2, -, h4⟩ := hok.rec hr
     rw [h2, Int.toNat_natCast, ← he]; exact h4]
 have h2 : playM n (es ++ e :: fs) = (e :: fs).foldl stepM (playM n es) := by
   unfold playM
   rw [List.foldl_append]
   cases es with
   | nil => exact (hne rfl).elim
   | cons x es => rfl
 rw [h2, ← sim_steps hb (e :: fs) hok hle, ← h1]
 rfl
theorem play_gone {n : Nat} {es fs : List EntP} {e : EntP} (hne : es ≠ []) (hb : vecB e.v n = true) (he : (playM n es).v = e.v) (hg : ∀ o, o < n → at0 e.v o ≤ at0 (playM n (es ++ e :: fs)).w o) : playM n (e :: fs) = playM n (es ++ e :: fs) := by
 rw [play_trim hne hb he]
 exact raiM_le (OkM.play n _) (by obtain ⟨-, -, e3, -⟩ := vecB_iff.1 hb; omega) hg
theorem w_mono_step {n : Nat} {s : StM} (h : OkM n s) (e : EntP) {o : Nat} (ho : o < n) : at0 s.w o ≤ at0 (stepM s e).w o := by
 unfold stepM; split
 · unfold accM; split <;> exact Int.le_refl _
 · by_cases hc : vecB e.w n = true
   · rw [raiM_yes h hc]
     obtain ⟨-, -, f3, -⟩ := vecB_iff.1 hc
     have hw := StOk.w h
     show _ ≤ at0 (joinV s.w e.w) o
     rw [at0_join (by omega) (by omega)]; omega
   · rw [raiM_no h hc]; exact Int.le_refl _
theorem w_mono {n : Nat} {o : Nat} (ho : o < n) : ∀ (es : List EntP) {s : StM}, OkM n s → at0 s.w o ≤ at0 (es.foldl stepM s).w o
 | [], _, _ => Int.le_refl _
 | e :: es, _, h => Int.le_trans (w_mono_step h e ho) (w_mono ho es (h.step e))
theorem v_step {n : Nat} {s : StM} (h : OkM n s) {e : EntP} {o : Nat} {B : Int} (ho : o < n) (hB : e.kind = 2 → e.r.o = (o : Int) → e.r.q ≤ B) (hs : at0 s.v o ≤ B ∨ at0 s.v o ≤ at0 s.w o) :
   at0 (stepM s e).v o ≤ B ∨ at0 (stepM s e).v o ≤ at0 (stepM s e).w o := by
 have hv := StOk.v h
 have hw := StOk.w h
 unfold stepM; split
 · rename_i hk
   unfold accM; split
   · rename_i hc
     simp only [Bool.and_eq_true, decide_eq_true_eq] at hc
     obtain ⟨⟨c1, c2⟩, c3⟩ := hc
     have hp := recB_parts c1
     show at0 (s.v.set e.r.o.toNat e.r.q) o ≤ B ∨ at0 (s.v.set e.r.o.toNat e.r.q) o ≤ at0 s.w o
     rw [at0_set (by omega)]
     split
     · rename_i eo; exact .inl (hB hk (by omega))
     · exact hs
   · exact hs
 · by_cases hc : vecB e.w n = true
   · rw [raiM_yes h hc]
     obtain ⟨-, -, f3, -⟩ := vecB_iff.1 hc
     show at0 (joinV s.v (joinV s.w e.w)) o ≤ B ∨ at0 (joinV s.v (joinV s.w e.w)) o ≤ at0 (joinV s.w e.w) o
     have hj := joinV_len (a := s.w) (b := e.w) (by omega)
     rw [at0_join (a := s.v) (by omega) (by omega), at0_join (a := s.w) (by omega) (by omega)]
     omega
   · rw [raiM_no h hc]; exact hs
theorem v_steps {n : Nat} {o : Nat} {B : Int} (ho : o < n) : ∀ (es : List EntP) {s : StM}, OkM n s → (∀ e ∈ es, e.kind = 2 → e.r.o = (o : Int) → e.r.q ≤ B) → (at0 s.v o ≤ B ∨ at0 s.v o ≤ at0 s.w o) →
   at0 (es.foldl stepM s).v o ≤ B ∨ at0 (es.foldl stepM s).v o ≤ at0 (es.foldl stepM s).w o
 | [], _, _, _, hs => hs
 | e :: es, _, h, hB, hs => v_steps ho es (h.step e) (fun x hx => hB x (by simp [hx])) (v_step h ho (hB e (by simp)) hs)
def BasesOk (n : Nat) : List EntP → List (List EntP) → Prop
 | _, [] => True
 | pre, c :: cs => (∃ e fs, c = e :: fs ∧ vecB e.v n = true ∧ (pre ≠ [] → (playM n pre).v = e.v)) ∧ BasesOk n (pre ++ c) cs
theorem play_app {n : Nat} {es : List EntP} (h : es ≠ []) (fs : List EntP) : playM n (es ++ fs) = fs.foldl stepM (playM n es) := by
 unfold playM
 rw [List.foldl_append]
 cases es with
 | nil => exact (h rfl).elim
 | cons x es => rfl
theorem bases_cut {n : Nat} {c : List EntP} (hc : c ≠ []) {e : EntP} (hb : vecB e.v n = true) (he : (playM n c).v = e.v) : ∀ (cs : List (List EntP)) {fs : List EntP}, BasesOk n (c ++ e :: fs) cs → BasesOk n (e :: fs) cs
 | [], _, _ => trivial
 | d :: cs, fs, h => by
   obtain ⟨⟨e', fs', h1, h2, h3⟩, h4⟩ := h
   refine ⟨⟨e', fs', h1, h2, fun _ => ?_⟩, ?_⟩
   · rw [play_trim hc hb he, raiM_v (OkM.play n _) hb fun o ho => ?_]
     · exact h3 (by simp)
     · rw [play_app hc]
       refine (sim_steps_v hb _ (OkM.play n c) (fun o _ => by rw [he]; exact Int.le_refl _)) o ho
   · have h5 : c ++ e :: fs ++ d = c ++ e :: (fs ++ d) := by simp
     rw [h5] at h4
     have := bases_cut hc hb he cs h4
     simpa using this
theorem bases_gone {n : Nat} {c d : List EntP} {cs : List (List EntP)} (h : BasesOk n [] (c :: d :: cs)) (hg : ∀ e ∈ c, e.kind = 2 → e.r.q ≤ at0 (playM n (c ++ d ++ cs.flatten)).w e.r.o.toNat)
   (h0 : ∀ e, c.head? = some e → ∀ o, o < n → at0 e.v o ≤ at0 (playM n (c ++ d ++ cs.flatten)).w o) : playM n (d ++ cs.flatten) = playM n (c ++ d ++ cs.flatten) ∧ BasesOk n [] (d :: cs) := by
 obtain ⟨⟨e1, f1, rfl, hb1, -⟩, ⟨e2, f2, rfl, hb2, h2⟩, h3⟩ := h
 have h2 := h2 (by simp)
 have h2' : (playM n (e1 :: f1)).v = e2.v := h2
 have hass : e1 :: f1 ++ e2 :: f2 ++ cs.flatten = (e1 :: f1) ++ e2 :: (f2 ++ cs.flatten) := by simp
 rw [hass] at hg h0 ⊢
 refine ⟨?_, ⟨e2, f2, rfl, hb2, fun h => (h rfl).elim⟩, ?_⟩
 · refine play_gone (es := e1 :: f1) (fs := f2 ++ cs.flatten) (by simp) hb2 h2' fun o ho => ?_
   show at0 e2.v o ≤ at0 (playM n ((e1 :: f1) ++ e2 :: (f2 ++ cs.flatten))).w o
   obtain ⟨W, hW⟩ : ∃ W, W = (playM n ((e1 :: f1) ++ e2 :: (f2 ++ cs.flatten))).w := ⟨_, rfl⟩
   rw [← hW] at hg h0 ⊢
   have hm : at0 (playM n (e1 :: f1)).w o ≤ at0 W o := by
     rw [hW, play_app (by simp)]
     exact w_mono ho _ (OkM.play n _)
   have hv := v_steps (n := n) (o := o) (B := at0 W o) ho (e1 :: f1) ((OkM.zero n).rai e1.v) (fun e he hk ho2 => by
     have := hg e he hk
     rw [ho2, Int.toNat_natCast] at this; exact this) (.inl (by
       rw [raiM_yes (OkM.zero n) hb1]
       obtain ⟨-, -, e3, e4⟩ := vecB_iff.1 hb1
       have hz0 : at0 (List.replicate n (0 : Int)) o = 0 := by unfold at0; rw [List.getD_eq_getElem?_getD, List.getElem?_replicate, if_pos ho]; rfl
       have hzl : (List.replicate n (0 : Int)).length = e1.v.length := by rw [List.length_replicate]; omega
       show at0 (joinV (List.replicate n 0) (joinV (List.replicate n 0) e1.v)) o ≤ at0 W o
       rw [at0_join (by rw [joinV_len hzl]) (by rw [List.length_replicate]; exact ho), at0_join hzl (by rw [List.length_replicate]; exact ho), hz0]
       have h5 := h0 e1 rfl o ho
       have h6 := (e4 _ (at0_in (w := e1.v) (o := o) (by omega))).1
       omega))
   rw [← h2']
   have hv' : at0 (playM n (e1 :: f1)).v o ≤ at0 W o ∨ at0 (playM n (e1 :: f1)).v o ≤ at0 (playM n (e1 :: f1)).w o := hv
   omega
 · exact bases_cut (by simp) hb2 h2' cs h3
theorem bases_app {n : Nat} : ∀ (cs : List (List EntP)) (pre : List EntP) (ds : List (List EntP)), BasesOk n pre (cs ++ ds) ↔ BasesOk n pre cs ∧ BasesOk n (pre ++ cs.flatten) ds
 | [], pre, ds => by simp [BasesOk]
 | c :: cs, pre, ds => by
   have h := bases_app (n := n) cs (pre ++ c) ds
   show (_ ∧ BasesOk n (pre ++ c) (cs ++ ds)) ↔ (_ ∧ BasesOk n (pre ++ c) cs) ∧ BasesOk n (pre ++ (c ++ cs.flatten)) ds
   rw [h, List.append_assoc, and_assoc]
theorem bases_grow {n : Nat} {X : List (List EntP)} {c : List EntP} (h : BasesOk n [] (X ++ [c])) (e : EntP) : BasesOk n [] (X ++ [c ++ [e]]) := by
 rw [bases_app] at h ⊢
 obtain ⟨h1, ⟨b, fs, rfl, h3, h4⟩, -⟩ := h
 exact ⟨h1, ⟨b, fs ++ [e], rfl, h3, h4⟩, trivial⟩
theorem bases_new {n : Nat} {X : List (List EntP)} (h : BasesOk n [] X) {b : EntP} (hb : vecB b.v n = true) (hv : (playM n X.flatten).v = b.v) (fs : List EntP) : BasesOk n [] (X ++ [b :: fs]) := by
 rw [bases_app]
 exact ⟨h, ⟨b, fs, rfl, hb, fun _ => hv⟩, trivial⟩
theorem play_base {n : Nat} {es : List EntP} (hne : es ≠ []) {b : EntP} (hk : b.kind ≠ 2) (hw : b.w = (playM n es).w) (fs : List EntP) : playM n (es ++ b :: fs) = playM n (es ++ fs) := by
 have hok := OkM.play n es
 rw [play_app hne, play_app hne, List.foldl_cons]
 congr 1
 unfold stepM
 rw [if_neg hk, hw]
 exact raiM_le hok (StOk.w hok) fun o _ => Int.le_refl _
end Go.Proofs.YtflfhpokmidnmaaGreatDoor
namespace Go.Proofs.YtflfhpokmidnmaaGreatDoor
open Go Go.Sl Go.Gv Go.Kv Go.Po Go.Ix Go.Qu Go.Shelf
set_option maxRecDepth 100000
theorem vzero_spec (n : Nat) (h1 : 1 ≤ n) (h8 : n ≤ 8) :
   Ct Tryz.prog 93 [int n] [] (fun v hs => ∃ a, v = .slice a n n ∧ hs = [sl 3 1 intC a n (List.replicate n 0)]) := by
 refine Cti Tryz.func93 (by kernel_rfl) 11 Tryz.ntmps93 rfl rfl fun w0 R => ?_
 refine Gsr (Las rfl rfl (Lnt (Gs.seq (Gsr (Lmv rfl rfl (Lq rfl (pu_lt rfl rfl) (LpuBf rfl rfl trivial (pu_move rfl) (decide_eq_false (by omega)) (Lpu rfl rfl ⟨_, rfl, rfl⟩ (pu_move rfl) (Lpu rfl rfl ⟨_, rfl, rfl⟩ (pu_gt rfl rfl) (Lpk rfl rfl rfl (Lnt ?_)))))))))))
 refine Gs.cond_ff rfl (decide_eq_false (by omega)) (Gs.skip (Gn (Gsr (Lmv rfl rfl (La rfl (ac_make intC 0 et_30 ek_3 zv_3 rfl rfl rfl (by omega) (by omega) (by omega) (by omega)) ?_)))))
 rintro _ _ ⟨a10, rfl, rfl⟩
 refine Las rfl rfl (Lnt (Gs.ret ?_))
 exact Gs.fin1 Tryz.results93 rfl _ (⟨_, by rw [List.length_replicate]; rfl, rfl⟩) (by repeat constructor)
theorem join1_spec (i j : Int) : Ct Tryz.prog 135 [int i, int j] [] (fun v hs => v = int (max i j) ∧ hs = []) := by
 refine Cti Tryz.func135 (by kernel_rfl) 8 Tryz.ntmps135 rfl rfl fun w0 R => ?_
 refine Gsr (Las rfl rfl (Lnt (Gsr (Lmv rfl rfl (Lmv rfl rfl (Lq rfl (pu_max rfl rfl) (Las rfl rfl (Lnt (Gs.ret ?_)))))))))
 exact Gs.fin1 Tryz.results135 rfl _ (⟨rfl, rfl⟩) (by repeat constructor)
theorem at0_get {v : List Int} {i : Nat} (h : i < v.length) : v[i]? = some (at0 v i) := by
 unfold at0; rw [List.getD_eq_getElem?_getD, List.getElem?_eq_getElem h]; rfl
def foldJ (x y : List Int) : Nat → List Int
 | 0 => []
 | 1 => x
 | _ => joinV x y
def lenJ (x : List Int) : Nat → Nat
 | 0 => 0
 | _ => x.length
@[simp] theorem foldJ_zero (x y : List Int) : foldJ x y 0 = [] := rfl
@[simp] theorem foldJ_one (x y : List Int) : foldJ x y 1 = x := rfl
def foldK (x y : List Int) (j : Nat) : List Int := (joinV x y).take j ++ x.drop j
theorem foldK_len {x y : List Int} (h : x.length = y.length) {j : Nat} (hj : j ≤ x.length) : (foldK x y j).length = x.length := by
 unfold foldK; rw [List.length_append, List.length_take, List.length_drop, joinV_len h]; omega
theorem foldK_at {x y : List Int} (h : x.length = y.length) {j : Nat} (hj : j < x.length) : (foldK x y j)[j]? = some (at0 x j) := by
 unfold foldK
 rw [List.getElem?_append_right (by rw [List.length_take, joinV_len h]; omega), List.length_take, joinV_len h, show j - min j x.length = 0 by omega, List.getElem?_drop, Nat.add_zero]
 exact at0_get hj
theorem foldK_set {x y : List Int} (h : x.length = y.length) {j : Nat} (hj : j < x.length) : (foldK x y j).set j (max (at0 x j) (at0 y j)) = foldK x y (j + 1) := by
 have hl := joinV_len h
 have hm : (joinV x y)[j]? = some (max (at0 x j) (at0 y j)) := by rw [at0_get (by omega), at0_join h hj]
 unfold foldK
 rw [List.set_append_right _ _ (by rw [List.length_take, hl]; omega), List.length_take, hl, show j - min j x.length = 0 by omega, List.take_add_one, hm, List.append_assoc]
 congr 1
 rw [List.drop_eq_getElem_cons hj]; rfl
theorem foldK_all {x y : List Int} (h : x.length = y.length) : foldK x y x.length = joinV x y := by
 unfold foldK; rw [List.take_of_length_le (by rw [joinV_len h]; exact Nat.le_refl _), List.drop_length, List.append_nil]
theorem fold_spec {S U V : HProp} {a : Option Addr} {c : Nat} {p q : SlV Int} (hS : Srd S 1 slC a [p, q]) (hU : Srd U 1 intC p.a p.xs) (hV : Srd V 1 intC q.a q.xs) (h : p.xs.length = q.xs.length) (hl : p.xs.length ≤ 1000) :
   Ct Tryz.prog 134 [.slice a 2 c, .func (.func 135) #[] #[]] [S, U, V]
     (fun v hs => ∃ a' c', v = .slice a' (joinV p.xs q.xs).length c' ∧ hs = [S, U, V, sl 3 1 intC a' c' (joinV p.xs q.xs)]) := by
 have hjl := joinV_len h
 refine Cti Tryz.func134 (by kernel_rfl) 47 Tryz.ntmps134 rfl rfl fun w0 R => ?_
 refine Gs.slAddr (hS.h (by repeat constructor)) fun ab ao ha => ?_
 refine Gs.slAddr (hV.h (by repeat constructor)) fun qb qo hqa => ?_
 obtain rfl := ha (by simp)
 refine Gsr (Las rfl rfl (Lnt (Gsr (Las rfl rfl (Lnil (Gs.slNil 3 1 intC (Gn (Gs.seq (Gsr (Lmv rfl rfl (Lq rfl (pu_len Tryz.underlying207 rfl) ?_)))))))))))
 refine Lmv rfl rfl (Lnt (Gs.block (Gs.loop1 (fun s : Nat × (Option Addr × Nat) => s.1 ≤ 2 ∧ (s.1 = 0 → s.2 = (none, 0))) (fun s => [(1, .func (.func 135) #[] #[]), (5, .slice s.2.1 (lenJ p.xs s.1) s.2.2), (9, .slice (some ⟨ab, ao, none⟩) 2 c), (10, int 2), (11, int s.1)]) (fun s => [S, U, V, sl 3 1 intC s.2.1 s.2.2 (foldJ p.xs q.xs s.1)] ++ R) (fun s => 2 - s.1) (0, (none, 0)) (⟨by decide, fun _ => rfl⟩) (by repeat constructor) (by repeat constructor) (fun s hs => ?_))))
 obtain ⟨i, oa, oc⟩ := s
 obtain ⟨hi, h0⟩ := hs
 dsimp only at hi h0 ⊢
 refine Gsr (Lq rfl (pu_lt rfl rfl) (Lnt (Gs.seq (Gs.cond rfl (fun hc0 => ?_) (fun hc0 => ?_)))))
 ·
  have hlt : i < 2 := by have := of_decide_eq_true hc0; omega
  obtain ⟨x, hx, hxs⟩ : ∃ x, ([p, q] : List (SlV Int))[i]? = some x ∧ ((i = 0 ∧ x = p) ∨ (i = 1 ∧ x = q)) := by
    have : i = 0 ∨ i = 1 := by omega
    rcases this with rfl | rfl
    · exact ⟨p, rfl, .inl ⟨rfl, rfl⟩⟩
    · exact ⟨q, rfl, .inr ⟨rfl, rfl⟩⟩
  refine Gs.skip (Gn (Gs.seq (Gs.block (Gsr (Lmv rfl rfl (Lq rfl (pu_ia se_207 rfl rfl (by omega) (by omega)) (Lr rfl (rd_ld na_30 rfl (Rdc.el0 (hS.h (by repeat constructor)) hx rfl rfl)) ?_)))))))
  refine Las rfl rfl (Las rfl rfl (Lnt (Gs.seq (Gsr (Lmv rfl rfl (Lq rfl (pu_eq rfl rfl) (Lnt (Gs.cond rfl (fun hc1 => ?_) (fun hc1 => ?_)))))))))
  ·
   obtain ⟨rfl, hxe⟩ : i = 0 ∧ x = p := by
     have := of_decide_eq_true hc1
     rcases hxs with h | h
     · exact h
     · omega
   obtain rfl := hxe.symm
   obtain ⟨rfl, rfl⟩ := Prod.mk.inj (h0 rfl)
   refine Gsr (Lmv rfl rfl (Lmv rfl rfl (La rfl (ac_append et_30 ek_3 rfl rfl (by repeat constructor) (SrcH.sl Tryz.underlying30 ek_3 (hU.h (by repeat constructor))) (by first | omega | (simp; omega)) (by first | omega | (simp; omega))) ?_)))
   rintro _ _ ⟨a20, c20, rfl, rfl⟩
   refine Las rfl rfl (Lnt (Gs.exit (Gx (Gs.blk_hit (Gn (Gs.reg (Lq rfl (by first | exact pu_addI rfl rfl rfl (by omega) (by omega) | exact pu_add rfl rfl) ?_)))))))
   refine Lmv rfl rfl (Lnt ?_)
   first | exact Ag (2, (oa, oc)) ⟨Nat.le_of_ble_eq_true rfl, fun h => by cases h⟩ (Nat.lt_of_sub_pos (Nat.le_of_ble_eq_true rfl)) | exact Ag (1, (a20, c20)) ⟨Nat.le_of_ble_eq_true rfl, fun h => by cases h⟩ (Nat.lt_of_sub_pos (Nat.le_of_ble_eq_true rfl))
  obtain ⟨rfl, hxe⟩ : i = 1 ∧ x = q := by
    have := of_decide_eq_false hc1
    rcases hxs with h | h
    · omega
    · exact h
  obtain rfl := hxe.symm
  refine Gs.skip (Gn (Gs.seq (Gsr (Lmv rfl rfl (Lq rfl (pu_len Tryz.underlying30 rfl) (Lmv rfl rfl (Lq rfl (pu_len Tryz.underlying30 rfl) (Lq rfl (pu_ne rfl rfl) (Lnt (Gs.cond_ff rfl (decide_eq_false (by show ¬ ((q.xs.length : Int) ≠ (p.xs.length : Int)); omega)) ?_))))))))))
  refine Gs.skip (Gn (Gsr (Lmv rfl rfl (Lq rfl (pu_len Tryz.underlying30 rfl) (Lmv rfl rfl (Lnt (Gs.block (Gs.loop1 (fun j : Nat => j ≤ p.xs.length) (fun j => [(1, .func (.func 135) #[] #[]), (5, .slice oa p.xs.length oc), (7, slV q), (9, .slice (some ⟨ab, ao, none⟩) 2 c), (10, int 2), (11, int (1 : Nat)), (27, int p.xs.length), (28, int j)]) (fun j => [S, U, V, sl 3 1 intC oa oc (foldK p.xs q.xs j)] ++ R) (fun j => p.xs.length - j) 0 (Nat.zero_le _) (by repeat constructor) (by repeat constructor) (fun j hj => ?_)))))))))
  have hkl := foldK_len h hj
  refine Gs.slAddr (xs := foldK p.xs q.xs j) (SlH.own (E := 3) (enc := intC) (a := oa) (c := oc) (by repeat constructor)) fun ob oo hoa => ?_
  refine Gsr (Lq rfl (pu_lt rfl rfl) (Lnt (Gs.seq (Gs.cond rfl (fun hc3 => ?_) (fun hc3 => ?_)))))
  ·
   have hlt : j < p.xs.length := by have := of_decide_eq_true hc3; omega
   obtain rfl := hoa (fun e => by rw [e, List.length_nil] at hkl; omega)
   obtain ⟨qa, qs, qc⟩ := q
   dsimp only at hU hV h hjl hqa hxs ⊢
   obtain rfl := hqa (fun e => by have e2 : qs.length = 0 := (by simpa using congrArg List.length e)
                                  omega)
   have h2 : p.xs.length = ({ a := some ⟨qb, qo, none⟩, xs := qs, c := qc } : SlV Int).xs.length := h
   have gP := foldK_at h hlt
   have gQ := at0_get (v := qs) (i := j) (by omega)
   have hset := foldK_set h hlt
   refine Gs.skip (Gn (Gs.seq (Gs.block (Gsr (Lmv rfl rfl (Las rfl rfl (Lnt (Gs.regD mixed (by kernel_rfl) (Rmv 0 rfl (by kernel_rfl) rfl (Rmv 1 rfl (by kernel_rfl) rfl (Rmv 2 rfl (by kernel_rfl) rfl ?_)))))))))))
   refine Rmv 3 rfl (by kernel_rfl) rfl (Rmv 4 rfl (by kernel_rfl) rfl (Rq 5 rfl (by kernel_rfl) (pu_ia se_30 rfl rfl (by omega) (by omega)) (Rr 6 rfl (by kernel_rfl) (rd_ld na_3 rfl (Rdc.el0 (SlH.own (by repeat constructor)) gP rfl rfl)) ?_)))
   refine Rmv 7 rfl (by kernel_rfl) rfl (Rmv 8 rfl (by kernel_rfl) rfl (Rq 9 rfl (by kernel_rfl) (pu_ia se_30 rfl rfl (by omega) (by omega)) (Rr 10 rfl (by kernel_rfl) (rd_ld na_3 rfl (Rdc.el0 (hV.h (by repeat constructor)) gQ rfl rfl)) ?_)))
   refine Rg.one (by kernel_rfl) (Stp.ac 11 rfl rfl (by kernel_rfl) trivial (as_callV rfl (join1_spec _ _) (by repeat constructor) (by repeat constructor))  ?_)
   rintro _ _ ⟨_, ⟨rfl, rfl⟩, rfl⟩
   refine Rq 12 rfl (by kernel_rfl) (pu_ia se_30 rfl rfl (by omega) (by omega)) (Rg.one (by kernel_rfl) (Stp.ac0 13 rfl rfl (by kernel_rfl) trivial (ac_stE (i := j) (fo := 0) (y0 := max (at0 p.xs j) (at0 qs j)) sz_3 ek_3 rfl rfl (by repeat constructor) rfl rfl rfl gP rfl rfl)  ?_))
   rintro _ _ rfl
   rw [hset]
   refine Rg.end (by kernel_rfl) (Gs.blk_n (Gn (Gs.reg (Lq rfl (by first | exact pu_addI rfl rfl rfl (by omega) (by omega) | exact pu_add rfl rfl) ?_))))
   refine Lmv rfl rfl (Lnt ?_)
   exact Ag (j + 1) hlt (by omega)
  have hge : j = p.xs.length := by have := of_decide_eq_false hc3; omega
  subst hge
  rw [foldK_all h]
  refine Gs.exit (Gx (Gx (Gs.blk_hit (Gs.blk_n (Gn (Gs.reg (Lq rfl (by first | exact pu_addI rfl rfl rfl (by omega) (by omega) | exact pu_add rfl rfl) ?_)))))))
  refine Lmv rfl rfl (Lnt ?_)
  first | exact Ag (2, (oa, oc)) ⟨Nat.le_of_ble_eq_true rfl, fun h => by cases h⟩ (Nat.lt_of_sub_pos (Nat.le_of_ble_eq_true rfl)) | exact Ag (1, (a20, c20)) ⟨Nat.le_of_ble_eq_true rfl, fun h => by cases h⟩ (Nat.lt_of_sub_pos (Nat.le_of_ble_eq_true rfl))
 have hge : i = 2 := by have := of_decide_eq_false hc0; omega
 subst hge
 refine Gs.exit (Gx (Gx (Gs.blk_hit (Gn (Gsr (Lmv rfl rfl (Las rfl rfl (Lnt (Gs.ret ?_)))))))))
 exact Gs.fin1 Tryz.results134 rfl _ (⟨oa, oc, congrArg (fun n => Value.slice oa n oc) hjl.symm, rfl⟩) (by repeat constructor)
theorem join_spec {S U V : HProp} {a : Option Addr} {c : Nat} {p q : SlV Int} (hS : Srd S 1 slC a [p, q]) (hU : Srd U 1 intC p.a p.xs) (hV : Srd V 1 intC q.a q.xs) (h : p.xs.length = q.xs.length) (hl : p.xs.length ≤ 1000) :
   Ct Tryz.prog 96 [.slice a 2 c] [S, U, V] (fun v hs => ∃ a' c', v = .slice a' (joinV p.xs q.xs).length c' ∧ hs = [S, U, V, sl 3 1 intC a' c' (joinV p.xs q.xs)]) := by
 refine Cti Tryz.func96 (by kernel_rfl) 5 Tryz.ntmps96 rfl rfl fun w0 R => ?_
 refine Gsr (Las rfl rfl (Lnt (Gsr (Lmv rfl rfl (La rfl (asC (fold_spec hS hU hV h hl)) ?_)))))
 rintro _ _ ⟨_, ⟨ja, jc, rfl, rfl⟩, rfl⟩
 refine Las rfl rfl (Lnt (Gs.ret ?_))
 exact Gs.fin1 Tryz.results96 rfl _ (⟨ja, jc, rfl, rfl⟩) (by repeat constructor)
structure SpanV where
 o : Int
 q : Int
 m : Int
abbrev spC (s : SpanV) : List Value := [int s.o, int s.q, int s.m]
abbrev encC_174 : SpanV → List Value := spC
theorem ek_174 : EncOk 3 spC := ⟨fun _ => rfl, fun x v hv => by
 simp only [spC, List.mem_cons, List.not_mem_nil, or_false] at hv
 rcases hv with rfl | rfl | rfl <;> rfl⟩
def spansN (V U W : List Int) (m : Nat) : List SpanV := (List.range m).flatMap fun o => if topAt U W o < at0 V o then [⟨(o : Int), topAt U W o + 1, at0 V o - topAt U W o⟩] else []
theorem spansN_succ (V U W : List Int) (m : Nat) : spansN V U W (m + 1) = spansN V U W m ++ (if topAt U W m < at0 V m then [⟨(m : Int), topAt U W m + 1, at0 V m - topAt U W m⟩] else []) := by
 unfold spansN; rw [List.range_succ, List.flatMap_append]; simp
theorem spansN_len (V U W : List Int) : ∀ m, (spansN V U W m).length ≤ m
 | 0 => by simp [spansN]
 | m + 1 => by
   rw [spansN_succ, List.length_append]
   have := spansN_len V U W m
   split <;> simp <;> omega
theorem spans_keys (V U W : List Int) : ∀ m, (spansN V U W m).flatMap (fun s => (List.range s.m.toNat).map fun i : Nat => (⟨s.o, s.q + (i : Int)⟩ : Key)) = lackN V U W m
 | 0 => by simp [spansN, lackN]
 | m + 1 => by
   rw [spansN_succ, List.flatMap_append, spans_keys V U W m, lackN_succ]
   congr 1
   unfold spanAt
   split
   · simp
   · rename_i h
     rw [show (at0 V m - topAt U W m).toNat = 0 by omega]; simp
theorem lack3_spec {A B D : HProp} {a b c : Option Addr} {p q r : Nat} {V U W : List Int} (hV : Srd A 1 intC a V) (hU : Srd B 1 intC b U) (hW : Srd D 1 intC c W) (hu : U.length = V.length) (hw : W.length = V.length) (hl : V.length ≤ 8)
   (hb : ∀ o, o < V.length → -10000 ≤ at0 V o ∧ at0 V o ≤ 10000 ∧ -10000 ≤ topAt U W o ∧ topAt U W o ≤ 10000) :
   Ct Tryz.prog 104 [.slice a V.length p, .slice b U.length q, .slice c W.length r] [A, B, D] (fun v hs => ∃ d e, v = .slice d (spansN V U W V.length).length e ∧ hs = [A, B, D, sl 174 3 spC d e (spansN V U W V.length)]) := by
 refine Cti Tryz.func104 (by kernel_rfl) 57 Tryz.ntmps104 rfl rfl fun w0 R => ?_
 refine Gs.slAddr (hV.h (by repeat constructor)) fun ab ao ha => ?_
 refine Gs.slAddr (hU.h (by repeat constructor)) fun bb bo hba => ?_
 refine Gs.slAddr (hW.h (by repeat constructor)) fun cb co hca => ?_
 refine Gsr (Las rfl rfl (Lnt (Gs.seq (Gsr (Lmv rfl rfl (Lq rfl (pu_len Tryz.underlying30 rfl) (Lmv rfl rfl (Lq rfl (pu_len Tryz.underlying30 rfl) (Lq rfl (pu_ne rfl rfl) (LpuBf rfl rfl trivial (pu_move rfl) (decide_eq_false (by omega)) (Lpu rfl rfl ⟨_, rfl, rfl⟩ (pu_move rfl) ?_)))))))))))
 refine Lpu rfl rfl ⟨_, rfl, rfl⟩ (pu_len Tryz.underlying30 rfl) (Lpu rfl rfl ⟨_, rfl, rfl⟩ (pu_move rfl) (Lpu rfl rfl ⟨_, rfl, rfl⟩ (pu_len Tryz.underlying30 rfl) (Lpu rfl rfl ⟨_, rfl, rfl⟩ (pu_ne rfl rfl) (Lpk rfl rfl rfl (Lnt (Gs.cond_ff rfl (decide_eq_false (by omega)) (Gs.skip (Gn (Gsr (Las rfl rfl (Lnil ?_)))))))))))
 refine Gs.slNil 174 3 spC (Gn (Gs.seq (Gsr (Lmv rfl rfl (Lq rfl (pu_len Tryz.underlying30 rfl) (Lmv rfl rfl (Lnt (Gs.block (Gs.loop1 (fun s : Nat × (Option Addr × Nat) => s.1 ≤ V.length) (fun s => [(0, .slice a V.length p), (1, .slice b U.length q), (2, .slice c W.length r), (7, .slice s.2.1 (spansN V U W s.1).length s.2.2), (23, int V.length), (24, int s.1)]) (fun s => [A, B, D, sl 174 3 spC s.2.1 s.2.2 (spansN V U W s.1)] ++ R) (fun s => V.length - s.1) (0, (none, 0)) (Nat.zero_le _) (by repeat constructor) (by repeat constructor) (fun s hs => ?_))))))))))
 obtain ⟨i, da, dc⟩ := s
 dsimp only at hs ⊢
 have hsl := spansN_len V U W i
 have hsn := spansN_succ V U W i
 refine Gsr (Lq rfl (pu_lt rfl rfl) (Lnt (Gs.seq (Gs.cond rfl (fun hc1 => ?_) (fun hc1 => ?_)))))
 ·
  have hlt : i < V.length := by have := of_decide_eq_true hc1; omega
  obtain rfl := ha (by rintro rfl; simp at hlt)
  obtain rfl := hba (by rintro rfl; simp at hu; omega)
  obtain rfl := hca (by rintro rfl; simp at hw; omega)
  have gV := at0_get (v := V) hlt
  have gU := at0_get (v := U) (i := i) (by omega)
  have gW := at0_get (v := W) (i := i) (by omega)
  have hbi : -10000 ≤ at0 V i ∧ at0 V i ≤ 10000 ∧ -10000 ≤ max (at0 U i) (at0 W i) ∧ max (at0 U i) (at0 W i) ≤ 10000 := hb i hlt
  refine Gs.skip (Gn (Gs.seq (Gs.block (Gsr (Lmv rfl rfl (Las rfl rfl (Lnt (Gs.seq (Gs.regD mixed (by kernel_rfl) (Rmv 0 rfl (by kernel_rfl) rfl (Rmv 1 rfl (by kernel_rfl) rfl ?_)))))))))))
  refine Rq 2 rfl (by kernel_rfl) (pu_ia se_30 rfl rfl (by omega) (by omega)) (Rr 3 rfl (by kernel_rfl) (rd_ld na_3 rfl (Rdc.el0 (hU.h (by repeat constructor)) gU rfl rfl)) ?_)
  refine Rmv 4 rfl (by kernel_rfl) rfl (Rmv 5 rfl (by kernel_rfl) rfl (Rq 6 rfl (by kernel_rfl) (pu_ia se_30 rfl rfl (by omega) (by omega)) (Rr 7 rfl (by kernel_rfl) (rd_ld na_3 rfl (Rdc.el0 (hW.h (by repeat constructor)) gW rfl rfl)) ?_)))
  refine Rq 8 rfl (by kernel_rfl) (pu_max rfl rfl) (Rq 9 rfl (by kernel_rfl) (pu_assign rfl) (Rg.end (by kernel_rfl) (Gn (Gsr (Lmv rfl rfl (Lmv rfl rfl (Lmv rfl rfl (Lq rfl (pu_ia se_30 rfl rfl (by omega) (by omega)) (Lr rfl (rd_ld na_3 rfl (Rdc.el0 (hV.h (by repeat constructor)) gV rfl rfl)) ?_)))))))))
  refine Lq rfl (pu_lt rfl rfl) (Lnt (Gs.cond rfl (fun hc2 => ?_) (fun hc2 => ?_)))
  ·
   have hst : spansN V U W (i + 1) = spansN V U W i ++ [⟨(i : Int), topAt U W i + 1, at0 V i - topAt U W i⟩] := by rw [hsn, if_pos (c := topAt U W i < at0 V i) (of_decide_eq_true hc2)]
   refine Gs.reg (Lmv rfl rfl (Lmv rfl rfl (Lmv rfl rfl (Lq rfl (by first | exact pu_addI rfl rfl rfl (by omega) (by omega) | exact pu_add rfl rfl) ?_))))
   refine Lmv rfl rfl (Lmv rfl rfl (Lq rfl (pu_ia se_30 rfl rfl (by omega) (by omega)) (Lr rfl (rd_ld na_3 rfl (Rdc.el0 (hV.h (by repeat constructor)) gV rfl rfl)) ?_)))
   refine Lmv rfl rfl (Lq rfl (pu_subI (z := at0 V i - topAt U W i) rfl rfl rfl (by omega) (by omega)) ?_)
   refine Lq rfl (pu_build bd_174 (by repeat constructor) rfl) ?_
   refine La rfl (ac_lit encC_174 ([(⟨(i : Int), topAt U W i + 1, at0 V i - topAt U W i⟩ : SpanV)]) et_171 ek_174 rfl (by repeat constructor) rfl rfl (by decide)) ?_
   rintro _ _ ⟨a53, rfl, rfl⟩
   refine La rfl (ac_append (xs := spansN V U W i) (ys := [(⟨(i : Int), topAt U W i + 1, at0 V i - topAt U W i⟩ : SpanV)]) et_171 ek_174 rfl rfl (by repeat constructor) (SrcH.sl Tryz.underlying171 ek_174 (SlH.own (by repeat constructor))) (by first | omega | (simp; omega)) (by first | omega | (simp; omega))) ?_
   rintro _ _ ⟨a54, c54, rfl, rfl⟩
   refine Las rfl rfl (Lnil ?_)
   rw [← hst]
   refine Gs.blk_n (Gn (Gs.reg (Lq rfl (by first | exact pu_addI rfl rfl rfl (by omega) (by omega) | exact pu_add rfl rfl) ?_)))
   refine Lmv rfl rfl (Lnt ?_)
   first | exact Ag (i + 1, (a54, c54)) hlt (by show V.length - (i + 1) < V.length - i; omega) | (rw [← hst]; exact Ag (i + 1, (da, dc)) hlt (by show V.length - (i + 1) < V.length - i; omega))
  have hst : spansN V U W (i + 1) = spansN V U W i := by rw [hsn, if_neg (c := topAt U W i < at0 V i) (of_decide_eq_false hc2), List.append_nil]
  refine Gs.skip (Gs.blk_n (Gn (Gs.reg (Lq rfl (by first | exact pu_addI rfl rfl rfl (by omega) (by omega) | exact pu_add rfl rfl) ?_))))
  refine Lmv rfl rfl (Lnt ?_)
  first | exact Ag (i + 1, (a54, c54)) hlt (by show V.length - (i + 1) < V.length - i; omega) | (rw [← hst]; exact Ag (i + 1, (da, dc)) hlt (by show V.length - (i + 1) < V.length - i; omega))
 have hge : i = V.length := by have := of_decide_eq_false hc1; omega
 subst hge
 refine Gs.exit (Gx (Gx (Gs.blk_hit (Gn (Gsr (Lmv rfl rfl (Las rfl rfl (Lnt (Gs.ret ?_)))))))))
 exact Gs.fin1 Tryz.results104 rfl _ (⟨da, dc, rfl, rfl⟩) (by repeat constructor)
end Go.Proofs.YtflfhpokmidnmaaGreatDoor
namespace Go.Sl
open Go Go.Kv
section
variable {P : Program} {n : Nat} {w0 : World} {env : Env} {H : List HProp} {κ ν : Type}
theorem zip_erase {α β : Type} : ∀ (l : List α) (m : List β) (j : Nat), (l.eraseIdx j).zip (m.eraseIdx j) = (l.zip m).eraseIdx j
 | [], m, j => by simp
 | a :: l, [], j => by cases j <;> simp
 | a :: l, b :: m, 0 => rfl
 | a :: l, b :: m, j + 1 => by simp [zip_erase l m j]
theorem filter_off {α : Type} {q : α → Bool} : ∀ (l : List α) (j : Nat) (x : α), l[j]? = some x → q x = false → (l.eraseIdx j).filter q = l.filter q
 | [], _, _, h, _ => by simp at h
 | a :: l, 0, x, h, hq => by simp at h; subst h; simp [hq]
 | a :: l, j + 1, x, h, hq => by
   simp only [List.eraseIdx_cons_succ, List.filter_cons]
   rw [filter_off l j x (by simpa using h) hq]
theorem ac_delI [DecidableEq κ] {d : Option Tmp} {x y : Operand} {T K E ty : TypeId} {ts : Array TypeId} {pos : String} {af : Array Edge} {g : Option (Nat × Bool)} {enck : κ → Value} {encv : ν → Value} {r b : Nat} {m left : List (κ × ν)} {p : κ × ν} {H' : List HProp} (ht : P.underlying T = some (.map K E)) (kt : KeyT P K enck) (hts : ts[0]? = some T)
   (hx : ev env x = some (.map (some b))) (hy : ev env y = some (enck p.1)) (t : Take (itr enck encv r b m left (some p)) H H') :
   Ac P ⟨d, .call ⟨.builtin .delete, #[x, y], ts⟩, ty, pos, af, g⟩ w0 env H (fun _ H'' => H'' = itr enck encv r b (mdel m p.1) left none :: H') := Ac.of_run fun ρ w rr s => by
 have st := s.take t
 obtain ⟨h, le, h1, h2, dd, rfl, ⟨ents, clock, seen, htw, he, hn, hb1, hb2, hleft, hlast⟩, hl⟩ := st.heap
 have sat2 : Sat w0 w (two (pt b (.map ents clock)) (pt r (.mapIter (some b) clock seen clock)) :: H') := ⟨st.os, st.tape, st.output, st.size, _, le, h1, h2, dd, rfl, htw, hl⟩
 have satA := Sat.two.1 sat2
 have hb := satA.pt
 have hu : (underlying T).run P w = .ok (.map K E) w := by simp [underlying, ht, go_sem]
 obtain ⟨e, hz, hback⟩ := hlast p rfl
 have hlen : ents.toList.length = m.length := by have := congrArg List.length he; simpa using this
 have hpm : p ∈ m := (List.of_mem_zip hz).2
 rcases seek_spec (encv := encv) (k := p.1) m 0 with ⟨g1, g2⟩ | ⟨j, u, g1, g2, g3, -, g5⟩
 · exact (mget_none.1 g2 (List.mem_map.2 ⟨p, hpm, rfl⟩)).elim
 · rw [Nat.zero_add] at g1
   have hj : j < m.length := (List.getElem?_eq_some_iff.1 g3).1
   have hjs : j < ents.size := by have := congrArg List.length he; simp at this; omega
   have htl : (ents.eraseIdxIfInBounds j).toList = ents.toList.eraseIdx j := by simp [Array.eraseIdxIfInBounds, hjs]
   obtain ⟨i, hi⟩ := List.mem_iff_getElem?.1 hz
   have hi2 := List.getElem?_zip_eq_some.1 hi
   have hij : i = j := by
     have e1 : (mkeys m)[i]? = some p.1 := by simp only [mkeys, List.getElem?_map, hi2.2, Option.map_some]
     have e2 : (mkeys m)[j]? = some p.1 := by simp only [mkeys, List.getElem?_map, g3, Option.map_some]
     exact (List.getElem?_inj (by simp only [mkeys, List.length_map]; exact (List.getElem?_eq_some_iff.1 hi2.2).1) hn).1 (e1.trans e2.symm)
   subst hij
   have hseen : (!seen.contains e.born) = false := by
     rw [Bool.not_eq_false', Array.contains_iff_mem]
     exact Array.mem_of_back? hback
   refine ⟨.tuple #[], _, _, run_v (s := Builtin.delete_ ts ty (#[x, y].map ρ)) (v := .tuple #[]) (w' := { w with heap := w.heap.setIfInBounds b (.map (ents.eraseIdxIfInBounds i) clock) }) ?_, rfl, ?_⟩
   · rw [show #[x, y].map ρ = #[ρ x, ρ y] by simp, rr.eval hx, rr.eval hy]
     unfold Builtin.delete_
     simp only [hts, List.getElem?_toArray, List.getElem?_cons_zero, List.getElem?_cons_succ, Sem.run_bind, hu, run_getMap hb, Result.andThen_ok, kt.check, find_in kt he, g1, run_setMap hb]; rfl
   · refine (Sat.two.2 (satA.setMap (o' := .map (ents.eraseIdxIfInBounds i) clock))).ent fun hh hpp => ⟨ents.eraseIdxIfInBounds i, clock, seen, hpp, ?_, nodup_del hn p.1, ?_, ?_, ?_, fun q hq => by cases hq⟩
     · rw [htl, ← g5, ChangeMaps.map_eraseIdx, he, ChangeMaps.map_eraseIdx]
     · rw [htl, ChangeMaps.map_eraseIdx]; exact List.Nodup.sublist (List.eraseIdx_sublist ..) hb1
     · intro e hee; rw [htl] at hee; exact hb2 e ((List.eraseIdx_sublist ..).subset hee)
     · rw [htl, ← g5, zip_erase, filter_off _ i (e, p) hi hseen]; exact hleft
theorem Gs.itrNodup {X : Act → World → Prop} {enck : κ → Value} {encv : ν → Value} {r b : Nat} {m left : List (κ × ν)} {last : Option (κ × ν)} {H' : List HProp} (t : Take (itr enck encv r b m left last) H H') (g : (mkeys m).Nodup → Gs w0 n env H X) : Gs w0 n env H X := fun a w e s => by
 obtain ⟨h, le, h1, h2, d, rfl, ⟨ents, clock, seen, ht, he, hn, -⟩, l⟩ := (s.take t).heap
 exact g hn a w e s
end
end Go.Sl
namespace Go.Proofs.YtflfhpokmidnmaaGreatDoor
open Go Go.Sl Go.Gv
theorem layE_pos (e : EntP) : 12 ≤ (layE e).length := by
 unfold layE; rw [frB_len]; omega
theorem layS_cons (e : EntP) (es : List EntP) : layS (e :: es) = layE e ++ layS es := by unfold layS; rw [List.flatMap_cons]
theorem layS_app (a b : List EntP) : layS (a ++ b) = layS a ++ layS b := by unfold layS; rw [List.flatMap_append]
def wholeN : List EntP → Nat → Nat
 | [], _ => 0
 | e :: es, m => if (layE e).length ≤ m then wholeN es (m - (layE e).length) + 1 else 0
theorem whole_le : ∀ (es : List EntP) (m : Nat), wholeN es m ≤ es.length
 | [], _ => Nat.le_refl _
 | e :: es, m => by
   unfold wholeN; split
   · have := whole_le es (m - (layE e).length); simp; omega
   · exact Nat.zero_le _
theorem whole_all : ∀ (es : List EntP) (m : Nat), (layS es).length ≤ m → wholeN es m = es.length
 | [], _, _ => rfl
 | e :: es, m, h => by
   rw [layS_cons, List.length_append] at h
   unfold wholeN
   rw [if_pos (by omega), whole_all es _ (by omega)]; rfl
theorem take_whole {n : Int} : ∀ (es : List EntP) (m : Nat), (∀ e ∈ es, mayE e n = true) → ∃ junk, (layS es).take m = layS (es.take (wholeN es m)) ++ junk ∧ nextB junk = none
 | [], m, _ => ⟨[], by simp [layS, wholeN], rfl⟩
 | e :: es, m, h => by
   have he := h e List.mem_cons_self
   have hb := body_len he
   rw [layS_cons]
   by_cases hm : (layE e).length ≤ m
   · obtain ⟨junk, h1, h2⟩ := take_whole es (m - (layE e).length) fun x hx => h x (List.mem_cons_of_mem _ hx)
     refine ⟨junk, ?_, h2⟩
     unfold wholeN
     rw [if_pos hm, List.take_append, List.take_of_length_le hm, h1, List.take_succ_cons, layS_cons, List.append_assoc]
   · refine ⟨(layE e).take m, ?_, ?_⟩
     · unfold wholeN
       rw [if_neg hm, List.take_append_of_le_length (by omega)]; rfl
     · unfold layE at hm ⊢
       exact next_cut _ _ _ (by omega) (by omega)
theorem base_take {es : List EntP} {first : Bool} (h : ∀ (i : Nat) (e : EntP), es[i]? = some e → decide (e.kind = 1) = (first && decide (i = 0))) (k : Nat) : ∀ (i : Nat) (e : EntP), (es.take k)[i]? = some e → decide (e.kind = 1) = (first && decide (i = 0)) := fun i e hi => by
 rw [List.getElem?_take] at hi
 split at hi
 · exact h i e hi
 · cases hi
end Go.Proofs.YtflfhpokmidnmaaGreatDoor
namespace Go.Proofs.YtflfhpokmidnmaaGreatDoor
open Go Go.Sl Go.Gv
set_option maxRecDepth 100000
structure EntV where
 kind : Int
 v : SlV Int
 w : SlV Int
 r : Rec
abbrev entC (e : EntV) : List Value := [int e.kind, .slice e.v.a e.v.xs.length e.v.c, .slice e.w.a e.w.xs.length e.w.c, int e.r.o, int e.r.q, int e.r.w, int e.r.c, .string e.r.t]
abbrev entV (e : EntV) : Value := .agg (entC e).toArray
def EntV.p (e : EntV) : EntP := ⟨e.kind, e.v.xs, e.w.xs, e.r⟩
abbrev encC_106 : EntV → List Value := entC
theorem ek_106 : EncOk 8 entC := ⟨fun _ => rfl, fun x v hv => by
 simp only [entC, List.mem_cons, List.not_mem_nil, or_false] at hv
 rcases hv with rfl | rfl | rfl | rfl | rfl | rfl | rfl | rfl <;> rfl⟩
def EVd (S : HProp) (e : EntV) : Prop := Srd S 1 intC e.v.a e.v.xs ∧ Srd S 1 intC e.w.a e.w.xs
def ERd (S : HProp) (a : Option Addr) (es : List EntV) : Prop := Srd S 8 entC a es ∧ ∀ e ∈ es, EVd S e
abbrev plainV (es : List EntV) : List EntP := es.map EntV.p
def entO (e : EntV) : HProp := two (sl 3 1 intC e.v.a e.v.c e.v.xs) (sl 3 1 intC e.w.a e.w.c e.w.xs)
def elO (a : Option Addr) (c : Nat) (es : List EntV) : HProp := two (sl 106 8 entC a c es) (big (es.map entO))
theorem evd_entO (e : EntV) : EVd (entO e) e := ⟨Srd.two1 Srd.own, Srd.two2 Srd.own⟩
theorem EVd.two1 {A B : HProp} {e : EntV} (h : EVd A e) : EVd (two A B) e := ⟨Srd.two1 h.1, Srd.two1 h.2⟩
theorem EVd.two2 {A B : HProp} {e : EntV} (h : EVd B e) : EVd (two A B) e := ⟨Srd.two2 h.1, Srd.two2 h.2⟩
theorem EVd.bigs {A : HProp} {L : List HProp} {e : EntV} (h : EVd A e) (m : A ∈ L) : EVd (big L) e := ⟨Srd.bigs h.1 m, Srd.bigs h.2 m⟩
theorem erd_elO (a : Option Addr) (c : Nat) (es : List EntV) : ERd (elO a c es) a es :=
 ⟨Srd.two1 Srd.own, fun e he => EVd.two2 ((evd_entO e).bigs (List.mem_map.2 ⟨e, he, rfl⟩))⟩
def okN (x : Int) : Bool := decide (0 ≤ x) && decide (x ≤ 1023)
def manyB (n : Int) : Bool := decide (1 ≤ n) && decide (n ≤ 8)
theorem vecB_eq (v : List Int) (n : Int) : vecB v n = (manyB n && decide ((v.length : Int) = n) && v.all okN) := rfl
theorem all_take {v : List Int} {i : Nat} {x : Int} {p : Int → Bool} (h : v[i]? = some x) : (v.take (i + 1)).all p = ((v.take i).all p && p x) := by
 rw [List.take_add_one, h]; simp
theorem all_not {v : List Int} {i : Nat} {x : Int} {p : Int → Bool} (h : v[i]? = some x) (hx : p x = false) : v.all p = false := by
 rw [List.all_eq_false]; exact ⟨x, List.mem_of_getElem? h, by simp [hx]⟩
theorem below_len : ∀ {a b : List Int}, a.length ≠ b.length → belowB a b = false
 | [], [], h => (h rfl).elim
 | [], _ :: _, _ => rfl
 | _ :: _, [], _ => rfl
 | x :: a, y :: b, h => by
   have h1 := below_len (a := a) (b := b) (by simpa using h)
   show (decide (x ≤ y) && belowB a b) = false
   rw [h1, Bool.and_false]
theorem below_take : ∀ {a b : List Int} {i : Nat} {x y : Int}, a[i]? = some x → b[i]? = some y → belowB (a.take (i + 1)) (b.take (i + 1)) = (belowB (a.take i) (b.take i) && decide (x ≤ y))
 | [], _, _, _, _, h, _ => by cases h
 | _ :: _, [], _, _, _, _, h => by cases h
 | p :: a, q :: b, 0, x, y, h, k => by
   simp only [List.getElem?_cons_zero, Option.some.injEq] at h k
   subst h; subst k
   show (decide (p ≤ q) && true) = (true && decide (p ≤ q))
   rw [Bool.and_true, Bool.true_and]
 | p :: a, q :: b, i + 1, x, y, h, k => by
   have := below_take (a := a) (b := b) (i := i) (x := x) (y := y) (by simpa using h) (by simpa using k)
   show (decide (p ≤ q) && belowB (a.take (i + 1)) (b.take (i + 1))) = ((decide (p ≤ q) && belowB (a.take i) (b.take i)) && decide (x ≤ y))
   rw [this, Bool.and_assoc]
theorem below_not : ∀ {a b : List Int} {i : Nat} {x y : Int}, a[i]? = some x → b[i]? = some y → ¬ x ≤ y → belowB a b = false
 | [], _, _, _, _, h, _, _ => by cases h
 | _ :: _, [], _, _, _, _, h, _ => by cases h
 | p :: a, q :: b, 0, x, y, h, k, hxy => by
   simp only [List.getElem?_cons_zero, Option.some.injEq] at h k
   subst h; subst k
   show (decide (p ≤ q) && belowB a b) = false
   rw [decide_eq_false hxy, Bool.false_and]
 | p :: a, q :: b, i + 1, x, y, h, k, hxy => by
   have := below_not (a := a) (b := b) (i := i) (x := x) (y := y) (by simpa using h) (by simpa using k) hxy
   show (decide (p ≤ q) && belowB a b) = false
   rw [this, Bool.and_false]
theorem vecMay_spec {S : HProp} {a : Option Addr} {c : Nat} {v : List Int} (hS : Srd S 1 intC a v) (n : Int) :
   Ct Tryz.prog 95 [.slice a v.length c, int n] [S] (fun r hs => r = .bool (vecB v n) ∧ hs = [S]) := by
 refine Cti Tryz.func95 (by kernel_rfl) 32 Tryz.ntmps95 rfl rfl fun w0 R => ?_
 refine Gs.slAddr (hS.h (by repeat constructor)) fun ab ao ha => ?_
 refine Gsr (Las rfl rfl (Lnt (Gs.seq (Gsr (Lmv rfl rfl (Lq rfl (pu_lt rfl rfl) (LpuB rfl rfl trivial (pu_move rfl) (fun hg2 => ?_) (fun hg2 => ?_))))))))
 ·
  have hno : vecB v n = false := by
    have := of_decide_eq_true hg2
    rw [vecB_eq, manyB, decide_eq_false (by omega : ¬ 1 ≤ n)]; rfl
  refine Lof rfl (Lof rfl (Lpk rfl rfl rfl (Lmv rfl rfl (Lof rfl (Lof rfl (Lof rfl (Lof rfl (Lpk rfl rfl rfl (Lnt (Gs.cond_t rfl (Gsr ?_)))))))))))
  refine Las rfl rfl (Lnt (Gs.ret (Gr ?_)))
  exact Gs.fin1 Tryz.results95 rfl _ (⟨by rw [hno], rfl⟩) (by repeat constructor)
 have hn1 := of_decide_eq_false hg2
 refine Lpu rfl rfl ⟨_, rfl, rfl⟩ (pu_move rfl) (Lpu rfl rfl ⟨_, rfl, rfl⟩ (pu_gt rfl rfl) (Lpk rfl rfl rfl (LpuB rfl rfl trivial (pu_move rfl) (fun hg6 => ?_) (fun hg6 => ?_))))
 ·
  have hno : vecB v n = false := by
    have := of_decide_eq_true hg6
    rw [vecB_eq, manyB, decide_eq_false (by omega : ¬ n ≤ 8), Bool.and_false]; rfl
  refine Lof rfl (Lof rfl (Lof rfl (Lof rfl (Lpk rfl rfl rfl (Lnt (Gs.cond_t rfl (Gsr (Las rfl rfl (Lnt (Gs.ret (Gr ?_)))))))))))
  exact Gs.fin1 Tryz.results95 rfl _ (⟨by rw [hno], rfl⟩) (by repeat constructor)
 have hn8 := of_decide_eq_false hg6
 have hmany : manyB n = true := by unfold manyB; rw [decide_eq_true (by omega : 1 ≤ n), decide_eq_true (by omega : n ≤ 8)]; rfl
 refine Lpu rfl rfl ⟨_, rfl, rfl⟩ (pu_move rfl) (Lpu rfl rfl ⟨_, rfl, rfl⟩ (pu_len Tryz.underlying30 rfl) (Lpu rfl rfl ⟨_, rfl, rfl⟩ (pu_move rfl) (Lpu rfl rfl ⟨_, rfl, rfl⟩ (pu_ne rfl rfl) (Lpk rfl rfl rfl (Lnt (Gs.cond rfl (fun hc0 => ?_) (fun hc0 => ?_)))))))
 ·
  have hno : vecB v n = false := by
    have := of_decide_eq_true hc0
    rw [vecB_eq, decide_eq_false this, Bool.and_false, Bool.false_and]
  refine Gsr (Las rfl rfl (Lnt (Gs.ret (Gr ?_))))
  exact Gs.fin1 Tryz.results95 rfl _ (⟨by rw [hno], rfl⟩) (by repeat constructor)
 have hvl : (v.length : Int) = n := by have := of_decide_eq_false hc0; exact Decidable.not_not.1 this
 have hv0 : vecB v n = v.all okN := by rw [vecB_eq, hmany, decide_eq_true hvl]; rfl
 refine Gs.skip (Gn (Gs.seq (Gsr (Lmv rfl rfl (Lq rfl (pu_len Tryz.underlying30 rfl) (Lmv rfl rfl (Lnt (Gs.block (Gs.loop1 (fun i : Nat => i ≤ v.length ∧ (v.take i).all okN = true) (fun i => [(19, .slice a v.length c), (20, int v.length), (21, int i)]) (fun i => [S] ++ R) (fun i => v.length - i) 0 (⟨Nat.zero_le _, rfl⟩) (by repeat constructor) (by repeat constructor) (fun i ⟨hi, ht⟩ => ?_))))))))))
 refine Gsr (Lq rfl (pu_lt rfl rfl) (Lnt (Gs.seq (Gs.cond rfl (fun hc1 => ?_) (fun hc1 => ?_)))))
 ·
  have hlt : i < v.length := by have := of_decide_eq_true hc1; omega
  obtain ⟨x, hx⟩ : ∃ x, v[i]? = some x := ⟨v[i], by simp [hlt]⟩
  obtain rfl := ha (by rintro rfl; simp at hlt)
  refine Gs.skip (Gn (Gs.seq (Gs.block (Gsr (Lq rfl (pu_ia se_30 rfl rfl (by omega) (by omega)) (Lr rfl (rd_ld na_3 rfl (Rdc.el0 (hS.h (by repeat constructor)) hx rfl rfl)) ?_))))))
  refine Las rfl rfl (Lnt (Gsr (Lmv rfl rfl (Lq rfl (pu_lt rfl rfl) (LpuB rfl rfl trivial (pu_move rfl) (fun hg2 => ?_) (fun hg2 => ?_))))))
  ·
   have hok : okN x = false := by
     have := of_decide_eq_true hg2
     unfold okN; rw [decide_eq_false (by omega : ¬ 0 ≤ x), Bool.false_and]
   refine Lof rfl (Lof rfl (Lpk rfl rfl rfl (Lnt (Gs.cond_t rfl (Gsr (Las rfl rfl (Lnt (Gs.ret (Gs.blk_r (Gr (Gr ?_)))))))))))
   refine Gs.blk_r (Gr ?_)
   exact Gs.fin1 Tryz.results95 rfl _ (⟨by rw [hv0, all_not hx hok], rfl⟩) (by repeat constructor)
  have hx0 := of_decide_eq_false hg2
  refine Lpu rfl rfl ⟨_, rfl, rfl⟩ (pu_move rfl) (Lpu rfl rfl ⟨_, rfl, rfl⟩ (pu_gt rfl rfl) (Lpk rfl rfl rfl (Lnt (Gs.cond rfl (fun hc2 => ?_) (fun hc2 => ?_)))))
  ·
   have hok : okN x = false := by
     have := of_decide_eq_true hc2
     unfold okN; rw [decide_eq_false (by omega : ¬ x ≤ 1023), Bool.and_false]
   refine Gsr (Las rfl rfl (Lnt (Gs.ret (Gs.blk_r (Gr (Gr (Gs.blk_r (Gr ?_))))))))
   exact Gs.fin1 Tryz.results95 rfl _ (⟨by rw [hv0, all_not hx hok], rfl⟩) (by repeat constructor)
  have hok : okN x = true := by
    have := of_decide_eq_false hc2
    unfold okN; rw [decide_eq_true (by omega : 0 ≤ x), decide_eq_true (by omega : x ≤ 1023)]; rfl
  refine Gs.skip (Gs.blk_n (Gn (Gs.reg (Lq rfl (by first | exact pu_addI rfl rfl rfl (by omega) (by omega) | exact pu_add rfl rfl) ?_))))
  refine Lmv rfl rfl (Lnt ?_)
  exact Ag (i + 1) ⟨by omega, by rw [all_take hx, ht, hok]; rfl⟩ (by omega)
 have hge : i = v.length := by have := of_decide_eq_false hc1; omega
 rw [hge, List.take_length] at ht
 refine Gs.exit (Gx (Gx (Gs.blk_hit (Gn (Gsr (Las rfl rfl (Lnt (Gs.ret ?_))))))))
 exact Gs.fin1 Tryz.results95 rfl _ (⟨by rw [hv0, ht], rfl⟩) (by repeat constructor)
theorem below_spec {S : HProp} {a b : Option Addr} {c d : Nat} {v w : List Int} (hS : Srd S 1 intC a v) (hU : Srd S 1 intC b w) (hl : v.length ≤ 1000000) :
   Ct Tryz.prog 107 [.slice a v.length c, .slice b w.length d] [S] (fun r hs => r = .bool (belowB v w) ∧ hs = [S]) := by
 refine Cti Tryz.func107 (by kernel_rfl) 26 Tryz.ntmps107 rfl rfl fun w0 R => ?_
 refine Gs.slAddr (hS.h (by repeat constructor)) fun ab ao ha => ?_
 refine Gs.slAddr (hU.h (by repeat constructor)) fun ub uo hu => ?_
 refine Gsr (Las rfl rfl (Lnt (Gs.seq (Gsr (Lmv rfl rfl (Lq rfl (pu_len Tryz.underlying30 rfl) (Lmv rfl rfl (Lq rfl (pu_len Tryz.underlying30 rfl) (Lq rfl (pu_ne rfl rfl) (Lnt (Gs.cond rfl (fun hc0 => ?_) (fun hc0 => ?_))))))))))))
 ·
  have hno : belowB v w = false := below_len fun e => by have := of_decide_eq_true hc0; rw [e] at this; exact this rfl
  refine Gsr (Las rfl rfl (Lnt (Gs.ret (Gr ?_))))
  exact Gs.fin1 Tryz.results107 rfl _ (⟨by rw [hno], rfl⟩) (by repeat constructor)
 have hle : v.length = w.length := by have := of_decide_eq_false hc0; omega
 refine Gs.skip (Gn (Gs.seq (Gsr (Lmv rfl rfl (Lq rfl (pu_len Tryz.underlying30 rfl) (Lmv rfl rfl (Lnt (Gs.block (Gs.loop1 (fun i : Nat => i ≤ v.length ∧ belowB (v.take i) (w.take i) = true) (fun i => [(0, .slice a v.length c), (1, .slice b w.length d), (12, int v.length), (13, int i)]) (fun i => [S] ++ R) (fun i => v.length - i) 0 (⟨Nat.zero_le _, rfl⟩) (by repeat constructor) (by repeat constructor) (fun i ⟨hi, ht⟩ => ?_))))))))))
 refine Gsr (Lq rfl (pu_lt rfl rfl) (Lnt (Gs.seq (Gs.cond rfl (fun hc1 => ?_) (fun hc1 => ?_)))))
 ·
  have hlt : i < v.length := by have := of_decide_eq_true hc1; omega
  obtain ⟨x, hx⟩ : ∃ x, v[i]? = some x := ⟨v[i], by simp [hlt]⟩
  obtain ⟨y, hy⟩ : ∃ x, w[i]? = some x := ⟨w[i]'(by omega), by simp [← hle, hlt]⟩
  obtain rfl := ha (by rintro rfl; simp at hlt)
  obtain rfl := hu (by rintro rfl; simp at hy)
  refine Gs.skip (Gn (Gs.seq (Gs.block (Gsr (Lmv rfl rfl (Las rfl rfl (Lnt (Gs.seq (Gs.regD mixed (by kernel_rfl) (Rmv 0 rfl (by kernel_rfl) rfl (Rmv 1 rfl (by kernel_rfl) rfl ?_)))))))))))
  refine Rq 2 rfl (by kernel_rfl) (pu_ia se_30 rfl rfl (by omega) (by omega)) (Rr 3 rfl (by kernel_rfl) (rd_ld na_3 rfl (Rdc.el0 (hS.h (by repeat constructor)) hx rfl rfl)) ?_)
  refine Rmv 4 rfl (by kernel_rfl) rfl (Rmv 5 rfl (by kernel_rfl) rfl (Rq 6 rfl (by kernel_rfl) (pu_ia se_30 rfl rfl (by omega) (by omega)) (Rr 7 rfl (by kernel_rfl) (rd_ld na_3 rfl (Rdc.el0 (hU.h (by repeat constructor)) hy rfl rfl)) ?_)))
  refine Rq 8 rfl (by kernel_rfl) (pu_gt rfl rfl) (Rg.end (by kernel_rfl) (Gn (Gs.cond rfl (fun hc2 => ?_) (fun hc2 => ?_))))
  ·
   have hno : belowB v w = false := below_not hx hy (by have := of_decide_eq_true hc2; omega)
   refine Gsr (Las rfl rfl (Lnt (Gs.ret (Gs.blk_r (Gr (Gr (Gs.blk_r (Gr ?_))))))))
   exact Gs.fin1 Tryz.results107 rfl _ (⟨by rw [hno], rfl⟩) (by repeat constructor)
  have hxy : x ≤ y := by have := of_decide_eq_false hc2; omega
  refine Gs.skip (Gs.blk_n (Gn (Gs.reg (Lq rfl (by first | exact pu_addI rfl rfl rfl (by omega) (by omega) | exact pu_add rfl rfl) ?_))))
  refine Lmv rfl rfl (Lnt ?_)
  exact Ag (i + 1) ⟨by omega, by rw [below_take hx hy, ht, decide_eq_true hxy]; rfl⟩ (by omega)
 have hge : i = v.length := by have := of_decide_eq_false hc1; omega
 have ht1 : belowB v w = true := by rw [hge, List.take_length, hle, List.take_length] at ht; exact ht
 refine Gs.exit (Gx (Gx (Gs.blk_hit (Gn (Gsr (Las rfl rfl (Lnt (Gs.ret ?_))))))))
 exact Gs.fin1 Tryz.results107 rfl _ (⟨by rw [ht1], rfl⟩) (by repeat constructor)
end Go.Proofs.YtflfhpokmidnmaaGreatDoor
