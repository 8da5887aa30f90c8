/- What the closing leans on: part 15. -/
import Derived.Test.YtklgiidfompdpaaGreatDoorWn
import Derived.Test.YtklgiidfompdpaaGreatDoorWj
namespace Go.Proofs.YtklgiidfompdpaaGreatDoor
open Go Go.Sl Go.Gv Go.Kv Go.Po Go.Ix Go.Qu Go.Shelf Go.Stb
set_option maxRecDepth 100000
abbrev rtC (a : Option Addr) (L : List Rec) (c : Nat) : List Value := [.slice a L.length c]
def rt (b : Nat) (L : List Rec) : HProp := fun h => ∃ p : Option Addr × Nat, two (cl b 43 (rtC p.1 L p.2)) (sl 32 5 recC p.1 p.2 L) h
theorem Gs.rtOpen {w0 : World} {n : Nat} {env : Env} {H H' : List HProp} {X : Act → World → Prop} {b : Nat} {L : List Rec} (t : Take (rt b L) H H')
   (g : ∀ a c, Gs w0 n env (cl b 43 (rtC a L c) :: sl 32 5 recC a c L :: H') X) : Gs w0 n env H X :=
 Gs.take t (Gs.ex fun p => Gs.two (g p.1 p.2))
theorem Gs.rtClose {w0 : World} {n : Nat} {env : Env} {H H' : List HProp} {X : Act → World → Prop} {b : Nat} {L : List Rec} (a : Option Addr) (c : Nat) (t : Takes [cl b 43 (rtC a L c), sl 32 5 recC a c L] H H')
   (g : Gs w0 n env (rt b L :: H') X) : Gs w0 n env H X :=
 Gs.takes t (Gs.toTwo (Gs.ent (fun h x => ⟨(a, c), x⟩) g))
def ixR (L : List Rec) (k : Key) : Nat := L.findIdx fun r => r.key = k
theorem ixR_lt {L : List Rec} {k : Key} : ixR L k < L.length ↔ (lookR L k).isSome = true := by
 unfold ixR lookR; rw [List.findIdx_lt_length, List.find?_isSome]
theorem ixR_not {L : List Rec} {k : Key} {i : Nat} {r : Rec} (hi : i < ixR L k) (hr : L[i]? = some r) : r.key ≠ k := by
 obtain ⟨hl, rfl⟩ := List.getElem?_eq_some_iff.1 hr
 have := List.not_of_lt_findIdx (p := fun r : Rec => decide (r.key = k)) (xs := L) hi
 simpa using this
theorem ixR_at : ∀ {L : List Rec} {k : Key} {r : Rec}, L[ixR L k]? = some r → lookR L k = some r
 | [], k, r, h => by simp at h
 | x :: L, k, r, h => by
   unfold ixR lookR at *
   rw [List.findIdx_cons] at h
   rw [List.find?_cons]
   by_cases hx : x.key = k
   · simp [hx] at h ⊢; exact h
   · simp [hx] at h ⊢; exact ixR_at (L := L) h
theorem find12_spec (b : Nat) (a : Option Addr) (c : Nat) (L : List Rec) (hL : L.length ≤ 1000) (k : Key) :
   Ct Tryz.prog 33 [ptr b, keyV k] [cl b 43 (rtC a L c), sl 32 5 recC a c L]
     (fun v hs => v = int (if (lookR L k).isSome then ixR L k else -1) ∧ hs = [cl b 43 (rtC a L c), sl 32 5 recC a c L]) := by
 refine Cti Tryz.func33 (by kernel_rfl) 26 Tryz.ntmps33 rfl rfl fun w0 R => ?_
 refine Gs.slAddr (SlH.own (by repeat constructor) : SlH _ _ 5 recC a L) fun ab ao ha => ?_
 refine Gsr (La rfl (ac_box rfl rfl) ?_)
 rintro _ _ ⟨kb, rfl, rfl⟩
 refine Las rfl rfl (Lnt (Gs.seq (Gsr (Las rfl rfl (Lnt (Gs.block (Gs.loop1 (fun i : Nat => i ≤ ixR L k ∧ i ≤ L.length) (fun i => [(0, ptr b), (3, ptr kb), (5, int i)]) (fun i => [cl kb 28 (keyC k), cl b 43 (rtC a L c), sl 32 5 recC a c L] ++ R) (fun i => L.length - i) 0 (⟨Nat.zero_le _, Nat.zero_le _⟩) (by repeat constructor) (by repeat constructor) (fun i ⟨hi, hi2⟩ => ?_))))))))
 refine Gs.seq (Gsr (Lmv rfl rfl (Lmv rfl rfl (Lq rfl (by first | exact pu_nil rfl | exact pu_nilF rfl) ?_))))
 refine Lq rfl (pu_fa fa_43_0 rfl) (Lr rfl (rd_ld na_41 rfl (Rdc.cl1 (by repeat constructor) rfl)) ?_)
 refine Lq rfl (pu_len Tryz.underlying41 rfl) (Lq rfl (pu_lt rfl rfl) (Lnt (Gs.cond rfl (fun hc0 => ?_) (fun hc0 => ?_))))
 ·
  have hlt : i < L.length := by have := of_decide_eq_true hc0; omega
  obtain ⟨r, hr⟩ : ∃ r, L[i]? = some r := ⟨L[i], by simp [hlt]⟩
  obtain rfl := ha (by rintro rfl; simp at hlt)
  refine Gs.skip (Gn (Gs.seq (Gs.block (Gs.seq (Gs.regD mixed (by kernel_rfl) (Rmv 0 rfl (by kernel_rfl) rfl (Rq 1 rfl (by kernel_rfl) (by first | exact pu_nil rfl | exact pu_nilF rfl) ?_)))))))
  refine Rq 2 rfl (by kernel_rfl) (pu_fa fa_43_0 rfl) (Rr 3 rfl (by kernel_rfl) (rd_ld na_41 rfl (Rdc.cl1 (by repeat constructor) rfl)) ?_)
  refine Rmv 4 rfl (by kernel_rfl) rfl (Rq 5 rfl (by kernel_rfl) (pu_ia se_41 rfl rfl (by omega) (by omega)) (Rq 6 rfl (by kernel_rfl) (pu_fa fa_32_0 rfl) (Rr 7 rfl (by kernel_rfl) (rd_lda ag_28 rfl (Rdc.elp 2 (SlH.own (by repeat constructor)) hr rfl rfl) rfl) ?_)))
  refine Rr 8 rfl (by kernel_rfl) (rd_lda ag_28 rfl (Rdc.cl 2 (by repeat constructor) rfl) rfl) ?_
  refine Rq 9 rfl (by kernel_rfl) (pu_eqT (a := r.key) (b := k) cmp_28 (by decide) Tryz.eqGuardType28 rfl rfl) ?_
  refine Rg.end (by kernel_rfl) (Gn (Gs.cond rfl (fun hc1 => ?_) (fun hc1 => ?_)))
  ·
   have hk : r.key = k := of_decide_eq_true hc1
   have he : i = ixR L k := by
     rcases Nat.lt_or_eq_of_le hi with h | h
     · exact (ixR_not h hr hk).elim
     · exact h
   have hs : (lookR L k).isSome = true := ixR_lt.1 (he ▸ hlt)
   refine Gsr (Lmv rfl rfl (Las rfl rfl (Lnt (Gs.ret (Gs.blk_r (Gr (Gr (Gs.blk_r (Gr ?_)))))))))
   exact Gs.fin1 Tryz.results33 rfl _ (⟨by simp [hs, he], rfl⟩) (by repeat constructor)
  have hk : r.key ≠ k := of_decide_eq_false hc1
  have hne : i ≠ ixR L k := fun he => hk (by
    have h1 := ixR_at (L := L) (k := k) (r := r) (by rw [← he]; exact hr)
    exact (lookR_some h1).2)
  refine Gs.skip (Gs.blk_n (Gn (Gs.reg (Lmv rfl rfl (Lq rfl (by first | exact pu_addI rfl rfl rfl (by omega) (by omega) | exact pu_add rfl rfl) ?_)))))
  refine Las rfl rfl (Lnt ?_)
  exact Ag (i + 1) (by omega) (by omega)
 have hge : i = L.length := by have := of_decide_eq_false hc0; omega
 have hn : (lookR L k).isSome = false := by
   cases h : (lookR L k).isSome with
   | false => rfl
   | true => have := ixR_lt.2 h; omega
 refine Gs.exit (Gx (Gx (Gs.blk_hit (Gn (Gsr (Las rfl rfl (Lnt (Gs.ret ?_))))))))
 exact Gs.fin1 Tryz.results33 rfl _ (⟨by simp [hn], rfl⟩) (by repeat constructor)
theorem look_none {L : List Rec} {k : Key} : (lookR L k).isSome = false ↔ k ∉ L.map Rec.key := by
 unfold lookR
 rw [Option.isSome_eq_false_iff, Option.isNone_iff_eq_none, List.find?_eq_none]
 simp only [List.mem_map, decide_eq_true_eq]
 exact ⟨fun h ⟨r, hr, e⟩ => h r hr e, fun h r hr e => h ⟨r, hr, e⟩⟩
theorem rput_spec {S : HProp} (hT : TabU S) (b : Nat) (L : List Rec) {a : Option Addr} {c : Nat} {ys : List Rec} (hS : Srd S 5 recC a ys) (hl : L.length + ys.length ≤ 1000) :
   Ct Tryz.prog 14 [ptr b, .slice a ys.length c] [rt b L, S] (fun v hs => ∃ A', (v = int (((ys.foldl putR L).length - L.length : Nat) : Int) ∧ A' = rt b (ys.foldl putR L)) ∧ hs = [A', S]) := by
 refine Cti Tryz.func14 (by kernel_rfl) 45 Tryz.ntmps14 rfl rfl fun w0 R => ?_
 refine Gs.slAddr (hS.h (by repeat constructor)) fun ab ao ha => ?_
 refine Gsr (Las rfl rfl (Lnt (Gsr (Las rfl rfl (Lnt (Gs.seq (Gsr (Las rfl rfl (Lnt (Gs.block (Gs.loop1 (fun s : Nat × List Rec × Nat => s.1 ≤ ys.length ∧ s.2.1 = (ys.take s.1).foldl putR L ∧ s.2.2 + L.length = s.2.1.length) (fun s => [(0, ptr b), (1, .slice a ys.length c), (5, int s.2.2), (6, int s.1)]) (fun s => [rt b s.2.1, S] ++ R) (fun s => ys.length - s.1) (0, L, 0) (⟨Nat.zero_le _, rfl, Nat.zero_add _⟩) (by repeat constructor) (by repeat constructor) (fun s hs => ?_))))))))))))
 obtain ⟨i, K, n⟩ := s
 obtain ⟨hi, hK, hn⟩ := hs
 dsimp only at hi hK hn ⊢
 have hKl : K.length ≤ L.length + i := by rw [hK]; have := (put_len L (ys.take i)).2; rw [List.length_take] at this; omega
 refine Gs.seq (Gsr (Lmv rfl rfl (Lmv rfl rfl (Lq rfl (pu_len Tryz.underlying41 rfl) (Lq rfl (pu_lt rfl rfl) (Lnt (Gs.cond rfl (fun hc0 => ?_) (fun hc0 => ?_))))))))
 ·
  have hlt : i < ys.length := by have := of_decide_eq_true hc0; omega
  obtain ⟨r, hr⟩ : ∃ x, ys[i]? = some x := ⟨ys[i], by simp [hlt]⟩
  obtain rfl := ha (by rintro rfl; simp at hlt)
  have hstep : (ys.take (i + 1)).foldl putR L = putR K r := by rw [fold_take putR L hr, hK]
  refine Gs.skip (Gn (Gs.seq (Gs.block (Gsr (Lmv rfl rfl (Lmv rfl rfl (Lq rfl (pu_ia se_41 rfl rfl (by omega) (by omega)) (Lr rfl (rd_lda ag_32 rfl (Rdc.el0 (hS.h (by repeat constructor)) hr rfl rfl) rfl) ?_))))))))
  refine La rfl (asC (hT.ct (fun h0 T => recMay4_spec T.1 r))) ?_
  rintro _ _ ⟨_, ⟨rfl, rfl⟩, rfl⟩
  refine LpuB rfl rfl trivial (pu_move rfl) (fun hg5 => ?_) (fun hg5 => ?_)
  ·
   refine Gs.rtOpen (by repeat constructor) fun ka kc => ?_
   refine Lpu rfl rfl ⟨_, rfl, rfl⟩ (pu_move rfl) (Lpu rfl rfl ⟨_, rfl, rfl⟩ (pu_move rfl) (Lpu rfl rfl ⟨_, rfl, rfl⟩ (pu_move rfl) (Lpu rfl rfl ⟨_, rfl, rfl⟩ (pu_ia se_41 rfl rfl (by omega) (by omega)) (Lpu rfl rfl ⟨_, rfl, rfl⟩ (pu_fa fa_32_0 rfl) (Lrd rfl rfl ⟨_, rfl, rfl⟩ (rd_lda ag_28 rfl (Rdc.elp 2 (hS.h (by repeat constructor)) hr rfl rfl) rfl) ?_)))))
   refine Lac rfl rfl ⟨_, rfl, rfl⟩ (asC (find12_spec b ka kc K (by omega) r.key)) ?_
   rintro _ _ ⟨_, ⟨rfl, rfl⟩, rfl⟩
   refine Lpu rfl rfl ⟨_, rfl, rfl⟩ (pu_lt rfl rfl) (Lpk rfl rfl rfl (Lnt (Gs.cond rfl (fun hc1 => ?_) (fun hc1 => ?_))))
   ·
    have hlk : (lookR K r.key).isSome = false := by
      cases h : (lookR K r.key).isSome with
      | false => rfl
      | true => rw [h] at hc1; have := of_decide_eq_true hc1; simp at this; omega
    have hyes : putR K r = K ++ [r] := by unfold putR; rw [if_pos (by rw [hg5, decide_eq_true (look_none.1 hlk)]; rfl)]
    refine Gs.seq (Gs.regD mixed (by kernel_rfl) (Rmv 0 rfl (by kernel_rfl) rfl (Rmv 1 rfl (by kernel_rfl) rfl (Rq 2 rfl (by kernel_rfl) (by first | exact pu_nil rfl | exact pu_nilF rfl) ?_))))
    refine Rq 3 rfl (by kernel_rfl) (pu_fa fa_43_0 rfl) (Rr 4 rfl (by kernel_rfl) (rd_ld na_41 rfl (Rdc.cl1 (by repeat constructor) rfl)) ?_)
    refine Rmv 6 rfl (by kernel_rfl) rfl (Rmv 7 rfl (by kernel_rfl) rfl (Rq 8 rfl (by kernel_rfl) (pu_ia se_41 rfl rfl (by omega) (by omega)) (Rr 9 rfl (by kernel_rfl) (rd_lda ag_32 rfl (Rdc.el0 (hS.h (by repeat constructor)) hr rfl rfl) rfl) ?_)))
    refine Rg.two (by kernel_rfl) (Stp.acK 5 rfl rfl (by kernel_rfl) trivial (ac_copy et_41 ek_32 rfl rfl (SrcH.sl Tryz.underlying41 ek_32 (SlH.own (by repeat constructor))) (by first | omega | (simp; omega)) (by first | omega | (simp; omega))) (by rintro _ _ ⟨a33, c33, rfl, rfl⟩ w s; first | exact s.drop | exact s | exact Ent.sat (by repeat constructor) s) ?_) (Stp.acK 10 rfl rfl (by kernel_rfl) trivial (ac_lit encC_32 ([r]) et_41 ek_32 rfl (by repeat constructor) rfl rfl (by decide)) (by rintro _ _ ⟨a38, rfl, rfl⟩ w s; first | exact s.drop | exact s | exact Ent.sat (by repeat constructor) s) ?_)
    ·
     rintro _ _ ⟨a33, c33, rfl, rfl⟩
     refine Rg.one (by kernel_rfl) (Stp.ac 10 rfl rfl (by kernel_rfl) trivial (ac_lit encC_32 ([r]) et_41 ek_32 rfl (by repeat constructor) rfl rfl (by decide))  ?_)
     rintro _ _ ⟨a38, rfl, rfl⟩
     refine Rg.one (by kernel_rfl) (Stp.ac 11 rfl rfl (by kernel_rfl) trivial (ac_append et_41 ek_32 rfl rfl (by repeat constructor) (SrcH.sl Tryz.underlying41 ek_32 (SlH.own (by repeat constructor))) (by first | omega | (simp; omega)) (by first | omega | (simp; omega)))  ?_)
     rintro _ _ ⟨a39, c39, rfl, rfl⟩
     refine Rq 12 rfl (by kernel_rfl) (by first | exact pu_nil rfl | exact pu_nilF rfl) ?_
     refine Rq 13 rfl (by kernel_rfl) (pu_fa fa_43_0 rfl) (Rg.one (by kernel_rfl) (Stp.ac0 14 rfl rfl (by kernel_rfl) trivial (ac_st sz_41 rfl rfl (by repeat constructor) rfl rfl rfl rfl)  ?_))
     rintro _ _ rfl
     refine Rg.end (by kernel_rfl) (Gn (Gs.reg (Lmv rfl rfl (Lq rfl (pu_addI (z := ((n + 1 : Nat) : Int)) rfl rfl (by omega) (by omega) (by omega)) ?_))))
     refine Las rfl rfl (Lnil (Gs.blk_n (Gn ?_)))
     first | (have hX := hyes; refine Gs.rtClose (L := K ++ [r]) a39 c39 (by repeat constructor) ?_) | (have hX := hno; refine Gs.rtClose (L := K) ka kc (by repeat constructor) ?_) | (have hX := hno; skip)
     refine Gs.reg (Lmv rfl rfl (Lq rfl (by first | exact pu_addI rfl rfl rfl (by omega) (by omega) | exact pu_add rfl rfl) ?_))
     refine Las rfl rfl (Lnt ?_)
     first | (have hX := hyes; exact Ag (i + 1, K ++ [r], n + 1) ⟨by show i + 1 ≤ ys.length; omega, by show K ++ [r] = _; rw [hstep, hyes], by show n + 1 + L.length = (K ++ [r]).length; rw [List.length_append, List.length_singleton]; omega⟩ (by show ys.length - (i + 1) < ys.length - i; omega)) | (have hX := hno; exact Ag (i + 1, K, n) ⟨by show i + 1 ≤ ys.length; omega, by show K = _; rw [hstep, hno], hn⟩ (by show ys.length - (i + 1) < ys.length - i; omega))
    rintro _ _ ⟨a38, rfl, rfl⟩
    refine Rg.one (by kernel_rfl) (Stp.ac 5 rfl rfl (by kernel_rfl) trivial (ac_copy et_41 ek_32 rfl rfl (SrcH.sl Tryz.underlying41 ek_32 (SlH.own (by repeat constructor))) (by first | omega | (simp; omega)) (by first | omega | (simp; omega)))  ?_)
    rintro _ _ ⟨a33, c33, rfl, rfl⟩
    refine Rg.one (by kernel_rfl) (Stp.ac 11 rfl rfl (by kernel_rfl) trivial (ac_append et_41 ek_32 rfl rfl (by repeat constructor) (SrcH.sl Tryz.underlying41 ek_32 (SlH.own (by repeat constructor))) (by first | omega | (simp; omega)) (by first | omega | (simp; omega)))  ?_)
    rintro _ _ ⟨a39, c39, rfl, rfl⟩
    refine Rq 12 rfl (by kernel_rfl) (by first | exact pu_nil rfl | exact pu_nilF rfl) ?_
    refine Rq 13 rfl (by kernel_rfl) (pu_fa fa_43_0 rfl) (Rg.one (by kernel_rfl) (Stp.ac0 14 rfl rfl (by kernel_rfl) trivial (ac_st sz_41 rfl rfl (by repeat constructor) rfl rfl rfl rfl)  ?_))
    rintro _ _ rfl
    refine Rg.end (by kernel_rfl) (Gn (Gs.reg (Lmv rfl rfl (Lq rfl (pu_addI (z := ((n + 1 : Nat) : Int)) rfl rfl (by omega) (by omega) (by omega)) ?_))))
    refine Las rfl rfl (Lnil (Gs.blk_n (Gn ?_)))
    first | (have hX := hyes; refine Gs.rtClose (L := K ++ [r]) a39 c39 (by repeat constructor) ?_) | (have hX := hno; refine Gs.rtClose (L := K) ka kc (by repeat constructor) ?_) | (have hX := hno; skip)
    refine Gs.reg (Lmv rfl rfl (Lq rfl (by first | exact pu_addI rfl rfl rfl (by omega) (by omega) | exact pu_add rfl rfl) ?_))
    refine Las rfl rfl (Lnt ?_)
    first | (have hX := hyes; exact Ag (i + 1, K ++ [r], n + 1) ⟨by show i + 1 ≤ ys.length; omega, by show K ++ [r] = _; rw [hstep, hyes], by show n + 1 + L.length = (K ++ [r]).length; rw [List.length_append, List.length_singleton]; omega⟩ (by show ys.length - (i + 1) < ys.length - i; omega)) | (have hX := hno; exact Ag (i + 1, K, n) ⟨by show i + 1 ≤ ys.length; omega, by show K = _; rw [hstep, hno], hn⟩ (by show ys.length - (i + 1) < ys.length - i; omega))
   have hno : putR K r = K := by
     have hlk : (lookR K r.key).isSome = true := by
       cases h : (lookR K r.key).isSome with
       | true => rfl
       | false => rw [h] at hc1; have := of_decide_eq_false hc1; simp at this
     have hin : ¬ r.key ∉ K.map Rec.key := fun hc => by rw [look_none.2 hc] at hlk; cases hlk
     unfold putR
     rw [if_neg (by rw [decide_eq_false hin, Bool.and_false]; exact Bool.false_ne_true)]
   refine Gs.skip (Gs.blk_n (Gn ?_))
   first | (have hX := hyes; refine Gs.rtClose (L := K ++ [r]) a39 c39 (by repeat constructor) ?_) | (have hX := hno; refine Gs.rtClose (L := K) ka kc (by repeat constructor) ?_) | (have hX := hno; skip)
   refine Gs.reg (Lmv rfl rfl (Lq rfl (by first | exact pu_addI rfl rfl rfl (by omega) (by omega) | exact pu_add rfl rfl) ?_))
   refine Las rfl rfl (Lnt ?_)
   first | (have hX := hyes; exact Ag (i + 1, K ++ [r], n + 1) ⟨by show i + 1 ≤ ys.length; omega, by show K ++ [r] = _; rw [hstep, hyes], by show n + 1 + L.length = (K ++ [r]).length; rw [List.length_append, List.length_singleton]; omega⟩ (by show ys.length - (i + 1) < ys.length - i; omega)) | (have hX := hno; exact Ag (i + 1, K, n) ⟨by show i + 1 ≤ ys.length; omega, by show K = _; rw [hstep, hno], hn⟩ (by show ys.length - (i + 1) < ys.length - i; omega))
  have hno : putR K r = K := by unfold putR; rw [hg5]; rfl
  refine Lof rfl (Lof rfl (Lof rfl (Lof rfl (Lof rfl (Lof rfl (Lof rfl (Lof rfl (Lpk rfl rfl rfl (Lnt (Gs.cond_f rfl (Gs.skip ?_)))))))))))
  refine Gs.blk_n (Gn ?_)
  first | (have hX := hyes; refine Gs.rtClose (L := K ++ [r]) a39 c39 (by repeat constructor) ?_) | (have hX := hno; refine Gs.rtClose (L := K) ka kc (by repeat constructor) ?_) | (have hX := hno; skip)
  refine Gs.reg (Lmv rfl rfl (Lq rfl (by first | exact pu_addI rfl rfl rfl (by omega) (by omega) | exact pu_add rfl rfl) ?_))
  refine Las rfl rfl (Lnt ?_)
  first | (have hX := hyes; exact Ag (i + 1, K ++ [r], n + 1) ⟨by show i + 1 ≤ ys.length; omega, by show K ++ [r] = _; rw [hstep, hyes], by show n + 1 + L.length = (K ++ [r]).length; rw [List.length_append, List.length_singleton]; omega⟩ (by show ys.length - (i + 1) < ys.length - i; omega)) | (have hX := hno; exact Ag (i + 1, K, n) ⟨by show i + 1 ≤ ys.length; omega, by show K = _; rw [hstep, hno], hn⟩ (by show ys.length - (i + 1) < ys.length - i; omega))
 have hge : i = ys.length := by have := of_decide_eq_false hc0; omega
 rw [hge, List.take_length] at hK
 subst hK
 have hnn : n = (ys.foldl putR L).length - L.length := by omega
 subst hnn
 refine Gs.exit (Gx (Gx (Gs.blk_hit (Gn (Gsr (Lmv rfl rfl (Las rfl rfl (Lnt (Gs.ret ?_)))))))))
 exact Gs.fin1 Tryz.results14 rfl _ (⟨_, ⟨rfl, rfl⟩, rfl⟩) (by repeat constructor)
theorem drop_at_ix {L : List Rec} {k : Key} (hn : (L.map Rec.key).Nodup) (h : ixR L k < L.length) : dropR L k = L.take (ixR L k) ++ L.drop (ixR L k + 1) := by
 induction L with
 | nil => simp at h
 | cons x L ih =>
   have hn' := List.nodup_cons.1 hn
   unfold dropR ixR at *
   rw [List.findIdx_cons] at h ⊢
   by_cases e : x.key = k
   · rw [List.filter_cons_of_neg (by simp [e])]
     simp only [e, decide_true, cond_true, List.take_zero, List.nil_append, Nat.zero_add, List.drop_succ_cons, List.drop_zero]
     refine List.filter_eq_self.2 fun y hy => decide_eq_true fun ey => hn'.1 ?_
     rw [e, ← ey]; exact List.mem_map.2 ⟨y, hy, rfl⟩
   · rw [List.filter_cons_of_pos (by simpa using e)]
     simp only [e, decide_false, cond_false, List.take_succ_cons, List.drop_succ_cons, List.cons_append] at h ⊢
     rw [ih hn'.2 (by simpa using h)]
theorem drop_nodup {L : List Rec} (hn : (L.map Rec.key).Nodup) (k : Key) : ((dropR L k).map Rec.key).Nodup := filt_keys hn _
theorem drops_nodup : ∀ (ks : List Key) {L : List Rec}, (L.map Rec.key).Nodup → ((ks.foldl dropR L).map Rec.key).Nodup
 | [], _, h => h
 | k :: ks, _, h => drops_nodup ks (drop_nodup h k)
theorem rdrop_spec {S : HProp} (b : Nat) (L : List Rec) (hL : (L.map Rec.key).Nodup) {a : Option Addr} {c : Nat} {ks : List Key} (hS : Srd S 2 keyC a ks) (hl : L.length ≤ 1000) (hk : ks.length ≤ 1000) :
   Ct Tryz.prog 12 [ptr b, .slice a ks.length c] [rt b L, S] (fun v hs => v = int ((L.length - (ks.foldl dropR L).length : Nat) : Int) ∧ hs = [rt b (ks.foldl dropR L), S]) := by
 refine Cti Tryz.func12 (by kernel_rfl) 43 Tryz.ntmps12 rfl rfl fun w0 R => ?_
 refine Gs.slAddr (hS.h (by repeat constructor)) fun ab ao ha => ?_
 refine Gsr (Las rfl rfl (Lnt (Gsr (Las rfl rfl (Lnt (Gs.seq (Gsr (Las rfl rfl (Lnt (Gs.block (Gs.loop1 (fun s : Nat × List Rec × Nat => s.1 ≤ ks.length ∧ s.2.1 = (ks.take s.1).foldl dropR L ∧ s.2.2 + s.2.1.length = L.length) (fun s => [(0, ptr b), (1, .slice a ks.length c), (5, int s.2.2), (6, int s.1)]) (fun s => [rt b s.2.1, S] ++ R) (fun s => ks.length - s.1) (0, L, 0) (⟨Nat.zero_le _, rfl, Nat.zero_add _⟩) (by repeat constructor) (by repeat constructor) (fun s hs => ?_))))))))))))
 obtain ⟨i, K, n⟩ := s
 obtain ⟨hi, hK, hn⟩ := hs
 dsimp only at hi hK hn ⊢
 have hKn : (K.map Rec.key).Nodup := by rw [hK]; exact drops_nodup _ hL
 refine Gs.seq (Gsr (Lmv rfl rfl (Lmv rfl rfl (Lq rfl (pu_len Tryz.underlying48 rfl) (Lq rfl (pu_lt rfl rfl) (Lnt (Gs.cond rfl (fun hc0 => ?_) (fun hc0 => ?_))))))))
 ·
  have hlt : i < ks.length := by have := of_decide_eq_true hc0; omega
  obtain ⟨k, hr⟩ : ∃ x, ks[i]? = some x := ⟨ks[i], by simp [hlt]⟩
  obtain rfl := ha (by rintro rfl; simp at hlt)
  have hstep : (ks.take (i + 1)).foldl dropR L = dropR K k := by rw [fold_take dropR L hr, hK]
  have hdl := drop_len hKn k
  refine Gs.rtOpen (by repeat constructor) fun ka kc => ?_
  refine Gs.slLen (E := 32) (sz := 5) (enc := recC) (a := ka) (c := kc) (xs := K) (by repeat constructor) fun hlc => ?_
  refine Gs.skip (Gn (Gs.seq (Gs.block (Gsr (Lmv rfl rfl (Lmv rfl rfl (Lmv rfl rfl (Lq rfl (pu_ia se_48 rfl rfl (by omega) (by omega)) (Lr rfl (rd_lda ag_28 rfl (Rdc.el0 (hS.h (by repeat constructor)) hr rfl rfl) rfl) ?_)))))))))
  refine La rfl (asC (find12_spec b ka kc K (by omega) k)) ?_
  rintro _ _ ⟨_, ⟨rfl, rfl⟩, rfl⟩
  refine Las rfl rfl (Lnt (Gsr (Lmv rfl rfl (Lq rfl (pu_ge rfl rfl) (Lnt (Gs.cond rfl (fun hc1 => ?_) (fun hc1 => ?_)))))))
  ·
   have hlk : (lookR K k).isSome = true := by
     cases h : (lookR K k).isSome with
     | true => rfl
     | false => rw [h] at hc1; have := of_decide_eq_true hc1; simp at this
   have hix := ixR_lt.2 hlk
   have hin : k ∈ K.map Rec.key := Classical.byContradiction fun hc => by rw [look_none.2 hc] at hlk; cases hlk
   rw [if_pos hin] at hdl
   have hyes := drop_at_ix hKn hix
   refine Gs.seq ?_
   rw [hlk]
   simp only [if_true]
   refine Gs.regD mixed (by kernel_rfl) (Rmv 0 rfl (by kernel_rfl) rfl (Rmv 1 rfl (by kernel_rfl) rfl (Rq 2 rfl (by kernel_rfl) (by first | exact pu_nil rfl | exact pu_nilF rfl) ?_)))
   refine Rq 3 rfl (by kernel_rfl) (pu_fa fa_43_0 rfl) (Rr 4 rfl (by kernel_rfl) (rd_ld na_41 rfl (Rdc.cl1 (by repeat constructor) rfl)) ?_)
   refine Rmv 5 rfl (by kernel_rfl) rfl (Rq 6 rfl (by kernel_rfl) (pu_sliceH et_41 rfl rfl (by omega) (by omega)) (Rmv 8 rfl (by kernel_rfl) rfl (Rq 9 rfl (by kernel_rfl) (by first | exact pu_nil rfl | exact pu_nilF rfl) ?_)))
   refine Rq 10 rfl (by kernel_rfl) (pu_fa fa_43_0 rfl) (Rr 11 rfl (by kernel_rfl) (rd_ld na_41 rfl (Rdc.cl1 (by repeat constructor) rfl)) ?_)
   refine Rmv 12 rfl (by kernel_rfl) rfl (Rq 13 rfl (by kernel_rfl) (pu_addI (z := ((ixR K k + 1 : Nat) : Int)) rfl rfl (by omega) (by omega) (by omega)) ?_)
   refine Rq 14 rfl (by kernel_rfl) (pu_sliceL et_41 rfl rfl (by omega) (by omega)) (Rg.one (by kernel_rfl) (Stp.acK 7 rfl rfl (by kernel_rfl) trivial (ac_copy et_41 ek_32 rfl rfl (SrcH.sl' (ys := K.take (ixR K k)) Tryz.underlying41 ek_32 (by simp <;> omega) (SlH.cutH (SlH.own (by repeat constructor)) _ _ hlc)) (by first | omega | (simp; omega)) (by first | omega | (simp; omega))) (by rintro _ _ ⟨a29, c29, rfl, rfl⟩ w s; first | exact s.drop | exact s | exact Ent.sat (by repeat constructor) s) ?_))
   rintro _ _ ⟨a29, c29, rfl, rfl⟩
   refine Rg.one (by kernel_rfl) (Stp.ac 15 rfl rfl (by kernel_rfl) trivial (ac_append et_41 ek_32 rfl rfl (by repeat constructor) (SrcH.sl' (ys := K.drop (ixR K k + 1)) Tryz.underlying41 ek_32 (by simp <;> omega) (SlH.cutL (SlH.own (by repeat constructor)) _ _ hlc)) (by first | omega | (simp; omega)) (by first | omega | (simp; omega)))  ?_)
   rintro _ _ ⟨a37, c37, rfl, rfl⟩
   refine Rq 16 rfl (by kernel_rfl) (by first | exact pu_nil rfl | exact pu_nilF rfl) ?_
   refine Rq 17 rfl (by kernel_rfl) (pu_fa fa_43_0 rfl) (Rg.one (by kernel_rfl) (Stp.ac0 18 rfl rfl (by kernel_rfl) trivial (ac_st sz_41 rfl rfl (by repeat constructor) rfl rfl rfl rfl)  ?_))
   rintro _ _ rfl
   refine Rg.end (by kernel_rfl) (Gn (Gs.reg (Lmv rfl rfl (Lq rfl (pu_addI (z := ((n + 1 : Nat) : Int)) rfl rfl (by omega) (by omega) (by omega)) ?_))))
   refine Las rfl rfl (Lnil (Gs.blk_n (Gn ?_)))
   first | (have hX := hyes; refine Gs.rtClose (L := K.take (ixR K k) ++ K.drop (ixR K k + 1)) a37 c37 (by repeat constructor) ?_) | (have hX := hno; refine Gs.rtClose (L := K) ka kc (by repeat constructor) ?_)
   refine Gs.reg (Lmv rfl rfl (Lq rfl (by first | exact pu_addI rfl rfl rfl (by omega) (by omega) | exact pu_add rfl rfl) ?_))
   refine Las rfl rfl (Lnt ?_)
   first | (have hX := hyes; exact Ag (i + 1, K.take (ixR K k) ++ K.drop (ixR K k + 1), n + 1) ⟨by show i + 1 ≤ ks.length; omega, by show _ = (ks.take (i + 1)).foldl dropR L; rw [hstep, hyes], by show n + 1 + (K.take (ixR K k) ++ K.drop (ixR K k + 1)).length = L.length; rw [← hyes]; omega⟩ (by show ks.length - (i + 1) < ks.length - i; omega)) | (have hX := hno; exact Ag (i + 1, K, n) ⟨by show i + 1 ≤ ks.length; omega, by show K = (ks.take (i + 1)).foldl dropR L; rw [hstep, hno], hn⟩ (by show ks.length - (i + 1) < ks.length - i; omega))
  have hlk : (lookR K k).isSome = false := by
    cases h : (lookR K k).isSome with
    | false => rfl
    | true => rw [h] at hc1; have := of_decide_eq_false hc1; simp at this
  have hno : dropR K k = K := dropR_none (look_none.1 hlk)
  refine Gs.skip (Gs.blk_n (Gn ?_))
  first | (have hX := hyes; refine Gs.rtClose (L := K.take (ixR K k) ++ K.drop (ixR K k + 1)) a37 c37 (by repeat constructor) ?_) | (have hX := hno; refine Gs.rtClose (L := K) ka kc (by repeat constructor) ?_)
  refine Gs.reg (Lmv rfl rfl (Lq rfl (by first | exact pu_addI rfl rfl rfl (by omega) (by omega) | exact pu_add rfl rfl) ?_))
  refine Las rfl rfl (Lnt ?_)
  first | (have hX := hyes; exact Ag (i + 1, K.take (ixR K k) ++ K.drop (ixR K k + 1), n + 1) ⟨by show i + 1 ≤ ks.length; omega, by show _ = (ks.take (i + 1)).foldl dropR L; rw [hstep, hyes], by show n + 1 + (K.take (ixR K k) ++ K.drop (ixR K k + 1)).length = L.length; rw [← hyes]; omega⟩ (by show ks.length - (i + 1) < ks.length - i; omega)) | (have hX := hno; exact Ag (i + 1, K, n) ⟨by show i + 1 ≤ ks.length; omega, by show K = (ks.take (i + 1)).foldl dropR L; rw [hstep, hno], hn⟩ (by show ks.length - (i + 1) < ks.length - i; omega))
 have hge : i = ks.length := by have := of_decide_eq_false hc0; omega
 rw [hge, List.take_length] at hK
 subst hK
 have hnn : n = L.length - (ks.foldl dropR L).length := by omega
 subst hnn
 refine Gs.exit (Gx (Gx (Gs.blk_hit (Gn (Gsr (Lmv rfl rfl (Las rfl rfl (Lnt (Gs.ret ?_)))))))))
 exact Gs.fin1 Tryz.results12 rfl _ (⟨rfl, rfl⟩) (by repeat constructor)
end Go.Proofs.YtklgiidfompdpaaGreatDoor
namespace Go.Sl
open Go
theorem Ct.twoS {P : Program} {f : FuncId} {args : List Value} {A B C : HProp} {φ : Value → HProp → List HProp → Prop} (c : Ct P f args [A, Sl.two B C] (fun v hs => ∃ A' r, φ v A' r ∧ hs = A' :: Sl.two B C :: r)) : Ct P f args [A, B, C] (fun v hs => ∃ A' r, φ v A' r ∧ hs = A' :: B :: C :: r) := by
 refine ⟨c.enters, fun w0 w R s => ?_⟩
 have s1 : Sat w0 w (B :: C :: A :: R) := Sat.takes (As := [B, C]) s (.cons (.tl .hd) (.cons (.tl .hd) .nil))
 have s2 : Sat w0 w (A :: Sl.two B C :: R) := Sat.take (Sat.two.2 s1) (.tl .hd)
 refine (c.calls w0 w R s2).mono fun _ _ ⟨v, hs, he, ⟨A', r, hp, e⟩, hsat⟩ => ⟨v, A' :: B :: C :: r, he, ⟨A', r, hp, rfl⟩, ?_⟩
 subst e
 have s3 : Sat w0 _ (Sl.two B C :: A' :: (r ++ R)) := Sat.take (L := A' :: Sl.two B C :: (r ++ R)) hsat (.tl .hd)
 exact Sat.take (A := A') (Sat.two.1 s3) (.tl (.tl .hd))
end Go.Sl
namespace Go.Proofs.YtklgiidfompdpaaGreatDoor
open Go Go.Sl Go.Gv Go.Kv Go.Po Go.Ix Go.Qu Go.Shelf Go.Stb
set_option maxRecDepth 100000
theorem rec17_spec (n : Int) (s : ByteArray) : Ct Tryz.prog 28 [int n, .string s] [] (fun v hs => v = recV (recI n s) ∧ hs = []) := by
 refine Cti Tryz.func28 (by kernel_rfl) 9 Tryz.ntmps28 rfl rfl fun w0 R => ?_
 refine Gsr (La rfl (ac_alloc zv_32 rfl) ?_)
 rintro _ _ ⟨rb, rfl, rfl⟩
 refine Lnt (Gsr (Lmv rfl rfl (Lq rfl (pu_build bd_28 (by repeat constructor) rfl) ?_)))
 refine Lmv rfl rfl (Lq rfl (pu_build bd_32 (by repeat constructor) rfl) ?_)
 refine Lac0 rfl trivial (ac_st sz_32 rfl rfl (by repeat constructor) rfl rfl rfl rfl) ?_
 rintro _ _ rfl
 refine Lnt (Gs.ret ?_)
 exact Gs.finc1 Tryz.results28 ag_32 rfl (Rdc.cl 5 (by repeat constructor) rfl) rfl _ (⟨rfl, rfl⟩) (by repeat constructor)
abbrev askW (b : Nat) (w : ByteArray) : AskV := .mk 1 0 ⟨some ⟨b, 0, none⟩, [w], 1⟩ none 0 []
theorem word17_spec (w : ByteArray) : Ct Tryz.prog 30 [.string w] [] (fun v hs => ∃ b, v = askV (askW b w) ∧ hs = [sl 9 1 strC (some ⟨b, 0, none⟩) 1 [w]]) := by
 refine Cti Tryz.func30 (by kernel_rfl) 6 Tryz.ntmps30 rfl rfl fun w0 R => ?_
 refine Gsr (La rfl (ac_alloc zv_26 rfl) ?_)
 rintro _ _ ⟨ab, rfl, rfl⟩
 refine Lnt (Gsr (Lmv rfl rfl (La rfl (ac_lit encC_9 ([w]) et_23 ek_9 rfl (by repeat constructor) rfl rfl (by decide)) ?_)))
 rintro _ _ ⟨a4, rfl, rfl⟩
 refine Lq rfl (pu_build bd_26 (by repeat constructor) rfl) ?_
 refine Lac0 rfl trivial (ac_st sz_26 rfl rfl (by repeat constructor) rfl rfl rfl rfl) ?_
 rintro _ _ rfl
 refine Lnt (Gs.ret ?_)
 exact Gs.finc1 Tryz.results30 ag_26 rfl (Rdc.cl 4 (by repeat constructor) rfl) rfl _ (⟨_, rfl, rfl⟩) (by repeat constructor)
theorem askW_rd {A S : HProp} {b : Nat} {w : ByteArray} (h : Srd S 1 strC (some ⟨b, 0, none⟩) [w]) : ARd S (askW b w) := .mk h (fun _ _ _ _ _ _ h => (h rfl).elim) ⟨by show 1 ≤ maxLen; decide, Nat.zero_le _⟩ fun x h => by cases h
theorem askW_few {b : Nat} {w : ByteArray} (h : w.size ≤ 100) : FewA 1 (askW b w) := ⟨by show 1 ≤ 30; omega, fun v hv => by rw [List.mem_singleton.1 hv]; exact h, Nat.zero_le _, fun x h => by cases h⟩
theorem askW_size (b : Nat) (w : ByteArray) : sizeA 1 (askW b w) ≤ 1000 := by show 1 + 0 ≤ 1000; omega
theorem IsK.of {rs : List Rec} (hn : (rs.map Rec.key).Nodup) (f : Rec → Bool) : IsK rs f (sortK ((rs.filter f).map Rec.key)) := ⟨sortK_asc (filt_keys hn f), fun k => by
 rw [sortK_mem, List.mem_map]
 exact ⟨fun ⟨r, hr, e⟩ => ⟨r, (List.mem_filter.1 hr).1, e, (List.mem_filter.1 hr).2⟩, fun ⟨r, hr, e, hf⟩ => ⟨r, List.mem_filter.2 ⟨hr, hf⟩, e⟩⟩⟩
abbrev waB : ByteArray := ⟨#[97]⟩
abbrev wbB : ByteArray := ⟨#[98]⟩
abbrev r2B : Rec := recI 2 ⟨#[97, 32, 98]⟩
abbrev r1B : Rec := recI 1 ⟨#[98]⟩
abbrev r1A : Rec := recI 1 ⟨#[97]⟩
theorem put17 : [r2B, r1B, r1A].foldl putR [] = [r2B, r1B] := by kernel_rfl
theorem drop17 : [(⟨1, 1⟩ : Key)].foldl dropR [r2B, r1B] = [r2B] := by kernel_rfl
theorem look17 : lookR [r2B, r1B] ⟨1, 1⟩ = some r1B := by kernel_rfl
theorem mayB17 (b : Nat) : mayA 1 (askW b wbB) = true := by kernel_rfl
theorem mayA17 (b : Nat) : mayA 1 (askW b waB) = true := by kernel_rfl
theorem keys17 (b : Nat) : sortK (([r2B, r1B].filter (holdsQ 1 (askW b wbB))).map Rec.key) = [⟨1, 1⟩, ⟨1, 2⟩] := by kernel_rfl
theorem hits17 (b : Nat) : [r2B, r1B].filter (hitB 1 (askW b waB) Rec.zero) = [r2B] := by kernel_rfl
theorem nod17 : (([r2B, r1B] : List Rec).map Rec.key).Nodup := by decide
theorem ok17 : okQ 3 Rec.zero = true := by kernel_rfl
set_option maxHeartbeats 1000000 in
theorem awake17_spec {h0 : Hp} (T : TabY h0) : Ct Tryz.prog 9 [] [ro h0] (fun v hs => v = .bool true ∧ hs = [ro h0]) := by
 have hTW : TabW (ro h0) := ⟨h0, T, Inn.refl⟩
 refine Cti Tryz.func9 (by kernel_rfl) 64 Tryz.ntmps9 rfl rfl fun w0 R => ?_
 refine Gsr (Las rfl rfl (Lnt (Gsr (La rfl (asC (snew_spec)) ?_))))
 rintro _ _ ⟨_, ⟨x, rfl, rfl⟩, rfl⟩
 refine Las rfl rfl (Lnt (Gs.seq (Gsr (Lmv rfl rfl (Lq rfl (pu_eqN Tryz.underlying38 rfl rfl) (Lnt (Gs.cond_ff rfl rfl (Gs.skip (Gn (Gsr (Lmv rfl rfl ?_)))))))))))
 refine La rfl (asC (rec17_spec 2 ⟨#[97, 32, 98]⟩)) ?_
 rintro _ _ ⟨_, ⟨rfl, rfl⟩, rfl⟩
 refine La rfl (asC (rec17_spec 1 ⟨#[98]⟩)) ?_
 rintro _ _ ⟨_, ⟨rfl, rfl⟩, rfl⟩
 refine La rfl (asC (rec17_spec 1 ⟨#[97]⟩)) ?_
 rintro _ _ ⟨_, ⟨rfl, rfl⟩, rfl⟩
 refine La rfl (ac_lit encC_32 ([r2B, r1B, r1A]) et_41 ek_32 rfl (by repeat constructor) rfl rfl (by decide)) ?_
 rintro _ _ ⟨a12, rfl, rfl⟩
 refine La rfl (asC (Ct.twoR (sput_spec (S := two (ro h0) (rsA (some ⟨a12, 0, none⟩) 3 [r2B, r1B, r1A])) (hTW.u.inn Inn.two1) x [] (a := some ⟨a12, 0, none⟩) (c := 3) (ys := [r2B, r1B, r1A]) (Srd.two2 Srd.own) (by decide)))) ?_
 rintro _ _ ⟨_, ⟨_, ⟨rfl, rfl⟩, rfl⟩, rfl⟩
 rw [put17]
 refine Las rfl rfl (Lnt (Gsr (Lmv rfl rfl (La rfl (asC (rec17_spec 1 ⟨#[]⟩)) ?_))))
 rintro _ _ ⟨_, ⟨rfl, rfl⟩, rfl⟩
 refine Lq rfl (pu_fg fg_32_0 rfl rfl) (La rfl (asC (sget_spec x [r2B, r1B] ⟨1, 1⟩)) ?_)
 rintro _ _ ⟨_, ⟨rfl, rfl⟩, rfl⟩
 rw [look17]
 refine Lmv rfl rfl (Lq rfl (pu_extract rfl rfl) (Lq rfl (pu_extract rfl rfl) (La rfl (ac_alloc zv_32 rfl) ?_)))
 rintro _ _ ⟨rb, rfl, rfl⟩
 refine Lac0 rfl trivial (ac_st sz_32 rfl rfl (by repeat constructor) rfl rfl rfl rfl) ?_
 rintro _ _ rfl
 refine Las rfl rfl (Lnt (Gs.seq (Gs.regD mixed (by kernel_rfl) (Rmv 0 rfl (by kernel_rfl) rfl (Rq 1 rfl (by kernel_rfl) (pu_eq rfl rfl) (Rg.puBt 2 rfl rfl (by kernel_rfl) trivial (pu_move rfl) rfl (Rg.rd 3 rfl rfl (by kernel_rfl) ⟨_, rfl, rfl⟩ (rd_lda ag_32 rfl (Rdc.cl 5 (by repeat constructor) rfl) rfl) ?_)))))))
 refine Rg.one (by kernel_rfl) (Stp.acR 4 [3] rfl rfl (by kernel_rfl) ⟨_, rfl, rfl⟩ (asC (rec17_spec 1 ⟨#[98]⟩)) (by rintro _ _ ⟨_, ⟨rfl, rfl⟩, rfl⟩; exact (Reads.cons rfl rfl rfl ⟨_, rfl, rfl⟩ rfl (rd_lda ag_32 rfl (Rdc.cl 5 (by repeat constructor) rfl) rfl) Reads.nil)) ?_)
 rintro _ _ ⟨_, ⟨rfl, rfl⟩, rfl⟩
 refine Rg.pu 5 rfl rfl (by kernel_rfl) ⟨_, rfl, rfl⟩ (pu_eqT (a := r1B) (b := r1B) cmp_32 (by decide) Tryz.eqGuardType32 rfl rfl) ?_
 refine Rpk 6 rfl (by kernel_rfl) rfl rfl (Rg.puBt 7 rfl rfl (by kernel_rfl) trivial (pu_move rfl) rfl (Rg.pu 8 rfl rfl (by kernel_rfl) ⟨_, rfl, rfl⟩ (pu_move rfl) (Rpk 9 rfl (by kernel_rfl) rfl rfl (Rg.puBt 10 rfl rfl (by kernel_rfl) trivial (pu_move rfl) rfl (Rg.pu 11 rfl rfl (by kernel_rfl) ⟨_, rfl, rfl⟩ (pu_move rfl) (Rg.one (by kernel_rfl) (Stp.ac 12 rfl rfl (by kernel_rfl) ⟨_, rfl, rfl⟩ (asC (word17_spec wbB))  ?_)))))))
 rintro _ _ ⟨_, ⟨qb, rfl, rfl⟩, rfl⟩
 refine Rg.one (by kernel_rfl) (Stp.ac 13 rfl rfl (by kernel_rfl) ⟨_, rfl, rfl⟩ (asC (Ct.twoS (φ := fun v A' r => A' = shA x [r2B, r1B] ∧ ∃ a c ks, v = .slice a ks.length c ∧ KsQ [r2B, r1B] 1 (askW qb wbB) ks ∧ r = [sl 28 2 keyC a c ks]) ((sKeys_spec x [r2B, r1B] (by decide) (S := two (ro h0) (sl 9 1 strC (some ⟨qb, 0, none⟩) 1 [wbB])) (hTW.u.inn Inn.two1) (askW_rd (A := ro h0) (Srd.two2 Srd.own)) (askW_few (by decide)) (askW_size _ _) (by decide)).mono (by rintro _ _ ⟨a, c, ks, h1, h2, rfl⟩; exact ⟨_, _, ⟨rfl, a, c, ks, h1, h2, rfl⟩, rfl⟩))))  ?_)
 rintro _ _ ⟨_, ⟨_, _, ⟨rfl, ka, kc, ks, rfl, hK, rfl⟩, rfl⟩, rfl⟩
 obtain rfl : ks = [⟨1, 1⟩, ⟨1, 2⟩] := by rw [← keys17 qb]; exact (hK.1 (mayB17 qb)).uniq (IsK.of nod17 _) (fun _ _ => rfl)
 refine Rg.one (by kernel_rfl) (Stp.ac 14 rfl rfl (by kernel_rfl) ⟨_, rfl, rfl⟩ (asC (rec17_spec 1 ⟨#[]⟩))  ?_)
 rintro _ _ ⟨_, ⟨rfl, rfl⟩, rfl⟩
 refine Rg.pu 15 rfl rfl (by kernel_rfl) ⟨_, rfl, rfl⟩ (pu_fg fg_32_0 rfl rfl) (Rg.one (by kernel_rfl) (Stp.ac 16 rfl rfl (by kernel_rfl) ⟨_, rfl, rfl⟩ (asC (rec17_spec 2 ⟨#[]⟩))  ?_))
 rintro _ _ ⟨_, ⟨rfl, rfl⟩, rfl⟩
 refine Rg.pu 17 rfl rfl (by kernel_rfl) ⟨_, rfl, rfl⟩ (pu_fg fg_32_0 rfl rfl) (Rg.one (by kernel_rfl) (Stp.ac 18 rfl rfl (by kernel_rfl) ⟨_, rfl, rfl⟩ (ac_lit encC_28 ([(⟨1, 1⟩ : Key), ⟨1, 2⟩]) et_48 ek_28 rfl (by repeat constructor) rfl rfl (by decide))  ?_))
 rintro _ _ ⟨a39, rfl, rfl⟩
 refine Rg.one (by kernel_rfl) (Stp.ac 19 rfl rfl (by kernel_rfl) ⟨_, rfl, rfl⟩ (asC (Ct.two0 (sameKeys_spec (S := two (sl 28 2 keyC ka kc [⟨1, 1⟩, ⟨1, 2⟩]) (sl 28 2 keyC (some ⟨a39, 0, none⟩) 2 [⟨1, 1⟩, ⟨1, 2⟩])) (a := ka) (b := some ⟨a39, 0, none⟩) (c := kc) (d := 2) (xs := [⟨1, 1⟩, ⟨1, 2⟩]) (ys := [⟨1, 1⟩, ⟨1, 2⟩]) (Srd.two1 Srd.own) (Srd.two2 Srd.own) (by decide))))  ?_)
 rintro _ _ ⟨_, ⟨rfl, rfl⟩, rfl⟩
 refine Rpk 20 rfl (by kernel_rfl) rfl rfl (Rg.puBt 21 rfl rfl (by kernel_rfl) trivial (pu_move rfl) rfl (Rg.pu 22 rfl rfl (by kernel_rfl) ⟨_, rfl, rfl⟩ (pu_move rfl) (Rg.one (by kernel_rfl) (Stp.ac 23 rfl rfl (by kernel_rfl) ⟨_, rfl, rfl⟩ (asC (word17_spec waB))  ?_))))
 rintro _ _ ⟨_, ⟨pb, rfl, rfl⟩, rfl⟩
 refine Rg.pu 24 rfl rfl (by kernel_rfl) ⟨_, rfl, rfl⟩ (pu_build bd_34 (by repeat constructor) rfl) ?_
 refine Rg.one (by kernel_rfl) (Stp.ac 25 rfl rfl (by kernel_rfl) ⟨_, rfl, rfl⟩ (asC (Ct.twoS (φ := fun v A' r => A' = shA x [r2B, r1B] ∧ ∃ a c out, v = .slice a out.length c ∧ FindIs 1 (askW pb waB) 3 Rec.zero [r2B, r1B] out ∧ r = [rsA a c out]) ((sfind_spec x [r2B, r1B] (by decide) (S := two (ro h0) (sl 9 1 strC (some ⟨pb, 0, none⟩) 1 [waB])) (hTW.inn Inn.two1) (askW_rd (A := ro h0) (Srd.two2 Srd.own)) (askW_few (by decide)) (askW_size _ _) (by decide) 3 Rec.zero).mono (by rintro _ _ ⟨a, c, out, h1, h2, rfl⟩; exact ⟨_, _, ⟨rfl, a, c, out, h1, h2, rfl⟩, rfl⟩))))  ?_)
 rintro _ _ ⟨_, ⟨_, _, ⟨rfl, fa, fc, out, rfl, hO, rfl⟩, rfl⟩, rfl⟩
 obtain rfl : out = [r2B] := by
   obtain ⟨ys, hy, rfl⟩ := hO
   have h1 := (hy.1 (by unfold mayQ; rw [mayA17, ok17]; rfl)).1
   rw [hits17] at h1
   rw [List.perm_singleton.1 h1]; rfl
 refine Rg.pu 26 rfl rfl (by kernel_rfl) ⟨_, rfl, rfl⟩ (pu_len Tryz.underlying41 rfl) (Rg.pu 27 rfl rfl (by kernel_rfl) ⟨_, rfl, rfl⟩ (pu_eq rfl rfl) (Rpk 28 rfl (by kernel_rfl) rfl rfl (Rg.puBt 29 rfl rfl (by kernel_rfl) trivial (pu_move rfl) rfl (Rg.pu 30 rfl rfl (by kernel_rfl) ⟨_, rfl, rfl⟩ (pu_move rfl) (Rg.one (by kernel_rfl) (Stp.ac 31 rfl rfl (by kernel_rfl) ⟨_, rfl, rfl⟩ (asC (rec17_spec 1 ⟨#[]⟩))  ?_))))))
 rintro _ _ ⟨_, ⟨rfl, rfl⟩, rfl⟩
 refine Rg.pu 32 rfl rfl (by kernel_rfl) ⟨_, rfl, rfl⟩ (pu_fg fg_32_0 rfl rfl) (Rg.one (by kernel_rfl) (Stp.ac 33 rfl rfl (by kernel_rfl) ⟨_, rfl, rfl⟩ (ac_lit encC_28 ([(⟨1, 1⟩ : Key)]) et_48 ek_28 rfl (by repeat constructor) rfl rfl (by decide))  ?_))
 rintro _ _ ⟨a54, rfl, rfl⟩
 refine Rg.one (by kernel_rfl) (Stp.ac 34 rfl rfl (by kernel_rfl) ⟨_, rfl, rfl⟩ (asC (sdrop_spec x [r2B, r1B] (U := sl 28 2 keyC (some ⟨a54, 0, none⟩) 1 [⟨1, 1⟩]) (a := some ⟨a54, 0, none⟩) (c := 1) (ks := [⟨1, 1⟩]) Srd.own (by decide)))  ?_)
 rintro _ _ ⟨_, ⟨rfl, rfl⟩, rfl⟩
 rw [drop17]
 refine Rg.pu 35 rfl rfl (by kernel_rfl) ⟨_, rfl, rfl⟩ (pu_eq rfl rfl) (Rpk 36 rfl (by kernel_rfl) rfl rfl (Rg.puBt 37 rfl rfl (by kernel_rfl) trivial (pu_move rfl) rfl (Rg.pu 38 rfl rfl (by kernel_rfl) ⟨_, rfl, rfl⟩ (pu_move rfl) (Rg.one (by kernel_rfl) (Stp.ac 39 rfl rfl (by kernel_rfl) ⟨_, rfl, rfl⟩ (asC (srecs_spec x [r2B] (by decide)))  ?_)))))
 rintro _ _ ⟨_, ⟨ra, rc, ks, rfl, hK, rfl⟩, rfl⟩
 have hk1 : ks.length = 1 := by
   have h1 := hK.uniq (IsK.of (rs := [r2B]) (by decide) (fun _ => true)) (fun _ _ => rfl)
   rw [h1]; rfl
 have hol : (ofR [r2B] ks).length = 1 := by unfold ofR; rw [List.length_map]; exact hk1
 rw [hol]
 refine Rg.pu 40 rfl rfl (by kernel_rfl) ⟨_, rfl, rfl⟩ (pu_len Tryz.underlying41 rfl) (Rg.pu 41 rfl rfl (by kernel_rfl) ⟨_, rfl, rfl⟩ (pu_eq rfl rfl) (Rpk 42 rfl (by kernel_rfl) rfl rfl (Rq 43 rfl (by kernel_rfl) (pu_assign rfl) (Rg.end (by kernel_rfl) (Gn (Gs.ret ?_))))))
 exact Gs.fin1 Tryz.results9 rfl _ (⟨rfl, rfl⟩) (by repeat constructor)
end Go.Proofs.YtklgiidfompdpaaGreatDoor
namespace Go.Proofs.YtklgiidfompdpaaGreatDoor
open Go Go.Sl Go.Gv Go.Kv Go.Po Go.Ix Go.Qu Go.Shelf Go.Stb
set_option maxRecDepth 100000
structure ActF where
 d : Bool
 r : Rec
abbrev actF (x : ActF) : List Value := [.bool x.d, int x.r.o, int x.r.q, int x.r.w, int x.r.c, .string x.r.t]
def actR (rs : List Rec) (x : ActF) : List Rec := if x.d then dropR rs x.r.key else putR rs x.r
theorem putR_nodup {rs : List Rec} (h : (rs.map Rec.key).Nodup) (r : Rec) : ((putR rs r).map Rec.key).Nodup := by
 unfold putR
 split
 · rename_i e
   simp only [Bool.and_eq_true, decide_eq_true_eq] at e
   rw [List.map_append, List.nodup_append]
   refine ⟨h, by simp, fun a ha b hb => ?_⟩
   simp at hb
   subst hb
   exact fun he => e.2 (he ▸ ha)
 · exact h
theorem putR_may {rs : List Rec} (h : ∀ r ∈ rs, recB r = true) (x : Rec) : ∀ r ∈ putR rs x, recB r = true := fun r hr => by
 unfold putR at hr
 split at hr
 · rename_i e
   rcases List.mem_append.1 hr with hr | hr
   · exact h r hr
   · rw [List.mem_singleton.1 hr]
     simp only [Bool.and_eq_true] at e; exact e.1
 · exact h r hr
theorem actR_nodup {rs : List Rec} (h : (rs.map Rec.key).Nodup) (x : ActF) : ((actR rs x).map Rec.key).Nodup := by
 unfold actR; split
 · exact drop_nodup h _
 · exact putR_nodup h _
theorem actR_may {rs : List Rec} (h : ∀ r ∈ rs, recB r = true) (x : ActF) : ∀ r ∈ actR rs x, recB r = true := fun r hr => by
 unfold actR at hr; split at hr
 · exact h r (List.mem_filter.1 hr).1
 · exact putR_may h _ r hr
theorem actR_len (rs : List Rec) (x : ActF) : (actR rs x).length ≤ rs.length + 1 := by
 unfold actR; split
 · exact Nat.le_succ_of_le (List.length_filter_le ..)
 · exact putR_len _ _
theorem into_one {p k : Key} (h : k ≠ p) : intoL [p] k = if before p k then [p, k] else [k, p] := by
 rw [intoL_ins (by simpa using h)]
 rfl
theorem into_one_len {p k : Key} (h : k ≠ p) : (intoL [p] k).length = 2 := by rw [into_one h]; split <;> rfl
theorem into_one_head {p k z : Key} (h : k ≠ p) (hz : (intoL [p] k)[0]? = some z) : z = p ↔ before p k = true := by
 rw [into_one h] at hz
 split at hz
 · rename_i e; simp at hz; subst hz; exact ⟨fun _ => e, fun _ => rfl⟩
 · rename_i e; simp at hz; subst hz; exact ⟨fun h' => (h h').elim, fun h' => (e h').elim⟩
theorem asc_put {M : List Rec} {r : Rec} {k : Nat} (hA : AscK (M.map Rec.key)) (hn : r.key ∉ M.map Rec.key) (h1 : ∀ y ∈ M.take k, before y.key r.key = true) (h2 : ∀ y, M[k]? = some y → before y.key r.key = false) : AscK ((M.take k ++ [r] ++ M.drop k).map Rec.key) := by
 have hA2 : (M.take k ++ M.drop k).Pairwise fun a b => before a.key b.key = true := by rw [List.take_append_drop]; exact List.pairwise_map.1 hA
 obtain ⟨p1, p2, p3⟩ := List.pairwise_append.1 hA2
 have h3 : ∀ y ∈ M.drop k, before r.key y.key = true := fun y hy => by
   cases hd : M.drop k with
   | nil => rw [hd] at hy; cases hy
   | cons z l =>
     have hz : M[k]? = some z := by
       have : (M.drop k)[0]? = some z := by rw [hd]; rfl
       rwa [List.getElem?_drop, Nat.add_zero] at this
     have hzm : z ∈ M := List.mem_of_getElem? hz
     have hne : z.key ≠ r.key := fun e => hn (e ▸ List.mem_map.2 ⟨z, hzm, rfl⟩)
     have hrz : before r.key z.key = true := by
       rcases before_total hne with h | h
       · rw [h2 z hz] at h; cases h
       · exact h
     rw [hd] at hy p2
     rcases List.mem_cons.1 hy with rfl | hy
     · exact hrz
     · exact before_trans hrz ((List.pairwise_cons.1 p2).1 y hy)
 refine List.pairwise_map.2 (List.pairwise_append.2 ⟨List.pairwise_append.2 ⟨p1, List.pairwise_singleton .., fun a ha b hb => ?_⟩, p2, fun a ha b hb => ?_⟩)
 · rw [List.mem_singleton.1 hb]; exact h1 a ha
 · rcases List.mem_append.1 ha with ha | ha
   · exact p3 a ha b hb
   · rw [List.mem_singleton.1 ha]; exact h3 b hb
theorem perm_put {M l : List Rec} {r : Rec} (k : Nat) (p : List.Perm M l) : List.Perm (M.take k ++ [r] ++ M.drop k) (l ++ [r]) := by
 have h1 : List.Perm (M.take k ++ [r] ++ M.drop k) (M.take k ++ M.drop k ++ [r]) := by
   rw [List.append_assoc, List.append_assoc]
   exact (List.perm_append_comm (l₁ := [r]) (l₂ := M.drop k)).append_left _
 refine h1.trans ?_
 rw [List.take_append_drop]
 exact p.append_right _
theorem take_snoc {α : Type} {L : List α} {j : Nat} {r : α} (h : L[j]? = some r) : L.take (j + 1) = L.take j ++ [r] := by rw [List.take_add_one, h]; rfl
theorem not_in_take {L : List Rec} (hn : (L.map Rec.key).Nodup) {j : Nat} {r : Rec} (h : L[j]? = some r) {M : List Rec} (p : List.Perm M (L.take j)) : r.key ∉ M.map Rec.key := fun hc => by
 have hc2 := (p.map Rec.key).mem_iff.1 hc
 have h1 : ((L.take (j + 1)).map Rec.key).Nodup := List.Nodup.sublist ((List.take_sublist _ _).map _) hn
 rw [take_snoc h, List.map_append] at h1
 exact (List.nodup_append.1 h1).2.2 _ hc2 r.key (by simp) rfl
theorem IsK.none {f : Rec → Bool} : IsK [] f [] := ⟨List.Pairwise.nil, fun k => ⟨fun h => (by cases h), fun ⟨r, hr, _⟩ => by cases hr⟩⟩
theorem IsK.snocT {l : List Rec} {f : Rec → Bool} {ks : List Key} (h : IsK l f ks) {r : Rec} (hf : f r = true) : IsK (l ++ [r]) f (intoL ks r.key) := ⟨(intoL_asc h.1 _).1, fun k => by
 rw [(intoL_asc h.1 _).2, h.2]
 constructor
 · rintro (rfl | ⟨x, hx, h1, h2⟩)
   · exact ⟨r, by simp, rfl, hf⟩
   · exact ⟨x, by simp [hx], h1, h2⟩
 · rintro ⟨x, hx, h1, h2⟩
   rcases List.mem_append.1 hx with hx | hx
   · exact .inr ⟨x, hx, h1, h2⟩
   · rw [List.mem_singleton.1 hx] at h1; exact .inl h1.symm⟩
theorem IsK.snocF {l : List Rec} {f : Rec → Bool} {ks : List Key} (h : IsK l f ks) {r : Rec} (hf : f r = false) : IsK (l ++ [r]) f ks := ⟨h.1, fun k => by
 rw [h.2]
 constructor
 · rintro ⟨x, hx, h1, h2⟩; exact ⟨x, by simp [hx], h1, h2⟩
 · rintro ⟨x, hx, h1, h2⟩
   rcases List.mem_append.1 hx with hx | hx
   · exact ⟨x, hx, h1, h2⟩
   · rw [List.mem_singleton.1 hx, hf] at h2; cases h2⟩
theorem KsQ.eqB {L : List Rec} {d : Nat} {y : AskV} {ks K : List Key} (hb : ∀ r ∈ L, recB r = true) (h : KsQ L d y ks) (hK : IsK L (HoldsB d y) K) : ks = K := by
 cases hm : mayA d y with
 | true => exact (h.1 hm).uniq hK fun r hr => by unfold HoldsB; rw [hm, hb r hr]; rfl
 | false =>
   rw [h.2 hm]
   cases K with
   | nil => rfl
   | cons k K =>
     obtain ⟨r, -, -, h2⟩ := (hK.2 k).1 (by simp)
     unfold HoldsB at h2; rw [hm] at h2; cases h2
theorem recs_eq {L M : List Rec} {ks : List Key} (hn : (L.map Rec.key).Nodup) (hA : AscK (M.map Rec.key)) (p : List.Perm M L) (h : IsK L (fun _ => true) ks) : ofR L ks = M := by
 have hk : ks = M.map Rec.key := asc_ext h.1 hA fun k => by
   rw [h.2, List.mem_map]
   exact ⟨fun ⟨r, hr, h1, _⟩ => ⟨r, p.mem_iff.2 hr, h1⟩, fun ⟨r, hr, h1⟩ => ⟨r, p.mem_iff.1 hr, h1, rfl⟩⟩
 subst hk
 unfold ofR
 rw [List.map_map]
 conv => rhs; rw [← List.map_id M]
 exact List.map_congr_left fun r hr => by
   show (lookR L r.key).getD Rec.zero = r
   rw [lookR_at hn (p.mem_iff.1 hr)]; rfl
theorem FindIs.len {d : Nat} {x : AskV} {lim : Int} {z : Rec} {rs out : List Rec} (h : FindIs d x lim z rs out) : out.length ≤ rs.length := by
 obtain ⟨ys, hy, rfl⟩ := h
 rw [List.length_take]
 cases hm : mayQ d x lim z with
 | true =>
   have h1 := (hy.1 hm).1.length_eq
   have h2 := List.length_filter_le (hitB d x z) rs
   omega
 | false => rw [hy.2 hm]; simp
abbrev CutK (M : List Rec) (r : Rec) : Type := {k : Nat × Option Addr // k.1 ≤ M.length ∧ (∀ y ∈ M.take k.1, before y.key r.key = true) ∧ (∀ y, M[k.1]? = some y → before y.key r.key = false)}
theorem into1_spec (a : Option Addr) (p k : Key) :
   Ct Tryz.prog 15 [.slice a 1 1, keyV k] [sl 28 2 keyC a 1 [p]] (fun v hs => ∃ b o c', v = .slice (some ⟨b, o, none⟩) (intoL [p] k).length c' ∧ hs = [sl 28 2 keyC (some ⟨b, o, none⟩) c' (intoL [p] k)]) := by
 have c := into_spec a 1 [p] (Nat.le_of_ble_eq_true rfl) k
 refine ⟨c.enters, fun w0 w R s => (c.calls w0 w R s).mono fun _ _ ⟨v, hs, he, ⟨a', c', h1, h2⟩, hsat⟩ => ?_⟩
 subst h2
 have hs2 := Sat.take (A := sl 28 2 keyC a' c' (intoL [p] k)) hsat .hd
 obtain ⟨h0, x, -⟩ := hs2.toRo
 rcases x with ⟨h3, h4, -⟩ | ⟨b, off, _, rfl, _⟩
 · exfalso
   have hl : (intoL [p] k).length = 0 := by rw [h4]; rfl
   have hin : k ∈ intoL [p] k := ((intoL_asc (List.pairwise_singleton ..) k).2 k).2 (.inl rfl)
   rw [List.length_eq_zero_iff.1 hl] at hin; cases hin
 · exact ⟨v, _, he, ⟨b, off, c', h1, rfl⟩, hsat⟩
theorem great17_spec {S : HProp} {a : Option Addr} {c : Nat} {xs : List ActF} (hS : Srd S 6 actF a xs) (hl : xs.length ≤ 9223372036854775807) (k : Int) :
   Ct Tryz.prog 7 [.slice a xs.length c, int k] [S] (fun v hs => (∃ b : Bool, v = .bool b ∧ (b = false → xs.length ≤ k)) ∧ hs = [S]) := by
 refine Cti Tryz.func7 (by kernel_rfl) 30 Tryz.ntmps7 rfl rfl fun w0 R => ?_
 refine Gs.slAddr (hS.h (by repeat constructor)) fun ab ao ha => ?_
 refine Gsr (Las rfl rfl (Lnt (Gs.seq (Gsr (Las rfl rfl (Lnt (Gs.block (Gs.loop1 (fun i : Nat => i ≤ xs.length) (fun i => [(0, .slice a xs.length c), (1, int k), (5, int i)]) (fun i => [S] ++ R) (fun i => xs.length - i) 0 (Nat.zero_le _) (by repeat constructor) (by repeat constructor) (fun i hi => ?_)))))))))
 refine Gs.seq (Gsr (Lmv rfl rfl (Lmv rfl rfl (Lq rfl (pu_len Tryz.underlying22 rfl) (Lq rfl (pu_lt rfl rfl) (LpuB rfl rfl trivial (pu_move rfl) (fun hg4 => ?_) (fun hg4 => ?_)))))))
 ·
  have hlt : i < xs.length := by have := of_decide_eq_true hg4; omega
  obtain ⟨x, hx⟩ : ∃ x, xs[i]? = some x := ⟨xs[i], by simp [hlt]⟩
  obtain rfl := ha (by rintro rfl; simp at hlt)
  refine Lpu rfl rfl ⟨_, rfl, rfl⟩ (pu_move rfl) (Lpu rfl rfl ⟨_, rfl, rfl⟩ (pu_len Tryz.underlying22 rfl) (Lpu rfl rfl ⟨_, rfl, rfl⟩ (pu_move rfl) (Lpu rfl rfl ⟨_, rfl, rfl⟩ (pu_le rfl rfl) (Lpk rfl rfl rfl (Lnt (Gs.cond rfl (fun hc0 => ?_) (fun hc0 => ?_)))))))
  ·
   refine Gs.skip (Gn (Gs.seq (Gs.block (Gsr (Lmv rfl rfl (Lmv rfl rfl (Lq rfl (pu_ia se_22 rfl rfl (by omega) (by omega)) (Lq rfl (pu_fa fa_45_1 rfl) (Lq rfl (pu_fa fa_32_2 rfl) (Lr rfl (rd_ld na_9 rfl (Rdc.elp (f := 5) 1 (hS.h (by repeat constructor)) hx rfl rfl)) ?_))))))))))
   refine Lq rfl (pu_lenS Tryz.underlying9 rfl) (Lq rfl (pu_gt rfl rfl) (Lnt (Gs.cond rfl (fun hc1 => ?_) (fun hc1 => ?_))))
   ·
    refine Gsr (Las rfl rfl (Lnt (Gs.ret (Gs.blk_r (Gr (Gr (Gs.blk_r (Gr ?_))))))))
    exact Gs.fin1 Tryz.results7 rfl _ (⟨⟨true, rfl, fun h => by cases h⟩, rfl⟩) (by repeat constructor)
   refine Gs.skip (Gs.blk_n (Gn (Gs.reg (Lmv rfl rfl (Lq rfl (by first | exact pu_addI rfl rfl rfl (by omega) (by omega) | exact pu_add rfl rfl) ?_)))))
   refine Las rfl rfl (Lnt ?_)
   exact Ag (i + 1) (by omega) (by omega)
  refine Gs.exit (Gx (Gx (Gs.blk_hit (Gn (Gsr (Lmv rfl rfl (Lq rfl (pu_len Tryz.underlying22 rfl) (Lmv rfl rfl (Lq rfl (pu_gt rfl rfl) (Las rfl rfl (Lnt ?_)))))))))))
  refine Gs.ret ?_
  exact Gs.fin1 Tryz.results7 rfl _ (⟨⟨_, rfl, fun h => by have := of_decide_eq_false h; omega⟩, rfl⟩) (by repeat constructor)
 refine Lof rfl (Lof rfl (Lof rfl (Lof rfl (Lpk rfl rfl rfl (Lnt (Gs.cond_f rfl (Gs.exit (Gx (Gx (Gs.blk_hit (Gn ?_)))))))))))
 refine Gsr (Lmv rfl rfl (Lq rfl (pu_len Tryz.underlying22 rfl) (Lmv rfl rfl (Lq rfl (pu_gt rfl rfl) (Las rfl rfl (Lnt (Gs.ret ?_)))))))
 exact Gs.fin1 Tryz.results7 rfl _ (⟨⟨_, rfl, fun h => by have := of_decide_eq_false h; omega⟩, rfl⟩) (by repeat constructor)
end Go.Proofs.YtklgiidfompdpaaGreatDoor
namespace Go.Proofs.YtklgiidfompdpaaGreatDoor
open Go Go.Sl Go.Gv Go.Kv Go.Po Go.Ix Go.Qu Go.Shelf Go.Stb
set_option maxRecDepth 100000
set_option maxHeartbeats 1000000 in
theorem fscript_spec {h0 : Hp} (T : TabY h0) {a : Option Addr} {c : Nat} {xs : List ActF} (hx : slR h0 6 actF a xs) (hxl : xs.length ≤ 9223372036854775807) {y : AskV} (hy : ARd (ro h0) y) (lim : Int) (z : Rec) :
   Ct Tryz.prog 3 [.slice a xs.length c, quV y lim z] [ro h0] (fun v hs => v = .bool true ∧ hs = [ro h0]) := by
 have hTW : TabW (ro h0) := ⟨h0, T, Inn.refl⟩
 refine Cti Tryz.func3 (by kernel_rfl) 250 Tryz.ntmps3 rfl rfl fun w0 R => ?_
 refine Gs.slAddr ((Srd.ro hx).h (by repeat constructor)) fun ab ao ha => ?_
 refine Gsr (La rfl (ac_box rfl rfl) ?_)
 rintro _ _ ⟨qb, rfl, rfl⟩
 refine Las rfl rfl (Lnt (Gs.seq (Gsr (Lmv rfl rfl (La rfl (asC (great17_spec (Srd.ro hx) hxl 30)) ?_)))))
 rintro _ _ ⟨_, ⟨⟨g, rfl, hg⟩, rfl⟩, rfl⟩
 refine LpuB rfl rfl trivial (pu_move rfl) (fun hg2 => ?_) (fun hg2 => ?_)
 ·
  refine Lof rfl (Lof rfl (Lof rfl (Lpk rfl rfl rfl (Lmv rfl rfl (Lof rfl (Lof rfl (Lof rfl (Lof rfl (Lof rfl (Lpk rfl rfl rfl (Lnt ?_)))))))))))
  refine Gs.cond_t rfl (Gsr (La rfl (asC (awake17_spec T)) ?_))
  rintro _ _ ⟨_, ⟨rfl, rfl⟩, rfl⟩
  refine Las rfl rfl (Lnt (Gs.ret (Gr ?_)))
  exact Gs.fin1 Tryz.results3 rfl _ (⟨rfl, rfl⟩) (by repeat constructor)
 refine Lpu rfl rfl ⟨_, rfl, rfl⟩ (pu_fa fa_34_0 rfl) (Lrd rfl rfl ⟨_, rfl, rfl⟩ (rd_lda ag_26 rfl (Rdc.cl 4 (by repeat constructor) rfl) rfl) ?_)
 refine Lac rfl rfl ⟨_, rfl, rfl⟩ (asC (greatAsk_spec hy)) ?_
 rintro _ _ ⟨_, ⟨⟨g2, rfl, hga⟩, rfl⟩, rfl⟩
 refine Lpk rfl rfl rfl (LpuB rfl rfl trivial (pu_move rfl) (fun hg7 => ?_) (fun hg7 => ?_))
 ·
  refine Lof rfl (Lof rfl (Lof rfl (Lof rfl (Lof rfl (Lpk rfl rfl rfl (Lnt (Gs.cond_t rfl (Gsr (La rfl (asC (awake17_spec T)) ?_)))))))))
  rintro _ _ ⟨_, ⟨rfl, rfl⟩, rfl⟩
  refine Las rfl rfl (Lnt (Gs.ret (Gr ?_)))
  exact Gs.fin1 Tryz.results3 rfl _ (⟨rfl, rfl⟩) (by repeat constructor)
 refine Lpu rfl rfl ⟨_, rfl, rfl⟩ (pu_fa fa_34_2 rfl) (Lpu rfl rfl ⟨_, rfl, rfl⟩ (pu_fa fa_32_2 rfl) (Lrd rfl rfl ⟨_, rfl, rfl⟩ (rd_ld na_9 rfl (Rdc.cl1 (by repeat constructor) rfl)) ?_))
 refine Lpu rfl rfl ⟨_, rfl, rfl⟩ (pu_lenS Tryz.underlying9 rfl) (Lpu rfl rfl ⟨_, rfl, rfl⟩ (pu_gt rfl rfl) (Lpk rfl rfl rfl (Lnt (Gs.cond rfl (fun hc0 => ?_) (fun hc0 => ?_)))))
 ·
  refine Gsr (La rfl (asC (awake17_spec T)) ?_)
  rintro _ _ ⟨_, ⟨rfl, rfl⟩, rfl⟩
  refine Las rfl rfl (Lnt (Gs.ret (Gr ?_)))
  exact Gs.fin1 Tryz.results3 rfl _ (⟨rfl, rfl⟩) (by repeat constructor)
 have hxs : xs.length ≤ 30 := by have := hg hg2; omega
 obtain ⟨hF, hz0⟩ := hga hg7
 have hz : sizeA 13 y ≤ 1000 := by omega
 refine Gs.skip (Gn (Gsr (La rfl (asC (snew_spec)) ?_)))
 rintro _ _ ⟨_, ⟨x, rfl, rfl⟩, rfl⟩
 refine Lq rfl (pu_build bd_43 (by repeat constructor) rfl) ?_
 refine La rfl (ac_box rfl rfl) ?_
 rintro _ _ ⟨wb, rfl, rfl⟩
 refine Las rfl rfl (Las rfl rfl (Lnil (Gs.slNil 32 5 recC (Gs.rtClose (b := wb) (L := []) none 0 (by repeat constructor) ?_))))
 refine Gn (Gs.seq (Gsr (Lmv rfl rfl (Lq rfl (pu_eqN Tryz.underlying38 rfl rfl) (Lnt (Gs.cond_ff rfl rfl (Gs.skip (Gn (Gs.seq (Gsr (Las rfl rfl ?_)))))))))))
 refine Lnt (Gs.block (Gs.loop1 (fun s : Nat × List Rec => s.1 ≤ xs.length ∧ (s.2.map Rec.key).Nodup ∧ s.2.length ≤ s.1 ∧ ∀ r ∈ s.2, recB r = true) (fun s => [(0, .slice a xs.length c), (3, ptr qb), (5, ptr x), (6, ptr wb), (7, int s.1)]) (fun s => [shA x s.2, rt wb s.2, cl qb 34 (quC y lim z), ro h0] ++ R) (fun s => xs.length - s.1) (0, []) (⟨Nat.zero_le _, List.nodup_nil, Nat.zero_le _, fun _ h => (by cases h)⟩) (by repeat constructor) (by repeat constructor) (fun s hs => ?_)))
 obtain ⟨i, L⟩ := s
 obtain ⟨hi, hn, hLl, hmay⟩ := hs
 dsimp only at hi hn hLl hmay ⊢
 refine Gs.seq (Gsr (Lmv rfl rfl (Lmv rfl rfl (Lq rfl (pu_len Tryz.underlying22 rfl) (Lq rfl (pu_lt rfl rfl) (Lnt (Gs.cond rfl (fun hc2 => ?_) (fun hc2 => ?_))))))))
 ·
  have hlt : i < xs.length := by have := of_decide_eq_true hc2; omega
  obtain ⟨u, hu⟩ : ∃ u, xs[i]? = some u := ⟨xs[i], by simp [hlt]⟩
  obtain rfl := ha (by rintro rfl; simp at hlt)
  have hfl := actR_len L u
  have hnn := actR_nodup hn u
  have hmm := actR_may hmay u
  refine Gs.skip (Gn (Gs.seq (Gs.block (Gsr (Lmv rfl rfl (Lmv rfl rfl (Lq rfl (pu_ia se_22 rfl rfl (by omega) (by omega)) (Lq rfl (pu_fa fa_45_0 rfl) (Lr rfl (rd_ld na_4 rfl (Rdc.elp (f := 0) 1 ((Srd.ro hx).h (by repeat constructor)) hu rfl rfl)) ?_)))))))))
  refine Lnt (Gs.cond rfl (fun hc3 => ?_) (fun hc3 => ?_))
  ·
   have hst : actR L u = [u.r.key].foldl dropR L := by unfold actR; rw [show u.d = true from hc3]; rfl
   refine Gs.seq (Gs.regD mixed (by kernel_rfl) (Rmv 0 rfl (by kernel_rfl) rfl (Rmv 1 rfl (by kernel_rfl) rfl (Rmv 2 rfl (by kernel_rfl) rfl (Rq 3 rfl (by kernel_rfl) (pu_ia se_22 rfl rfl (by omega) (by omega)) (Rq 4 rfl (by kernel_rfl) (pu_fa fa_45_1 rfl) (Rq 5 rfl (by kernel_rfl) (pu_fa fa_32_0 rfl) (Rr 6 rfl (by kernel_rfl) (rd_lda ag_28 rfl (Rdc.elp (f := 1) 2 ((Srd.ro hx).h (by repeat constructor)) hu rfl rfl) rfl) ?_))))))))
   refine Rmv 9 rfl (by kernel_rfl) rfl (Rmv 10 rfl (by kernel_rfl) rfl (Rmv 11 rfl (by kernel_rfl) rfl (Rq 12 rfl (by kernel_rfl) (pu_ia se_22 rfl rfl (by omega) (by omega)) (Rq 13 rfl (by kernel_rfl) (pu_fa fa_45_1 rfl) (Rq 14 rfl (by kernel_rfl) (pu_fa fa_32_0 rfl) (Rr 15 rfl (by kernel_rfl) (rd_lda ag_28 rfl (Rdc.elp (f := 1) 2 ((Srd.ro hx).h (by repeat constructor)) hu rfl rfl) rfl) ?_))))))
   refine Rg.two (by kernel_rfl) (Stp.acK 7 rfl rfl (by kernel_rfl) trivial (ac_lit encC_28 ([u.r.key]) et_48 ek_28 rfl (by repeat constructor) rfl rfl (by decide)) (by rintro _ _ ⟨a56, rfl, rfl⟩ w s; first | exact s.drop | exact s | exact Ent.sat (by repeat constructor) s) ?_) (Stp.acK 16 rfl rfl (by kernel_rfl) trivial (ac_lit encC_28 ([u.r.key]) et_48 ek_28 rfl (by repeat constructor) rfl rfl (by decide)) (by rintro _ _ ⟨a65, rfl, rfl⟩ w s; first | exact s.drop | exact s | exact Ent.sat (by repeat constructor) s) ?_)
   ·
    rintro _ _ ⟨a56, rfl, rfl⟩
    refine Rg.two (by kernel_rfl) (Stp.acR 8 [15] rfl rfl (by kernel_rfl) trivial (asC (sdrop_spec x L (U := sl 28 2 keyC (some ⟨a56, 0, none⟩) 1 [u.r.key]) (a := some ⟨a56, 0, none⟩) (c := 1) (ks := [u.r.key]) Srd.own (Nat.le_of_ble_eq_true rfl))) (by rintro _ _ ⟨_, ⟨rfl, rfl⟩, rfl⟩; exact (Reads.cons rfl rfl rfl trivial rfl (rd_lda ag_28 rfl (Rdc.elp (f := 1) 2 ((Srd.ro hx).h (by repeat constructor)) hu rfl rfl) rfl) Reads.nil)) ?_) (Stp.ac 16 rfl rfl (by kernel_rfl) trivial (ac_lit encC_28 ([u.r.key]) et_48 ek_28 rfl (by repeat constructor) rfl rfl (by decide))  ?_)
    ·
     rintro _ _ ⟨_, ⟨rfl, rfl⟩, rfl⟩
     refine Rg.one (by kernel_rfl) (Stp.ac 16 rfl rfl (by kernel_rfl) trivial (ac_lit encC_28 ([u.r.key]) et_48 ek_28 rfl (by repeat constructor) rfl rfl (by decide))  ?_)
     rintro _ _ ⟨a65, rfl, rfl⟩
     refine Rg.one (by kernel_rfl) (Stp.ac 17 rfl rfl (by kernel_rfl) trivial (asC (rdrop_spec wb L hn (S := sl 28 2 keyC (some ⟨a65, 0, none⟩) 1 [u.r.key]) (a := some ⟨a65, 0, none⟩) (c := 1) (ks := [u.r.key]) Srd.own (by omega) (Nat.le_of_ble_eq_true rfl)))  ?_)
     rintro _ _ ⟨_, ⟨rfl, rfl⟩, rfl⟩
     refine Rq 18 rfl (by kernel_rfl) (pu_ne rfl rfl) (Rg.end (by kernel_rfl) ?_)
     rw [← hst]
     refine Gn (Gs.cond_ff rfl (decide_eq_false (fun h => h rfl)) ?_)
     refine Gs.skip (Gs.blk_n (Gn (Gs.reg (Lmv rfl rfl (Lq rfl (by first | exact pu_addI rfl rfl rfl (by omega) (by omega) | exact pu_add rfl rfl) ?_)))))
     refine Las rfl rfl (Lnt ?_)
     exact Ag (i + 1, actR L u) ⟨hlt, hnn, by show (actR L u).length ≤ i + 1; omega, hmm⟩ (by show xs.length - (i + 1) < xs.length - i; omega)
    rintro _ _ ⟨a65, rfl, rfl⟩
    refine Rg.one (by kernel_rfl) (Stp.ac 8 rfl rfl (by kernel_rfl) trivial (asC (sdrop_spec x L (U := sl 28 2 keyC (some ⟨a56, 0, none⟩) 1 [u.r.key]) (a := some ⟨a56, 0, none⟩) (c := 1) (ks := [u.r.key]) Srd.own (Nat.le_of_ble_eq_true rfl)))  ?_)
    rintro _ _ ⟨_, ⟨rfl, rfl⟩, rfl⟩
    refine Rg.one (by kernel_rfl) (Stp.ac 17 rfl rfl (by kernel_rfl) trivial (asC (rdrop_spec wb L hn (S := sl 28 2 keyC (some ⟨a65, 0, none⟩) 1 [u.r.key]) (a := some ⟨a65, 0, none⟩) (c := 1) (ks := [u.r.key]) Srd.own (by omega) (Nat.le_of_ble_eq_true rfl)))  ?_)
    rintro _ _ ⟨_, ⟨rfl, rfl⟩, rfl⟩
    refine Rq 18 rfl (by kernel_rfl) (pu_ne rfl rfl) (Rg.end (by kernel_rfl) ?_)
    rw [← hst]
    refine Gn (Gs.cond_ff rfl (decide_eq_false (fun h => h rfl)) ?_)
    refine Gs.skip (Gs.blk_n (Gn (Gs.reg (Lmv rfl rfl (Lq rfl (by first | exact pu_addI rfl rfl rfl (by omega) (by omega) | exact pu_add rfl rfl) ?_)))))
    refine Las rfl rfl (Lnt ?_)
    exact Ag (i + 1, actR L u) ⟨hlt, hnn, by show (actR L u).length ≤ i + 1; omega, hmm⟩ (by show xs.length - (i + 1) < xs.length - i; omega)
   rintro _ _ ⟨a65, rfl, rfl⟩
   refine Rg.one (by kernel_rfl) (Stp.ac 7 rfl rfl (by kernel_rfl) trivial (ac_lit encC_28 ([u.r.key]) et_48 ek_28 rfl (by repeat constructor) rfl rfl (by decide))  ?_)
   rintro _ _ ⟨a56, rfl, rfl⟩
   refine Rg.one (by kernel_rfl) (Stp.ac 8 rfl rfl (by kernel_rfl) trivial (asC (sdrop_spec x L (U := sl 28 2 keyC (some ⟨a56, 0, none⟩) 1 [u.r.key]) (a := some ⟨a56, 0, none⟩) (c := 1) (ks := [u.r.key]) Srd.own (Nat.le_of_ble_eq_true rfl)))  ?_)
   rintro _ _ ⟨_, ⟨rfl, rfl⟩, rfl⟩
   refine Rg.one (by kernel_rfl) (Stp.ac 17 rfl rfl (by kernel_rfl) trivial (asC (rdrop_spec wb L hn (S := sl 28 2 keyC (some ⟨a65, 0, none⟩) 1 [u.r.key]) (a := some ⟨a65, 0, none⟩) (c := 1) (ks := [u.r.key]) Srd.own (by omega) (Nat.le_of_ble_eq_true rfl)))  ?_)
   rintro _ _ ⟨_, ⟨rfl, rfl⟩, rfl⟩
   refine Rq 18 rfl (by kernel_rfl) (pu_ne rfl rfl) (Rg.end (by kernel_rfl) ?_)
   rw [← hst]
   refine Gn (Gs.cond_ff rfl (decide_eq_false (fun h => h rfl)) ?_)
   refine Gs.skip (Gs.blk_n (Gn (Gs.reg (Lmv rfl rfl (Lq rfl (by first | exact pu_addI rfl rfl rfl (by omega) (by omega) | exact pu_add rfl rfl) ?_)))))
   refine Las rfl rfl (Lnt ?_)
   exact Ag (i + 1, actR L u) ⟨hlt, hnn, by show (actR L u).length ≤ i + 1; omega, hmm⟩ (by show xs.length - (i + 1) < xs.length - i; omega)
  have hst : actR L u = [u.r].foldl putR L := by unfold actR; rw [show u.d = false from hc3]; rfl
  refine Gs.seq (Gs.regD mixed (by kernel_rfl) (Rmv 0 rfl (by kernel_rfl) rfl (Rmv 1 rfl (by kernel_rfl) rfl (Rmv 2 rfl (by kernel_rfl) rfl (Rq 3 rfl (by kernel_rfl) (pu_ia se_22 rfl rfl (by omega) (by omega)) (Rq 4 rfl (by kernel_rfl) (pu_fa fa_45_1 rfl) (Rr 5 rfl (by kernel_rfl) (rd_lda ag_32 rfl (Rdc.elp (f := 1) 5 ((Srd.ro hx).h (by repeat constructor)) hu rfl rfl) rfl) ?_)))))))
  refine Rmv 8 rfl (by kernel_rfl) rfl (Rmv 9 rfl (by kernel_rfl) rfl (Rmv 10 rfl (by kernel_rfl) rfl (Rq 11 rfl (by kernel_rfl) (pu_ia se_22 rfl rfl (by omega) (by omega)) (Rq 12 rfl (by kernel_rfl) (pu_fa fa_45_1 rfl) (Rr 13 rfl (by kernel_rfl) (rd_lda ag_32 rfl (Rdc.elp (f := 1) 5 ((Srd.ro hx).h (by repeat constructor)) hu rfl rfl) rfl) ?_)))))
  refine Rg.two (by kernel_rfl) (Stp.acK 6 rfl rfl (by kernel_rfl) trivial (ac_lit encC_32 ([u.r]) et_41 ek_32 rfl (by repeat constructor) rfl rfl (by decide)) (by rintro _ _ ⟨a74, rfl, rfl⟩ w s; first | exact s.drop | exact s | exact Ent.sat (by repeat constructor) s) ?_) (Stp.acK 14 rfl rfl (by kernel_rfl) trivial (ac_lit encC_32 ([u.r]) et_41 ek_32 rfl (by repeat constructor) rfl rfl (by decide)) (by rintro _ _ ⟨a82, rfl, rfl⟩ w s; first | exact s.drop | exact s | exact Ent.sat (by repeat constructor) s) ?_)
  ·
   rintro _ _ ⟨a74, rfl, rfl⟩
   refine Rg.two (by kernel_rfl) (Stp.acR 7 [13] rfl rfl (by kernel_rfl) trivial (asC (Ct.twoR (sput_spec (S := two (ro h0) (rsA (some ⟨a74, 0, none⟩) 1 [u.r])) (hTW.u.inn Inn.two1) x L (a := some ⟨a74, 0, none⟩) (c := 1) (ys := [u.r]) (Srd.two2 Srd.own) (by show L.length + 1 ≤ 800; omega)))) (by rintro _ _ ⟨_, ⟨_, ⟨rfl, rfl⟩, rfl⟩, rfl⟩; exact (Reads.cons rfl rfl rfl trivial rfl (rd_lda ag_32 rfl (Rdc.elp (f := 1) 5 ((Srd.ro hx).h (by repeat constructor)) hu rfl rfl) rfl) Reads.nil)) ?_) (Stp.ac 14 rfl rfl (by kernel_rfl) trivial (ac_lit encC_32 ([u.r]) et_41 ek_32 rfl (by repeat constructor) rfl rfl (by decide))  ?_)
   ·
    rintro _ _ ⟨_, ⟨_, ⟨rfl, rfl⟩, rfl⟩, rfl⟩
    refine Rg.one (by kernel_rfl) (Stp.ac 14 rfl rfl (by kernel_rfl) trivial (ac_lit encC_32 ([u.r]) et_41 ek_32 rfl (by repeat constructor) rfl rfl (by decide))  ?_)
    rintro _ _ ⟨a82, rfl, rfl⟩
    refine Rg.one (by kernel_rfl) (Stp.ac 15 rfl rfl (by kernel_rfl) trivial (asC (Ct.twoR (rput_spec (S := two (ro h0) (rsA (some ⟨a82, 0, none⟩) 1 [u.r])) (hTW.u.inn Inn.two1) wb L (a := some ⟨a82, 0, none⟩) (c := 1) (ys := [u.r]) (Srd.two2 Srd.own) (by show L.length + 1 ≤ 1000; omega))))  ?_)
    rintro _ _ ⟨_, ⟨_, ⟨rfl, rfl⟩, rfl⟩, rfl⟩
    refine Rq 16 rfl (by kernel_rfl) (pu_ne rfl rfl) (Rg.end (by kernel_rfl) ?_)
    rw [← hst]
    refine Gn (Gs.cond_ff rfl (decide_eq_false (fun h => h rfl)) ?_)
    refine Gs.skip (Gs.blk_n (Gn (Gs.reg (Lmv rfl rfl (Lq rfl (by first | exact pu_addI rfl rfl rfl (by omega) (by omega) | exact pu_add rfl rfl) ?_)))))
    refine Las rfl rfl (Lnt ?_)
    exact Ag (i + 1, actR L u) ⟨hlt, hnn, by show (actR L u).length ≤ i + 1; omega, hmm⟩ (by show xs.length - (i + 1) < xs.length - i; omega)
   rintro _ _ ⟨a82, rfl, rfl⟩
   refine Rg.one (by kernel_rfl) (Stp.ac 7 rfl rfl (by kernel_rfl) trivial (asC (Ct.twoR (sput_spec (S := two (ro h0) (rsA (some ⟨a74, 0, none⟩) 1 [u.r])) (hTW.u.inn Inn.two1) x L (a := some ⟨a74, 0, none⟩) (c := 1) (ys := [u.r]) (Srd.two2 Srd.own) (by show L.length + 1 ≤ 800; omega))))  ?_)
   rintro _ _ ⟨_, ⟨_, ⟨rfl, rfl⟩, rfl⟩, rfl⟩
   refine Rg.one (by kernel_rfl) (Stp.ac 15 rfl rfl (by kernel_rfl) trivial (asC (Ct.twoR (rput_spec (S := two (ro h0) (rsA (some ⟨a82, 0, none⟩) 1 [u.r])) (hTW.u.inn Inn.two1) wb L (a := some ⟨a82, 0, none⟩) (c := 1) (ys := [u.r]) (Srd.two2 Srd.own) (by show L.length + 1 ≤ 1000; omega))))  ?_)
   rintro _ _ ⟨_, ⟨_, ⟨rfl, rfl⟩, rfl⟩, rfl⟩
   refine Rq 16 rfl (by kernel_rfl) (pu_ne rfl rfl) (Rg.end (by kernel_rfl) ?_)
   rw [← hst]
   refine Gn (Gs.cond_ff rfl (decide_eq_false (fun h => h rfl)) ?_)
   refine Gs.skip (Gs.blk_n (Gn (Gs.reg (Lmv rfl rfl (Lq rfl (by first | exact pu_addI rfl rfl rfl (by omega) (by omega) | exact pu_add rfl rfl) ?_)))))
   refine Las rfl rfl (Lnt ?_)
   exact Ag (i + 1, actR L u) ⟨hlt, hnn, by show (actR L u).length ≤ i + 1; omega, hmm⟩ (by show xs.length - (i + 1) < xs.length - i; omega)
  rintro _ _ ⟨a82, rfl, rfl⟩
  refine Rg.one (by kernel_rfl) (Stp.ac 6 rfl rfl (by kernel_rfl) trivial (ac_lit encC_32 ([u.r]) et_41 ek_32 rfl (by repeat constructor) rfl rfl (by decide))  ?_)
  rintro _ _ ⟨a74, rfl, rfl⟩
  refine Rg.one (by kernel_rfl) (Stp.ac 7 rfl rfl (by kernel_rfl) trivial (asC (Ct.twoR (sput_spec (S := two (ro h0) (rsA (some ⟨a74, 0, none⟩) 1 [u.r])) (hTW.u.inn Inn.two1) x L (a := some ⟨a74, 0, none⟩) (c := 1) (ys := [u.r]) (Srd.two2 Srd.own) (by show L.length + 1 ≤ 800; omega))))  ?_)
  rintro _ _ ⟨_, ⟨_, ⟨rfl, rfl⟩, rfl⟩, rfl⟩
  refine Rg.one (by kernel_rfl) (Stp.ac 15 rfl rfl (by kernel_rfl) trivial (asC (Ct.twoR (rput_spec (S := two (ro h0) (rsA (some ⟨a82, 0, none⟩) 1 [u.r])) (hTW.u.inn Inn.two1) wb L (a := some ⟨a82, 0, none⟩) (c := 1) (ys := [u.r]) (Srd.two2 Srd.own) (by show L.length + 1 ≤ 1000; omega))))  ?_)
  rintro _ _ ⟨_, ⟨_, ⟨rfl, rfl⟩, rfl⟩, rfl⟩
  refine Rq 16 rfl (by kernel_rfl) (pu_ne rfl rfl) (Rg.end (by kernel_rfl) ?_)
  rw [← hst]
  refine Gn (Gs.cond_ff rfl (decide_eq_false (fun h => h rfl)) ?_)
  refine Gs.skip (Gs.blk_n (Gn (Gs.reg (Lmv rfl rfl (Lq rfl (by first | exact pu_addI rfl rfl rfl (by omega) (by omega) | exact pu_add rfl rfl) ?_)))))
  refine Las rfl rfl (Lnt ?_)
  exact Ag (i + 1, actR L u) ⟨hlt, hnn, by show (actR L u).length ≤ i + 1; omega, hmm⟩ (by show xs.length - (i + 1) < xs.length - i; omega)
 have hge : i = xs.length := by have := of_decide_eq_false hc2; omega
 have hL30 : L.length ≤ 30 := by omega
 refine Gs.rtOpen (by repeat constructor) fun ka kc => ?_
 refine Gs.slAddr (SlH.own (xs := L) (E := 32) (enc := recC) (a := ka) (c := kc) (by repeat constructor)) fun lb lo hla => ?_
 refine Gs.exit (Gx (Gx (Gs.blk_hit (Gn (Gsr (Las rfl rfl (Lnil (Gs.slNil 32 5 recC (Gn (Gsr (Las rfl rfl ?_)))))))))))
 refine Lnil (Gs.slNil 28 2 keyC (Gn (Gs.seq (Gsr (Las rfl rfl (Lnt (Gs.block (Gs.loop1 (fun s : Nat × ((Option Addr × Nat) × List Rec) × (Option Addr × Nat) × List Key => s.1 ≤ L.length ∧ AscK (s.2.1.2.map Rec.key) ∧ List.Perm s.2.1.2 (L.take s.1) ∧ IsK (L.take s.1) (HoldsB 13 y) s.2.2.2) (fun s => [(3, ptr qb), (5, ptr x), (6, ptr wb), (8, .slice s.2.1.1.1 s.2.1.2.length s.2.1.1.2), (9, .slice s.2.2.1.1 s.2.2.2.length s.2.2.1.2), (10, int s.1)]) (fun s => [shA x L, cl wb 43 (rtC ka L kc), sl 32 5 recC ka kc L, cl qb 34 (quC y lim z), ro h0, rsA s.2.1.1.1 s.2.1.1.2 s.2.1.2, sl 28 2 keyC s.2.2.1.1 s.2.2.1.2 s.2.2.2] ++ R) (fun s => L.length - s.1) (0, ((none, 0), []), (none, 0), []) (⟨Nat.zero_le _, List.Pairwise.nil, List.Perm.refl _, IsK.none⟩) (by repeat constructor) (by repeat constructor) (fun s hs1 => ?_)))))))))
 obtain ⟨j, ⟨⟨ma, mc⟩, M⟩, ⟨na, nc⟩, K⟩ := s
 obtain ⟨hj, hM, hP, hK⟩ := hs1
 dsimp only at hj hM hP hK ⊢
 have hMl : M.length = j := by rw [hP.length_eq, List.length_take]; omega
 have hKl : K.length ≤ j := by have := hK.len; rw [List.length_take] at this; omega
 refine Gs.seq (Gsr (Lmv rfl rfl (Lmv rfl rfl (Lq rfl (by first | exact pu_nil rfl | exact pu_nilF rfl) ?_))))
 refine Lq rfl (pu_fa fa_43_0 rfl) (Lr rfl (rd_ld na_41 rfl (Rdc.cl1 (by repeat constructor) rfl)) ?_)
 refine Lq rfl (pu_len Tryz.underlying41 rfl) (Lq rfl (pu_lt rfl rfl) (Lnt (Gs.cond rfl (fun hc6 => ?_) (fun hc6 => ?_))))
 ·
  have hlt : j < L.length := by have := of_decide_eq_true hc6; omega
  obtain ⟨r, hr⟩ : ∃ r, L[j]? = some r := ⟨L[j], by simp [hlt]⟩
  obtain rfl := hla (by rintro rfl; simp at hlt)
  have hrm : r ∈ L := List.mem_of_getElem? hr
  have hni := not_in_take hn hr hP
  have htk := take_snoc hr
  refine Gs.slAddr (SlH.own (xs := M) (E := 32) (enc := recC) (a := ma) (c := mc) (by repeat constructor)) fun mb mo hma => ?_
  refine Gs.slLen (E := 32) (sz := 5) (enc := recC) (a := ma) (c := mc) (xs := M) (by repeat constructor) fun hlc => ?_
  refine Gs.skip (Gn (Gs.seq (Gs.block (Gsr (Las rfl rfl (Lnt (Gs.seq (Gs.cutS (σ := CutK M r) (fun k : CutK M r => [(3, ptr qb), (5, ptr x), (6, ptr wb), (8, .slice k.1.2 M.length mc), (9, .slice na K.length nc), (10, int j), (11, int k.1.1)]) (fun k : CutK M r => [shA x L, cl wb 43 (rtC (some ⟨lb, lo, none⟩) L kc), sl 32 5 recC (some ⟨lb, lo, none⟩) kc L, cl qb 34 (quC y lim z), ro h0, rsA k.1.2 mc M, sl 28 2 keyC na nc K] ++ R) ?_ ?_))))))))
  ·
   refine Gs.block (Gs.loop1 (fun k : Nat => k ≤ M.length ∧ (∀ y ∈ M.take k, before y.key r.key = true)) (fun k => [(3, ptr qb), (5, ptr x), (6, ptr wb), (8, .slice ma M.length mc), (9, .slice na K.length nc), (10, int j), (11, int k)]) (fun k => [shA x L, cl wb 43 (rtC (some ⟨lb, lo, none⟩) L kc), sl 32 5 recC (some ⟨lb, lo, none⟩) kc L, cl qb 34 (quC y lim z), ro h0, rsA ma mc M, sl 28 2 keyC na nc K] ++ R) (fun k => M.length - k) 0 (⟨Nat.zero_le _, fun _ h => (by cases h)⟩) (by repeat constructor) (by repeat constructor) (fun k ⟨hkl, hk1⟩ => ?_))
   refine Gs.seq (Gs.seq (Gs.regD mixed (by kernel_rfl) (Rmv 0 rfl (by kernel_rfl) rfl (Rmv 1 rfl (by kernel_rfl) rfl (Rq 2 rfl (by kernel_rfl) (pu_len Tryz.underlying41 rfl) (Rq 3 rfl (by kernel_rfl) (pu_lt rfl rfl) (Rg.puB 4 rfl rfl (by kernel_rfl) trivial (pu_move rfl) (fun hg4 => ?_) (fun hg4 => ?_))))))))
   ·
    have hkt : k < M.length := by have := of_decide_eq_true hg4; omega
    obtain ⟨p, hp⟩ : ∃ p, M[k]? = some p := ⟨M[k], by simp [hkt]⟩
    obtain rfl := hma (by rintro rfl; simp at hkt)
    have hne : r.key ≠ p.key := fun e => hni (e ▸ List.mem_map.2 ⟨p, List.mem_of_getElem? hp, rfl⟩)
    have h2l := into_one_len hne
    obtain ⟨k0, hk0⟩ : ∃ k0, (intoL [p.key] r.key)[0]? = some k0 := ⟨(intoL [p.key] r.key)[0]'(by omega), by simp [h2l]⟩
    have hhd := into_one_head hne hk0
    refine Rg.pu 5 rfl rfl (by kernel_rfl) ⟨_, rfl, rfl⟩ (pu_move rfl) (Rg.pu 6 rfl rfl (by kernel_rfl) ⟨_, rfl, rfl⟩ (pu_move rfl) (Rg.pu 7 rfl rfl (by kernel_rfl) ⟨_, rfl, rfl⟩ (pu_ia se_41 rfl rfl (by omega) (by omega)) (Rg.pu 8 rfl rfl (by kernel_rfl) ⟨_, rfl, rfl⟩ (pu_fa fa_32_0 rfl) (Rg.rd 9 rfl rfl (by kernel_rfl) ⟨_, rfl, rfl⟩ (rd_lda ag_28 rfl (Rdc.elp (f := 0) 2 (SlH.own (xs := M) (E := 32) (enc := recC) (sz := 5) (by repeat constructor)) hp rfl rfl) rfl) ?_))))
    refine Rg.pu 11 rfl rfl (by kernel_rfl) ⟨_, rfl, rfl⟩ (pu_move rfl) (Rg.pu 12 rfl rfl (by kernel_rfl) ⟨_, rfl, rfl⟩ (by first | exact pu_nil rfl | exact pu_nilF rfl) ?_)
    refine Rg.pu 13 rfl rfl (by kernel_rfl) ⟨_, rfl, rfl⟩ (pu_fa fa_43_0 rfl) (Rg.rd 14 rfl rfl (by kernel_rfl) ⟨_, rfl, rfl⟩ (rd_ld na_41 rfl (Rdc.cl1 (by repeat constructor) rfl)) ?_)
    refine Rg.pu 15 rfl rfl (by kernel_rfl) ⟨_, rfl, rfl⟩ (pu_move rfl) (Rg.pu 16 rfl rfl (by kernel_rfl) ⟨_, rfl, rfl⟩ (pu_ia se_41 rfl rfl (by omega) (by omega)) (Rg.pu 17 rfl rfl (by kernel_rfl) ⟨_, rfl, rfl⟩ (pu_fa fa_32_0 rfl) (Rg.rd 18 rfl rfl (by kernel_rfl) ⟨_, rfl, rfl⟩ (rd_lda ag_28 rfl (Rdc.elp (f := 0) 2 (SlH.own (xs := L) (E := 32) (enc := recC) (sz := 5) (by repeat constructor)) hr rfl rfl) rfl) ?_)))
    refine Rg.one (by kernel_rfl) (Stp.acK 10 rfl rfl (by kernel_rfl) ⟨_, rfl, rfl⟩ (ac_lit encC_28 ([p.key]) et_48 ek_28 rfl (by repeat constructor) rfl rfl (by decide)) (by rintro _ _ ⟨a104, rfl, rfl⟩ w s; first | exact s.drop | exact s | exact Ent.sat (by repeat constructor) s) ?_)
    rintro _ _ ⟨a104, rfl, rfl⟩
    refine Rg.one (by kernel_rfl) (Stp.ac 19 rfl rfl (by kernel_rfl) ⟨_, rfl, rfl⟩ (asC (into1_spec (some ⟨a104, 0, none⟩) p.key r.key))  ?_)
    rintro _ _ ⟨_, ⟨b1, o1, c1, rfl, rfl⟩, rfl⟩
    refine Rg.pu 20 rfl rfl (by kernel_rfl) ⟨_, rfl, rfl⟩ (pu_len Tryz.underlying48 rfl) (Rg.pu 21 rfl rfl (by kernel_rfl) ⟨_, rfl, rfl⟩ (pu_eq rfl rfl) (Rpk 22 rfl (by kernel_rfl) rfl rfl (Rg.puB 23 rfl rfl (by kernel_rfl) trivial (pu_move rfl) (fun hg23 => ?_) (fun hg23 => ?_))))
    ·
     refine Rg.pu 24 rfl rfl (by kernel_rfl) ⟨_, rfl, rfl⟩ (pu_move rfl) (Rg.pu 25 rfl rfl (by kernel_rfl) ⟨_, rfl, rfl⟩ (pu_move rfl) (Rg.pu 26 rfl rfl (by kernel_rfl) ⟨_, rfl, rfl⟩ (pu_ia se_41 rfl rfl (by omega) (by omega)) (Rg.pu 27 rfl rfl (by kernel_rfl) ⟨_, rfl, rfl⟩ (pu_fa fa_32_0 rfl) (Rg.rd 28 rfl rfl (by kernel_rfl) ⟨_, rfl, rfl⟩ (rd_lda ag_28 rfl (Rdc.elp (f := 0) 2 (SlH.own (xs := M) (E := 32) (enc := recC) (sz := 5) (by repeat constructor)) hp rfl rfl) rfl) ?_))))
     refine Rg.pu 30 rfl rfl (by kernel_rfl) ⟨_, rfl, rfl⟩ (pu_move rfl) (Rg.pu 31 rfl rfl (by kernel_rfl) ⟨_, rfl, rfl⟩ (by first | exact pu_nil rfl | exact pu_nilF rfl) ?_)
     refine Rg.pu 32 rfl rfl (by kernel_rfl) ⟨_, rfl, rfl⟩ (pu_fa fa_43_0 rfl) (Rg.rd 33 rfl rfl (by kernel_rfl) ⟨_, rfl, rfl⟩ (rd_ld na_41 rfl (Rdc.cl1 (by repeat constructor) rfl)) ?_)
     refine Rg.pu 34 rfl rfl (by kernel_rfl) ⟨_, rfl, rfl⟩ (pu_move rfl) (Rg.pu 35 rfl rfl (by kernel_rfl) ⟨_, rfl, rfl⟩ (pu_ia se_41 rfl rfl (by omega) (by omega)) (Rg.pu 36 rfl rfl (by kernel_rfl) ⟨_, rfl, rfl⟩ (pu_fa fa_32_0 rfl) (Rg.rd 37 rfl rfl (by kernel_rfl) ⟨_, rfl, rfl⟩ (rd_lda ag_28 rfl (Rdc.elp (f := 0) 2 (SlH.own (xs := L) (E := 32) (enc := recC) (sz := 5) (by repeat constructor)) hr rfl rfl) rfl) ?_)))
     refine Rg.pu 41 rfl rfl (by kernel_rfl) ⟨_, rfl, rfl⟩ (pu_move rfl) (Rg.pu 42 rfl rfl (by kernel_rfl) ⟨_, rfl, rfl⟩ (pu_move rfl) (Rg.pu 43 rfl rfl (by kernel_rfl) ⟨_, rfl, rfl⟩ (pu_ia se_41 rfl rfl (by omega) (by omega)) (Rg.pu 44 rfl rfl (by kernel_rfl) ⟨_, rfl, rfl⟩ (pu_fa fa_32_0 rfl) (Rg.rd 45 rfl rfl (by kernel_rfl) ⟨_, rfl, rfl⟩ (rd_lda ag_28 rfl (Rdc.elp (f := 0) 2 (SlH.own (xs := M) (E := 32) (enc := recC) (sz := 5) (by repeat constructor)) hp rfl rfl) rfl) ?_))))
     refine Rg.one (by kernel_rfl) (Stp.acK 29 rfl rfl (by kernel_rfl) ⟨_, rfl, rfl⟩ (ac_lit encC_28 ([p.key]) et_48 ek_28 rfl (by repeat constructor) rfl rfl (by decide)) (by rintro _ _ ⟨a123, rfl, rfl⟩ w s; first | exact s.drop | exact s | exact Ent.sat (by repeat constructor) s) ?_)
     rintro _ _ ⟨a123, rfl, rfl⟩
     refine Rg.one (by kernel_rfl) (Stp.acR 38 [45] rfl rfl (by kernel_rfl) ⟨_, rfl, rfl⟩ (asC (into1_spec (some ⟨a123, 0, none⟩) p.key r.key)) (by rintro _ _ ⟨_, ⟨b2, o2, c2, rfl, rfl⟩, rfl⟩; exact (Reads.cons rfl rfl rfl ⟨_, rfl, rfl⟩ rfl (rd_lda ag_28 rfl (Rdc.elp (f := 0) 2 (SlH.own (xs := M) (E := 32) (enc := recC) (sz := 5) (by repeat constructor)) hp rfl rfl) rfl) Reads.nil)) ?_)
     rintro _ _ ⟨_, ⟨b2, o2, c2, rfl, rfl⟩, rfl⟩
     refine Rg.pu 39 rfl rfl (by kernel_rfl) ⟨_, rfl, rfl⟩ (pu_ia se_48 rfl rfl (by omega) (by omega)) (Rg.rd 40 rfl rfl (by kernel_rfl) ⟨_, rfl, rfl⟩ (rd_lda ag_28 rfl (Rdc.el0 (SlH.own (xs := intoL [p.key] r.key) (E := 28) (enc := keyC) (sz := 2) (a := some ⟨b2, o2, none⟩) (by repeat constructor)) hk0 rfl rfl) rfl) ?_)
     refine Rg.pu 46 rfl rfl (by kernel_rfl) ⟨_, rfl, rfl⟩ (pu_eqT (a := k0) (b := p.key) cmp_28 (by decide) Tryz.eqGuardType28 rfl rfl) ?_
     refine Rpk 47 rfl (by kernel_rfl) rfl rfl (Rg.end (by kernel_rfl) (Gn (Gs.cond rfl (fun hc7 => ?_) (fun hc7 => ?_))))
     ·
      have hkp : before p.key r.key = true := hhd.1 (of_decide_eq_true hc7)
      refine Gs.skip (Gn (Gs.block (Gs.reg (Lmv rfl rfl (Lq rfl (by first | exact pu_addI rfl rfl rfl (by omega) (by omega) | exact pu_add rfl rfl) ?_)))))
      refine Las rfl rfl (Lnil (Gs.blk_n (Gn ?_)))
      exact Gs.again1 (k + 1) ⟨hkt, fun y hy => by
        rw [take_snoc hp] at hy
        rcases List.mem_append.1 hy with hy | hy
        · exact hk1 y hy
        · rw [List.mem_singleton.1 hy]; exact hkp⟩ (by omega) (by repeat constructor) (by repeat constructor)
     have hkp : before p.key r.key = false := by
       cases h : before p.key r.key with
       | false => rfl
       | true => exact absurd (hhd.2 h) (of_decide_eq_false hc7)
     have hex : k ≤ M.length ∧ (∀ y ∈ M.take k, before y.key r.key = true) ∧ (∀ y, M[k]? = some y → before y.key r.key = false) := ⟨hkl, hk1, fun y hy => by rw [hp] at hy; cases hy; exact hkp⟩
     refine Gs.exit (Gx (Gx (Gs.blk_hit (Gn (Gs.cutEndS (E := fun k : CutK M r => [(3, ptr qb), (5, ptr x), (6, ptr wb), (8, .slice k.1.2 M.length mc), (9, .slice na K.length nc), (10, int j), (11, int k.1.1)]) (I := fun k : CutK M r => [shA x L, cl wb 43 (rtC (some ⟨lb, lo, none⟩) L kc), sl 32 5 recC (some ⟨lb, lo, none⟩) kc L, cl qb 34 (quC y lim z), ro h0, rsA k.1.2 mc M, sl 28 2 keyC na nc K] ++ R) (by first | exact ⟨(k, ma), hex⟩ | exact ⟨(k, some ⟨mb, mo, none⟩), hex⟩) ?_ ?_)))))
     · repeat constructor
     · repeat constructor
    have hex : k ≤ M.length ∧ (∀ y ∈ M.take k, before y.key r.key = true) ∧ (∀ y, M[k]? = some y → before y.key r.key = false) := absurd hg23 (by rw [h2l]; decide)
    refine Rof 24 rfl (by kernel_rfl) rfl (Rof 25 rfl (by kernel_rfl) rfl (Rof 26 rfl (by kernel_rfl) rfl (Rof 27 rfl (by kernel_rfl) rfl (Rof 28 rfl (by kernel_rfl) rfl (Rof 29 rfl (by kernel_rfl) rfl (Rof 30 rfl (by kernel_rfl) rfl (Rof 31 rfl (by kernel_rfl) rfl (Rof 32 rfl (by kernel_rfl) rfl (Rof 33 rfl (by kernel_rfl) rfl (Rof 34 rfl (by kernel_rfl) rfl (Rof 35 rfl (by kernel_rfl) rfl ?_)))))))))))
    refine Rof 36 rfl (by kernel_rfl) rfl (Rof 37 rfl (by kernel_rfl) rfl (Rof 38 rfl (by kernel_rfl) rfl (Rof 39 rfl (by kernel_rfl) rfl (Rof 40 rfl (by kernel_rfl) rfl (Rof 41 rfl (by kernel_rfl) rfl (Rof 42 rfl (by kernel_rfl) rfl (Rof 43 rfl (by kernel_rfl) rfl (Rof 44 rfl (by kernel_rfl) rfl (Rof 45 rfl (by kernel_rfl) rfl (Rof 46 rfl (by kernel_rfl) rfl (Rpk 47 rfl (by kernel_rfl) rfl rfl ?_)))))))))))
    refine Rg.end (by kernel_rfl) (Gn (Gs.cond_f rfl (Gs.exit (Gx (Gx (Gs.blk_hit (Gn (Gs.cutEndS (E := fun k : CutK M r => [(3, ptr qb), (5, ptr x), (6, ptr wb), (8, .slice k.1.2 M.length mc), (9, .slice na K.length nc), (10, int j), (11, int k.1.1)]) (I := fun k : CutK M r => [shA x L, cl wb 43 (rtC (some ⟨lb, lo, none⟩) L kc), sl 32 5 recC (some ⟨lb, lo, none⟩) kc L, cl qb 34 (quC y lim z), ro h0, rsA k.1.2 mc M, sl 28 2 keyC na nc K] ++ R) (by first | exact ⟨(k, ma), hex⟩ | exact ⟨(k, some ⟨mb, mo, none⟩), hex⟩) ?_ ?_))))))))
    · repeat constructor
    · repeat constructor
   have hke : k = M.length := by have := of_decide_eq_false hg4; omega
   have hex : k ≤ M.length ∧ (∀ y ∈ M.take k, before y.key r.key = true) ∧ (∀ y, M[k]? = some y → before y.key r.key = false) := ⟨hkl, hk1, fun y hy => by rw [hke] at hy; simp at hy⟩
   refine Rof 5 rfl (by kernel_rfl) rfl (Rof 6 rfl (by kernel_rfl) rfl (Rof 7 rfl (by kernel_rfl) rfl (Rof 8 rfl (by kernel_rfl) rfl (Rof 9 rfl (by kernel_rfl) rfl (Rof 10 rfl (by kernel_rfl) rfl (Rof 11 rfl (by kernel_rfl) rfl (Rof 12 rfl (by kernel_rfl) rfl (Rof 13 rfl (by kernel_rfl) rfl (Rof 14 rfl (by kernel_rfl) rfl (Rof 15 rfl (by kernel_rfl) rfl (Rof 16 rfl (by kernel_rfl) rfl ?_)))))))))))
   refine Rof 17 rfl (by kernel_rfl) rfl (Rof 18 rfl (by kernel_rfl) rfl (Rof 19 rfl (by kernel_rfl) rfl (Rof 20 rfl (by kernel_rfl) rfl (Rof 21 rfl (by kernel_rfl) rfl (Rpk 22 rfl (by kernel_rfl) rfl rfl (Rmv 23 rfl (by kernel_rfl) rfl (Rof 24 rfl (by kernel_rfl) rfl (Rof 25 rfl (by kernel_rfl) rfl (Rof 26 rfl (by kernel_rfl) rfl (Rof 27 rfl (by kernel_rfl) rfl (Rof 28 rfl (by kernel_rfl) rfl ?_)))))))))))
   refine Rof 29 rfl (by kernel_rfl) rfl (Rof 30 rfl (by kernel_rfl) rfl (Rof 31 rfl (by kernel_rfl) rfl (Rof 32 rfl (by kernel_rfl) rfl (Rof 33 rfl (by kernel_rfl) rfl (Rof 34 rfl (by kernel_rfl) rfl (Rof 35 rfl (by kernel_rfl) rfl (Rof 36 rfl (by kernel_rfl) rfl (Rof 37 rfl (by kernel_rfl) rfl (Rof 38 rfl (by kernel_rfl) rfl (Rof 39 rfl (by kernel_rfl) rfl (Rof 40 rfl (by kernel_rfl) rfl ?_)))))))))))
   refine Rof 41 rfl (by kernel_rfl) rfl (Rof 42 rfl (by kernel_rfl) rfl (Rof 43 rfl (by kernel_rfl) rfl (Rof 44 rfl (by kernel_rfl) rfl (Rof 45 rfl (by kernel_rfl) rfl (Rof 46 rfl (by kernel_rfl) rfl (Rpk 47 rfl (by kernel_rfl) rfl rfl (Rg.end (by kernel_rfl) (Gn (Gs.cond_f rfl (Gs.exit (Gx ?_)))))))))))
   refine Gx (Gs.blk_hit (Gn (Gs.cutEndS (E := fun k : CutK M r => [(3, ptr qb), (5, ptr x), (6, ptr wb), (8, .slice k.1.2 M.length mc), (9, .slice na K.length nc), (10, int j), (11, int k.1.1)]) (I := fun k : CutK M r => [shA x L, cl wb 43 (rtC (some ⟨lb, lo, none⟩) L kc), sl 32 5 recC (some ⟨lb, lo, none⟩) kc L, cl qb 34 (quC y lim z), ro h0, rsA k.1.2 mc M, sl 28 2 keyC na nc K] ++ R) (by first | exact ⟨(k, ma), hex⟩ | exact ⟨(k, some ⟨mb, mo, none⟩), hex⟩) ?_ ?_)))
   · repeat constructor
   · repeat constructor
  rintro ⟨⟨k, mA⟩, hkl, hk1, hk2⟩
  dsimp only at hkl hk1 hk2 ⊢
  have hA2 := asc_put hM hni hk1 hk2
  have hP2 : List.Perm (M.take k ++ [r] ++ M.drop k) (L.take (j + 1)) := by rw [htk]; exact perm_put k hP
  refine Gs.seq (Gs.cutS (σ := Option Addr × Nat) (fun p : Option Addr × Nat => [(3, ptr qb), (5, ptr x), (6, ptr wb), (8, .slice p.1 (M.take k ++ [r] ++ M.drop k).length p.2), (9, .slice na K.length nc), (10, int j)]) (fun p : Option Addr × Nat => [shA x L, cl wb 43 (rtC (some ⟨lb, lo, none⟩) L kc), sl 32 5 recC (some ⟨lb, lo, none⟩) kc L, cl qb 34 (quC y lim z), ro h0, rsA p.1 p.2 (M.take k ++ [r] ++ M.drop k), sl 28 2 keyC na nc K] ++ R) ?_ ?_)
  ·
   refine Gs.regD mixed (by kernel_rfl) (Rmv 0 rfl (by kernel_rfl) rfl (Rmv 1 rfl (by kernel_rfl) rfl (Rq 2 rfl (by kernel_rfl) (pu_sliceH et_41 rfl rfl (by omega) (by omega)) (Rmv 4 rfl (by kernel_rfl) rfl (Rq 5 rfl (by kernel_rfl) (by first | exact pu_nil rfl | exact pu_nilF rfl) ?_)))))
   refine Rq 6 rfl (by kernel_rfl) (pu_fa fa_43_0 rfl) (Rr 7 rfl (by kernel_rfl) (rd_ld na_41 rfl (Rdc.cl1 (by repeat constructor) rfl)) ?_)
   refine Rmv 8 rfl (by kernel_rfl) rfl (Rq 9 rfl (by kernel_rfl) (pu_ia se_41 rfl rfl (by omega) (by omega)) (Rr 10 rfl (by kernel_rfl) (rd_lda ag_32 rfl (Rdc.el0 (SlH.own (xs := L) (E := 32) (enc := recC) (sz := 5) (by repeat constructor)) hr rfl rfl) rfl) ?_))
   refine Rmv 13 rfl (by kernel_rfl) rfl (Rmv 14 rfl (by kernel_rfl) rfl (Rq 15 rfl (by kernel_rfl) (pu_sliceL et_41 rfl rfl (by omega) (by omega)) (Rg.two (by kernel_rfl) (Stp.acK 3 rfl rfl (by kernel_rfl) trivial (ac_copy et_41 ek_32 rfl rfl (SrcH.sl' (ys := M.take k) Tryz.underlying41 ek_32 (by simp <;> omega) (SlH.cutH (SlH.own (xs := M) (by repeat constructor)) _ _ hlc)) (by first | omega | (simp; omega)) (by first | omega | (simp; omega))) (by rintro _ _ ⟨a147, c147, rfl, rfl⟩ w s; first | exact s.drop | exact s | exact Ent.sat (by repeat constructor) s) ?_) (Stp.ac 11 rfl rfl (by kernel_rfl) trivial (ac_lit encC_32 ([r]) et_41 ek_32 rfl (by repeat constructor) rfl rfl (by decide))  ?_))))
   ·
    rintro _ _ ⟨a147, c147, rfl, rfl⟩
    refine Rg.one (by kernel_rfl) (Stp.ac 11 rfl rfl (by kernel_rfl) trivial (ac_lit encC_32 ([r]) et_41 ek_32 rfl (by repeat constructor) rfl rfl (by decide))  ?_)
    rintro _ _ ⟨a155, rfl, rfl⟩
    refine Rg.one (by kernel_rfl) (Stp.ac 12 rfl rfl (by kernel_rfl) trivial (ac_append (xs := M.take k) (ys := [r]) et_41 ek_32 rfl rfl (by repeat constructor) (SrcH.sl Tryz.underlying41 ek_32 (SlH.own (by repeat constructor))) (by first | omega | (simp; omega)) (by first | omega | (simp; omega)))  ?_)
    rintro _ _ ⟨a156, c156, rfl, rfl⟩
    refine Rg.one (by kernel_rfl) (Stp.ac 16 rfl rfl (by kernel_rfl) trivial (ac_append et_41 ek_32 rfl rfl (by repeat constructor) (SrcH.sl' (ys := M.drop k) Tryz.underlying41 ek_32 (by simp <;> omega) (SlH.cutL (SlH.own (xs := M) (by repeat constructor)) _ _ hlc)) (by first | omega | (simp; omega)) (by first | omega | (simp; omega)))  ?_)
    rintro _ _ ⟨a160, c160, rfl, rfl⟩
    refine Rq 17 rfl (by kernel_rfl) (pu_assign rfl) (Rg.end (by kernel_rfl) (Gn (Gs.cutEndS (E := fun p : Option Addr × Nat => [(3, ptr qb), (5, ptr x), (6, ptr wb), (8, .slice p.1 (M.take k ++ [r] ++ M.drop k).length p.2), (9, .slice na K.length nc), (10, int j)]) (I := fun p : Option Addr × Nat => [shA x L, cl wb 43 (rtC (some ⟨lb, lo, none⟩) L kc), sl 32 5 recC (some ⟨lb, lo, none⟩) kc L, cl qb 34 (quC y lim z), ro h0, rsA p.1 p.2 (M.take k ++ [r] ++ M.drop k), sl 28 2 keyC na nc K] ++ R) (a160, c160) ?_ ?_)))
    · repeat constructor
    · repeat constructor
   rintro _ _ ⟨a155, rfl, rfl⟩
   refine Rg.one (by kernel_rfl) (Stp.ac 3 rfl rfl (by kernel_rfl) trivial (ac_copy et_41 ek_32 rfl rfl (SrcH.sl' (ys := M.take k) Tryz.underlying41 ek_32 (by simp <;> omega) (SlH.cutH (SlH.own (xs := M) (by repeat constructor)) _ _ hlc)) (by first | omega | (simp; omega)) (by first | omega | (simp; omega)))  ?_)
   rintro _ _ ⟨a147, c147, rfl, rfl⟩
   refine Rg.one (by kernel_rfl) (Stp.ac 12 rfl rfl (by kernel_rfl) trivial (ac_append (xs := M.take k) (ys := [r]) et_41 ek_32 rfl rfl (by repeat constructor) (SrcH.sl Tryz.underlying41 ek_32 (SlH.own (by repeat constructor))) (by first | omega | (simp; omega)) (by first | omega | (simp; omega)))  ?_)
   rintro _ _ ⟨a156, c156, rfl, rfl⟩
   refine Rg.one (by kernel_rfl) (Stp.ac 16 rfl rfl (by kernel_rfl) trivial (ac_append et_41 ek_32 rfl rfl (by repeat constructor) (SrcH.sl' (ys := M.drop k) Tryz.underlying41 ek_32 (by simp <;> omega) (SlH.cutL (SlH.own (xs := M) (by repeat constructor)) _ _ hlc)) (by first | omega | (simp; omega)) (by first | omega | (simp; omega)))  ?_)
   rintro _ _ ⟨a160, c160, rfl, rfl⟩
   refine Rq 17 rfl (by kernel_rfl) (pu_assign rfl) (Rg.end (by kernel_rfl) (Gn (Gs.cutEndS (E := fun p : Option Addr × Nat => [(3, ptr qb), (5, ptr x), (6, ptr wb), (8, .slice p.1 (M.take k ++ [r] ++ M.drop k).length p.2), (9, .slice na K.length nc), (10, int j)]) (I := fun p : Option Addr × Nat => [shA x L, cl wb 43 (rtC (some ⟨lb, lo, none⟩) L kc), sl 32 5 recC (some ⟨lb, lo, none⟩) kc L, cl qb 34 (quC y lim z), ro h0, rsA p.1 p.2 (M.take k ++ [r] ++ M.drop k), sl 28 2 keyC na nc K] ++ R) (a160, c160) ?_ ?_)))
   · repeat constructor
   · repeat constructor
  rintro ⟨oa, oc⟩
  refine Gs.seq (Gs.seq (Gs.regD mixed (by kernel_rfl) (Rq 0 rfl (by kernel_rfl) (pu_fa fa_34_0 rfl) (Rr 1 rfl (by kernel_rfl) (rd_lda ag_26 rfl (Rdc.cl 4 (by repeat constructor) rfl) rfl) ?_))))
  refine Rmv 2 rfl (by kernel_rfl) rfl (Rq 3 rfl (by kernel_rfl) (by first | exact pu_nil rfl | exact pu_nilF rfl) ?_)
  refine Rq 4 rfl (by kernel_rfl) (pu_fa fa_43_0 rfl) (Rr 5 rfl (by kernel_rfl) (rd_ld na_41 rfl (Rdc.cl1 (by repeat constructor) rfl)) ?_)
  refine Rmv 6 rfl (by kernel_rfl) rfl (Rq 7 rfl (by kernel_rfl) (pu_ia se_41 rfl rfl (by omega) (by omega)) (Rr 8 rfl (by kernel_rfl) (rd_lda ag_32 rfl (Rdc.el0 (SlH.own (xs := L) (E := 32) (enc := recC) (sz := 5) (by repeat constructor)) hr rfl rfl) rfl) ?_))
  refine Rg.one (by kernel_rfl) (Stp.ac 9 rfl rfl (by kernel_rfl) trivial (asC (Holds15_spec hTW.u hy hF hz (by decide) r))  ?_)
  rintro _ _ ⟨_, ⟨rfl, rfl⟩, rfl⟩
  refine Rg.end (by kernel_rfl) (Gn (Gs.cutS (σ := {p : List Key × Option Addr × Nat // IsK (L.take (j + 1)) (HoldsB 13 y) p.1}) (fun p : {p : List Key × Option Addr × Nat // IsK (L.take (j + 1)) (HoldsB 13 y) p.1} => [(3, ptr qb), (5, ptr x), (6, ptr wb), (8, .slice oa (M.take k ++ [r] ++ M.drop k).length oc), (9, .slice p.1.2.1 p.1.1.length p.1.2.2), (10, int j)]) (fun p : {p : List Key × Option Addr × Nat // IsK (L.take (j + 1)) (HoldsB 13 y) p.1} => [shA x L, cl wb 43 (rtC (some ⟨lb, lo, none⟩) L kc), sl 32 5 recC (some ⟨lb, lo, none⟩) kc L, cl qb 34 (quC y lim z), ro h0, rsA oa oc (M.take k ++ [r] ++ M.drop k), sl 28 2 keyC p.1.2.1 p.1.2.2 p.1.1] ++ R) ?_ ?_))
  ·
   refine Gs.cond rfl (fun hc8 => ?_) (fun hc8 => ?_)
   ·
    have hK2 : IsK (L.take (j + 1)) (HoldsB 13 y) (intoL K r.key) := by rw [htk]; exact hK.snocT hc8
    refine Gs.reg (Lmv rfl rfl (Lmv rfl rfl (Lq rfl (by first | exact pu_nil rfl | exact pu_nilF rfl) ?_)))
    refine Lq rfl (pu_fa fa_43_0 rfl) (Lr rfl (rd_ld na_41 rfl (Rdc.cl1 (by repeat constructor) rfl)) ?_)
    refine Lmv rfl rfl (Lq rfl (pu_ia se_41 rfl rfl (by omega) (by omega)) (Lq rfl (pu_fa fa_32_0 rfl) (Lr rfl (rd_lda ag_28 rfl (Rdc.elp (f := 0) 2 (SlH.own (xs := L) (E := 32) (enc := recC) (sz := 5) (by repeat constructor)) hr rfl rfl) rfl) ?_)))
    refine La rfl (asC (into_spec na nc K (by omega) r.key)) ?_
    rintro _ _ ⟨_, ⟨va, vc, rfl, rfl⟩, rfl⟩
    refine Las rfl rfl (Lnt (Gs.cutEndS (E := fun p : {p : List Key × Option Addr × Nat // IsK (L.take (j + 1)) (HoldsB 13 y) p.1} => [(3, ptr qb), (5, ptr x), (6, ptr wb), (8, .slice oa (M.take k ++ [r] ++ M.drop k).length oc), (9, .slice p.1.2.1 p.1.1.length p.1.2.2), (10, int j)]) (I := fun p : {p : List Key × Option Addr × Nat // IsK (L.take (j + 1)) (HoldsB 13 y) p.1} => [shA x L, cl wb 43 (rtC (some ⟨lb, lo, none⟩) L kc), sl 32 5 recC (some ⟨lb, lo, none⟩) kc L, cl qb 34 (quC y lim z), ro h0, rsA oa oc (M.take k ++ [r] ++ M.drop k), sl 28 2 keyC p.1.2.1 p.1.2.2 p.1.1] ++ R) (by first | exact ⟨(intoL K r.key, va, vc), hK2⟩ | exact ⟨(K, na, nc), hK2⟩) ?_ ?_))
    · repeat constructor
    · repeat constructor
   have hK2 : IsK (L.take (j + 1)) (HoldsB 13 y) K := by rw [htk]; exact hK.snocF hc8
   refine Gs.skip (Gn (Gs.cutEndS (E := fun p : {p : List Key × Option Addr × Nat // IsK (L.take (j + 1)) (HoldsB 13 y) p.1} => [(3, ptr qb), (5, ptr x), (6, ptr wb), (8, .slice oa (M.take k ++ [r] ++ M.drop k).length oc), (9, .slice p.1.2.1 p.1.1.length p.1.2.2), (10, int j)]) (I := fun p : {p : List Key × Option Addr × Nat // IsK (L.take (j + 1)) (HoldsB 13 y) p.1} => [shA x L, cl wb 43 (rtC (some ⟨lb, lo, none⟩) L kc), sl 32 5 recC (some ⟨lb, lo, none⟩) kc L, cl qb 34 (quC y lim z), ro h0, rsA oa oc (M.take k ++ [r] ++ M.drop k), sl 28 2 keyC p.1.2.1 p.1.2.2 p.1.1] ++ R) (by first | exact ⟨(intoL K r.key, va, vc), hK2⟩ | exact ⟨(K, na, nc), hK2⟩) ?_ ?_))
   · repeat constructor
   · repeat constructor
  rintro ⟨⟨K2, na2, nc2⟩, hK3⟩
  dsimp only at hK3 ⊢
  refine Gsr (Lmv rfl rfl (Lmv rfl rfl (Lq rfl (by first | exact pu_nil rfl | exact pu_nilF rfl) ?_)))
  refine Lq rfl (pu_fa fa_43_0 rfl) (Lr rfl (rd_ld na_41 rfl (Rdc.cl1 (by repeat constructor) rfl)) ?_)
  refine Lmv rfl rfl (Lq rfl (pu_ia se_41 rfl rfl (by omega) (by omega)) (Lq rfl (pu_fa fa_32_0 rfl) (Lr rfl (rd_lda ag_28 rfl (Rdc.elp (f := 0) 2 (SlH.own (xs := L) (E := 32) (enc := recC) (sz := 5) (by repeat constructor)) hr rfl rfl) rfl) ?_)))
  refine La rfl (asC (sget_spec x L r.key)) ?_
  rintro _ _ ⟨_, ⟨rfl, rfl⟩, rfl⟩
  rw [lookR_at hn hrm]
  refine Lmv rfl rfl (Lq rfl (pu_extract rfl rfl) (Lq rfl (pu_extract rfl rfl) (La rfl (ac_alloc zv_32 rfl) ?_)))
  rintro _ _ ⟨gb, rfl, rfl⟩
  refine Lac0 rfl trivial (ac_st sz_32 rfl rfl (by repeat constructor) rfl rfl rfl rfl) ?_
  rintro _ _ rfl
  refine Las rfl rfl (Lnt (Gs.seq (Gs.regD mixed (by kernel_rfl) (Rr 0 rfl (by kernel_rfl) (rd_lda ag_32 rfl (Rdc.cl 5 (by repeat constructor) rfl) rfl) ?_))))
  refine Rmv 1 rfl (by kernel_rfl) rfl (Rq 2 rfl (by kernel_rfl) (by first | exact pu_nil rfl | exact pu_nilF rfl) ?_)
  refine Rq 3 rfl (by kernel_rfl) (pu_fa fa_43_0 rfl) (Rr 4 rfl (by kernel_rfl) (rd_ld na_41 rfl (Rdc.cl1 (by repeat constructor) rfl)) ?_)
  refine Rmv 5 rfl (by kernel_rfl) rfl (Rq 6 rfl (by kernel_rfl) (pu_ia se_41 rfl rfl (by omega) (by omega)) (Rr 7 rfl (by kernel_rfl) (rd_lda ag_32 rfl (Rdc.el0 (SlH.own (xs := L) (E := 32) (enc := recC) (sz := 5) (by repeat constructor)) hr rfl rfl) rfl) ?_))
  refine Rq 8 rfl (by kernel_rfl) (pu_neT (a := r) (b := r) cmp_32 (by decide) Tryz.eqGuardType32 rfl rfl) ?_
  refine Rg.puBf 9 rfl rfl (by kernel_rfl) trivial (pu_move rfl) (decide_eq_false (fun h => h rfl)) ?_
  refine Rg.pu 10 rfl rfl (by kernel_rfl) ⟨_, rfl, rfl⟩ (pu_move rfl) (Rg.pu 11 rfl rfl (by kernel_rfl) ⟨_, rfl, rfl⟩ (pu_not rfl) (Rpk 12 rfl (by kernel_rfl) rfl rfl (Rg.end (by kernel_rfl) (Gn (Gs.cond_ff rfl rfl (Gs.skip (Gs.blk_n (Gn (Gs.reg (Lmv rfl rfl (Lq rfl (by first | exact pu_addI rfl rfl rfl (by omega) (by omega) | exact pu_add rfl rfl) ?_)))))))))))
  refine Las rfl rfl (Lnt ?_)
  exact Ag (j + 1, ((oa, oc), M.take k ++ [r] ++ M.drop k), (na2, nc2), K2) ⟨hlt, hA2, hP2, hK3⟩ (by show L.length - (j + 1) < L.length - j; omega)
 have hge : j = L.length := by have := of_decide_eq_false hc6; omega
 rw [hge, List.take_length] at hP hK
 refine Gs.exit (Gx (Gx (Gs.blk_hit (Gn (Gs.seq (Gs.regD mixed (by kernel_rfl) (Rmv 0 rfl (by kernel_rfl) rfl (Rr 1 rfl (by kernel_rfl) (rd_lda ag_34 rfl (Rdc.cl 10 (by repeat constructor) rfl) rfl) ?_))))))))
 refine Rmv 3 rfl (by kernel_rfl) rfl (Rq 4 rfl (by kernel_rfl) (pu_fa fa_34_0 rfl) (Rr 5 rfl (by kernel_rfl) (rd_lda ag_26 rfl (Rdc.cl 4 (by repeat constructor) rfl) rfl) ?_))
 refine Rmv 7 rfl (by kernel_rfl) rfl (Rg.one (by kernel_rfl) (Stp.acR 2 [5] rfl rfl (by kernel_rfl) trivial (asC (sfind_spec x L (by omega) hTW hy hF hz (by decide) lim z)) (by rintro _ _ ⟨_, ⟨fa, fc, out, rfl, hO, rfl⟩, rfl⟩; exact (Reads.cons rfl rfl rfl trivial rfl (rd_lda ag_26 rfl (Rdc.cl 4 (by repeat constructor) rfl) rfl) Reads.nil)) ?_))
 rintro _ _ ⟨_, ⟨fa, fc, out, rfl, hO, rfl⟩, rfl⟩
 refine Rg.one (by kernel_rfl) (Stp.ac 6 rfl rfl (by kernel_rfl) trivial (asC (sKeys_spec x L (by omega) hTW.u hy hF hz (by decide)))  ?_)
 rintro _ _ ⟨_, ⟨ga, gc, ks, rfl, hQ, rfl⟩, rfl⟩
 obtain rfl := hQ.eqB hmay hK
 have hOl := hO.len
 refine Rg.one (by kernel_rfl) (Stp.ac 8 rfl rfl (by kernel_rfl) trivial (asC (srecs_spec x L (by omega)))  ?_)
 rintro _ _ ⟨_, ⟨sa, sc, k2, rfl, hS, rfl⟩, rfl⟩
 rw [recs_eq hn hM hP hS]
 refine Rq 9 rfl (by kernel_rfl) (pu_assign rfl) (Rq 10 rfl (by kernel_rfl) (pu_assign rfl) (Rq 11 rfl (by kernel_rfl) (pu_assign rfl) (Rg.end (by kernel_rfl) (Gn (Gs.seq (Gs.regD mixed (by kernel_rfl) (Rmv 0 rfl (by kernel_rfl) rfl (Rr 1 rfl (by kernel_rfl) (rd_lda ag_34 rfl (Rdc.cl 10 (by repeat constructor) rfl) rfl) ?_))))))))
 refine Rmv 2 rfl (by kernel_rfl) rfl (Rq 3 rfl (by kernel_rfl) (by first | exact pu_nil rfl | exact pu_nilF rfl) ?_)
 refine Rq 4 rfl (by kernel_rfl) (pu_fa fa_43_0 rfl) (Rr 5 rfl (by kernel_rfl) (rd_ld na_41 rfl (Rdc.cl1 (by repeat constructor) rfl)) ?_)
 refine Rg.one (by kernel_rfl) (Stp.ac 6 rfl rfl (by kernel_rfl) trivial (asC (Ct.two (find16_spec (S := two (ro h0) (rsA ka kc L)) (hTW.u.inn Inn.two1) hy.two1 hF hz (by decide) lim z (a := ka) (c := kc) (rs := L) (Srd.two2 Srd.own) hn (by omega)) (by rintro _ _ ⟨_, _, _, _, _, rfl⟩; exact ⟨_, rfl⟩)))  ?_)
 rintro _ _ ⟨_, ⟨_, ⟨za, zc, out2, rfl, hO2, ⟨⟩⟩, rfl⟩, rfl⟩
 obtain rfl := hO2.uniq hO (List.Perm.refl _)
 refine Rg.one (by kernel_rfl) (Stp.ac 7 rfl rfl (by kernel_rfl) trivial (asC (Ct.two0 (sameRecs_spec (S := two (rsA fa fc out2) (rsA za zc out2)) (a := fa) (b := za) (c := fc) (d := zc) (xs := out2) (ys := out2) (Srd.two1 Srd.own) (Srd.two2 Srd.own) (by omega))))  ?_)
 rintro _ _ ⟨_, ⟨rfl, rfl⟩, rfl⟩
 refine Rg.puBt 8 rfl rfl (by kernel_rfl) trivial (pu_move rfl) (decide_eq_true rfl) (Rg.pu 9 rfl rfl (by kernel_rfl) ⟨_, rfl, rfl⟩ (pu_move rfl) (Rg.pu 10 rfl rfl (by kernel_rfl) ⟨_, rfl, rfl⟩ (pu_move rfl) (Rg.one (by kernel_rfl) (Stp.ac 11 rfl rfl (by kernel_rfl) ⟨_, rfl, rfl⟩ (asC (Ct.two0 (sameKeys_spec (S := two (sl 28 2 keyC ga gc ks) (sl 28 2 keyC na nc ks)) (a := ga) (b := na) (c := gc) (d := nc) (xs := ks) (ys := ks) (Srd.two1 Srd.own) (Srd.two2 Srd.own) (by omega))))  ?_))))
 rintro _ _ ⟨_, ⟨rfl, rfl⟩, rfl⟩
 refine Rpk 12 rfl (by kernel_rfl) rfl rfl (Rg.puBt 13 rfl rfl (by kernel_rfl) trivial (pu_move rfl) (decide_eq_true rfl) (Rg.pu 14 rfl rfl (by kernel_rfl) ⟨_, rfl, rfl⟩ (pu_move rfl) (Rg.pu 15 rfl rfl (by kernel_rfl) ⟨_, rfl, rfl⟩ (pu_move rfl) (Rg.one (by kernel_rfl) (Stp.ac 16 rfl rfl (by kernel_rfl) ⟨_, rfl, rfl⟩ (asC (Ct.two0 (sameRecs_spec (S := two (rsA sa sc M) (rsA ma mc M)) (a := sa) (b := ma) (c := sc) (d := mc) (xs := M) (ys := M) (Srd.two1 Srd.own) (Srd.two2 Srd.own) (by omega))))  ?_)))))
 rintro _ _ ⟨_, ⟨rfl, rfl⟩, rfl⟩
 refine Rpk 17 rfl (by kernel_rfl) rfl rfl (Rq 18 rfl (by kernel_rfl) (pu_assign rfl) (Rg.end (by kernel_rfl) (Gn (Gsr (Lmv rfl rfl (La rfl (asC (overRecs_spec (a := fa) (c := fc) (xs := out2) (by omega))) ?_))))))
 rintro _ _ ⟨_, ⟨rfl, rfl⟩, rfl⟩
 refine Lnt (Gsr (Lmv rfl rfl (La rfl (asC (overKeys_spec (a := ga) (c := gc) (xs := ks) (by omega))) ?_)))
 rintro _ _ ⟨_, ⟨rfl, rfl⟩, rfl⟩
 refine Lnt (Gsr (Lmv rfl rfl (La rfl (asC (overRecs_spec (a := sa) (c := sc) (xs := M) (by omega))) ?_)))
 rintro _ _ ⟨_, ⟨rfl, rfl⟩, rfl⟩
 refine Lnt (Gsr (Lmv rfl rfl (LpuBt rfl rfl trivial (pu_move rfl) (decide_eq_true rfl) (Lpu rfl rfl ⟨_, rfl, rfl⟩ (pu_move rfl) (Lac rfl rfl ⟨_, rfl, rfl⟩ (asC (srecs_spec x L (by omega))) ?_)))))
 rintro _ _ ⟨_, ⟨ta, tc, k3, rfl, hS3, rfl⟩, rfl⟩
 rw [recs_eq hn hM hP hS3]
 refine Lpu rfl rfl ⟨_, rfl, rfl⟩ (pu_move rfl) (Lac rfl rfl ⟨_, rfl, rfl⟩ (asC (Ct.two0 (sameRecs_spec (S := two (rsA ta tc M) (rsA ma mc M)) (a := ta) (b := ma) (c := tc) (d := mc) (xs := M) (ys := M) (Srd.two1 Srd.own) (Srd.two2 Srd.own) (by omega)))) ?_)
 rintro _ _ ⟨_, ⟨rfl, rfl⟩, rfl⟩
 refine Lpk rfl rfl rfl (LpuBt rfl rfl trivial (pu_move rfl) (decide_eq_true rfl) (Lac rfl rfl ⟨_, rfl, rfl⟩ (asC (awake17_spec T)) ?_))
 rintro _ _ ⟨_, ⟨rfl, rfl⟩, rfl⟩
 refine Lpk rfl rfl rfl (Las rfl rfl (Lnt (Gs.ret ?_)))
 exact Gs.fin1 Tryz.results3 rfl _ (⟨rfl, rfl⟩) (by repeat constructor)
end Go.Proofs.YtklgiidfompdpaaGreatDoor
