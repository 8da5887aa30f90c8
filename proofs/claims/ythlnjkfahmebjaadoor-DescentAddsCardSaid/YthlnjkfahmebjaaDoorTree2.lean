/- Walks: tree.Put, Get, Drop, Len, Sum. -/
import Derived.Test.YthlnjkfahmebjaaDoorTree
namespace Go.Proofs.YthlnjkfahmebjaaDoor
open Go Go.Sl Go.Gv Go.Kv
set_option maxRecDepth 100000
theorem layR_any {h0 : Hp} (T : Tabs h0) (r : Rec) : Ct Tryd.prog 42 [recV r] [ro h0] (fun v hs => ∃ a c bs e, v = .tuple #[.slice a (bs : List UInt8).length c, int e] ∧ hs = [ro h0, sl 5 1 byteC a c bs] ∧ ((recB r = true ∧ e = 0 ∧ bs = layB r) ∨ (recB r = false ∧ e = 2 ∧ bs = []))) := by
  cases hr : recB r with
  | true => exact (layR_ok T r hr).mono fun v hs ⟨a, c, h1, h2⟩ => ⟨a, c, layB r, 0, h1, h2, .inl ⟨rfl, rfl, rfl⟩⟩
  | false => exact ⟨(layR_bad T r hr).enters, fun w0 w R s => ((layR_bad T r hr).calls w0 w R s).mono fun e w' ⟨v, hs, he, ⟨hv, hh⟩, hsat⟩ => ⟨v, [ro h0, sl 5 1 byteC none 0 []], he, ⟨none, 0, [], 2, hv, rfl, .inr ⟨rfl, rfl, rfl⟩⟩, by subst hh; exact (sl_nil hsat).take (.tl .hd)⟩⟩
theorem treePut_spec {h0 : Hp} (T : Tabs h0) {S : HProp} (b : Nat) (L : List Rec) {a : Option Addr} {c : Nat} {rs : List Rec} (hS : Srd S 5 recC a rs) (hl : rs.length ≤ 100000) (hL : L.length + rs.length ≤ 200000) :
    Ct Tryd.prog 23 [ptr b, .slice a rs.length c] [ro h0, tre b L, S] (fun v hs => v = int ((putAll L rs).length - L.length) ∧ hs = [ro h0, tre b (putAll L rs), S]) := by
  refine Ct.intro Tryd.func23 rfl (by kernel_rfl) 59 Tryd.ntmps23 (Nat.le_of_ble_eq_true rfl) fun w0 R => ?_
  refine Gs.slAddr (hS.h (by repeat constructor)) fun ab ao ha => ?_
  refine Gs.seq ?_
  refine Gs.reg ?_
  refine Go.Sl.L.pu rfl rfl trivial (pu_assign rfl) ?_
  refine Go.Sl.L.nil ?_
  refine Gs.then_n ?_
  refine Gs.seq ?_
  refine Gs.seq ?_
  refine Gs.reg ?_
  refine Go.Sl.L.pu rfl rfl trivial (pu_move rfl) ?_
  refine Go.Sl.L.pu rfl rfl trivial (pu_eqN Tryd.underlying25 rfl rfl) ?_
  refine Go.Sl.L.nil ?_
  refine Gs.then_n ?_
  refine Gs.cond_f rfl ?_
  refine Gs.skip ?_
  refine Gs.then_n ?_
  refine Gs.seq ?_
  refine Gs.reg ?_
  refine Go.Sl.L.pu rfl rfl trivial (pu_assign rfl) ?_
  refine Go.Sl.L.nil ?_
  refine Gs.then_n ?_
  refine Gs.seq ?_
  refine Gs.seq ?_
  refine Gs.reg ?_
  refine Go.Sl.L.pu rfl rfl trivial (pu_move rfl) ?_
  refine Go.Sl.L.pu rfl rfl trivial (pu_len Tryd.underlying22 rfl) ?_
  refine Go.Sl.L.pu rfl rfl trivial (pu_move rfl) ?_
  refine Go.Sl.L.nil ?_
  refine Gs.then_n ?_
  refine Gs.block ?_
  refine Gs.loop1 (fun s : Nat × List Rec × Nat => s.1 ≤ rs.length ∧ s.2.1 = putAll L (rs.take s.1) ∧ L.length + s.2.2 = s.2.1.length) (fun s => [(0, ptr b), (5, int s.2.2), (14, .slice a rs.length c), (15, int rs.length), (16, int s.1)]) (fun s => [ro h0, tre b s.2.1, S] ++ R) (fun s => rs.length - s.1) (0, L, 0) (⟨Nat.zero_le _, rfl, rfl⟩) (by repeat constructor) (by repeat constructor) (fun s hs => ?_)
  obtain ⟨i, K, n⟩ := s
  obtain ⟨hi, hK, hn⟩ := hs
  dsimp only at hi hK hn ⊢
  have hKl : K.length ≤ L.length + i := by rw [hK]; have := (putAll_length L (rs.take i)).2; rw [List.length_take] at this; omega
  refine Gs.seq ?_
  refine Gs.reg ?_
  refine Go.Sl.L.pu rfl rfl trivial (pu_lt rfl rfl) ?_
  refine Go.Sl.L.nil ?_
  refine Gs.then_n ?_
  refine Gs.seq ?_
  refine Gs.cond rfl (fun hc1 => ?_) (fun hc1 => ?_)
  · skip
    have hlt : i < rs.length := by have := of_decide_eq_true hc1; omega
    obtain ⟨r, hr⟩ : ∃ x, rs[i]? = some x := ⟨rs[i], by simp [hlt]⟩
    obtain rfl := ha (by rintro rfl; simp at hlt)
    have hstep := putAll_take (L := L) hr
    rw [← hK] at hstep
    refine Gs.skip ?_
    refine Gs.then_n ?_
    refine Gs.seq ?_
    refine Gs.block ?_
    refine Gs.seq ?_
    refine Gs.reg ?_
    refine Go.Sl.L.pu rfl rfl trivial (pu_ia se_22 rfl rfl (by omega) (by omega)) ?_
    refine Go.Sl.L.rd rfl rfl trivial (rd_lda ag_42 rfl (Rdc.el0 (hS.h (by repeat constructor)) hr rfl rfl) rfl) ?_
    refine Go.Sl.L.ac rfl rfl trivial (ac_alloc zv_42 rfl) ?_
    rintro _ _ ⟨rb, rfl, rfl⟩
    refine Go.Sl.L.ac0 rfl trivial (ac_st sz_42 rfl rfl (by repeat constructor) rfl rfl rfl rfl) ?_
    rintro _ _ rfl
    refine Go.Sl.L.nil ?_
    refine Gs.then_n ?_
    refine Gs.seq ?_
    refine Gs.reg ?_
    refine Go.Sl.L.rd rfl rfl trivial (rd_lda ag_42 rfl (Rdc.cl 5 (by repeat constructor) rfl) rfl) ?_
    refine Go.Sl.L.ac rfl rfl trivial (as_call (layR_any T r) (by repeat constructor) (by repeat constructor)) ?_
    rintro _ _ ⟨_, ⟨ba, bc, bs, e, rfl, rfl, hbs⟩, rfl⟩
    refine Go.Sl.L.pu rfl rfl trivial (pu_move rfl) ?_
    refine Go.Sl.L.pu rfl rfl trivial (pu_extract rfl rfl) ?_
    refine Go.Sl.L.pu rfl rfl trivial (pu_extract rfl rfl) ?_
    refine Go.Sl.L.pu rfl rfl trivial (pu_assign rfl) ?_
    refine Go.Sl.L.pu rfl rfl trivial (pu_assign rfl) ?_
    refine Go.Sl.L.nil ?_
    refine Gs.then_n ?_
    refine Gs.seq ?_
    refine Gs.seq ?_
    refine Gs.treOpen (by repeat constructor) fun m1 m2 C hok hC => ?_
    refine Gs.regD mixed (by kernel_rfl) ?_
    refine Rg.pu 0 rfl rfl (by kernel_rfl) trivial (pu_move rfl) ?_
    refine Rg.pu 1 rfl rfl (by kernel_rfl) trivial (by first | exact pu_nil rfl | exact pu_nilF rfl) ?_
    refine Rg.pu 2 rfl rfl (by kernel_rfl) trivial (pu_fa fa_80_0 rfl) ?_
    refine Rg.rd 3 rfl rfl (by kernel_rfl) trivial (rd_ld na_77 rfl (Rdc.cl1 (by repeat constructor) rfl)) ?_
    refine Rg.pu 4 rfl rfl (by kernel_rfl) trivial (pu_fa fa_42_0 rfl) ?_
    refine Rg.rd 5 rfl rfl (by kernel_rfl) trivial (rd_lda ag_38 rfl (Rdc.cl 2 (by repeat constructor) rfl) rfl) ?_
    refine Rg.rd 6 rfl rfl (by kernel_rfl) trivial (rd_look2 (k := r.key) Tryd.underlying77 kt_38 zvk_87 rfl rfl (by repeat constructor)) ?_
    rw [mget_lents]
    refine Rg.pu 7 rfl rfl (by kernel_rfl) trivial (pu_move rfl) ?_
    refine Rg.pu 8 rfl rfl (by kernel_rfl) trivial (pu_extract rfl rfl) ?_
    refine Rg.pu 9 rfl rfl (by kernel_rfl) trivial (pu_extract rfl rfl) ?_
    refine Rg.one (by kernel_rfl) (Stp.acK 10 rfl rfl (by kernel_rfl) trivial (ac_alloc zv_87 rfl) (by rintro _ _ ⟨lb, rfl, rfl⟩ w s; first | exact s.drop | exact s | exact Ent.sat (by repeat constructor) s) ?_)
    rintro _ _ ⟨lb, rfl, rfl⟩
    refine Rg.one (by kernel_rfl) (Stp.ac0 11 rfl rfl (by kernel_rfl) trivial (ac_st sz_87 rfl rfl (by repeat constructor) rfl rfl rfl rfl)  ?_)
    rintro _ _ rfl
    refine Rg.pu 12 rfl rfl (by kernel_rfl) trivial (pu_assign rfl) ?_
    refine Rg.end (by kernel_rfl) ?_
    refine Gs.then_n ?_
    refine Gs.seq ?_
    refine Gs.reg ?_
    refine Go.Sl.L.pu rfl rfl trivial (pu_move rfl) ?_
    refine Go.Sl.L.pu rfl rfl trivial (pu_ne rfl rfl) ?_
    refine Go.Sl.L.puB rfl rfl trivial (pu_move rfl) (fun hg2 => ?_) (fun hg2 => ?_)
    · skip
      have hg2' := of_decide_eq_true hg2
      have hno : putOne K r = K := by rcases hbs with ⟨-, h, -⟩ | ⟨h, -, -⟩ <;> first | exact absurd h hg2' | simp [putOne, putOk, h]
      refine Go.Sl.L.off rfl rfl rfl rfl rfl rfl ?_
      refine Go.Sl.L.pu rfl rfl trivial (by first | exact pu_pick_t rfl rfl | exact pu_pick_f rfl rfl) ?_
      refine Go.Sl.L.nil ?_
      refine Gs.then_n ?_
      refine Gs.cond_t rfl ?_
      refine Gs.exit ?_
      refine Gs.then_x ?_
      refine Gs.blk_hit ?_
      refine Gs.then_n ?_
      first | (have hX := hno; refine Gs.treClose (L := K) (C := C) (by repeat constructor) hok hC ?_) | (have hX := hyes; refine Gs.treClose (L := K ++ [r]) (C := C') (by repeat constructor) (by rw [← hyes]; exact hok.put r) (hC.put hC') ?_)
      refine Gs.reg ?_
      refine Go.Sl.L.pu rfl rfl trivial (by first | exact pu_addI rfl rfl rfl (by omega) (by omega) | exact pu_add rfl rfl) ?_
      refine Go.Sl.L.pu rfl rfl trivial (pu_move rfl) ?_
      refine Go.Sl.L.nil ?_
      refine Gs.then_n ?_
      first | (have hX := hno; exact Gs.again1 (i + 1, K, n) ⟨by show i + 1 ≤ rs.length; omega, by show K = _; rw [hstep, hno], hn⟩ (by show rs.length - (i + 1) < rs.length - i; omega) (by repeat constructor) (by repeat constructor)) | (have hX := hyes; exact Gs.again1 (i + 1, K ++ [r], n + 1) ⟨by show i + 1 ≤ rs.length; omega, by show K ++ [r] = _; rw [hstep, hyes], by show L.length + (n + 1) = (K ++ [r]).length; rw [List.length_append, ← hn]; simp; omega⟩ (by show rs.length - (i + 1) < rs.length - i; omega) (by repeat constructor) (by repeat constructor))
    · skip
      have hg2' := of_decide_eq_false hg2
      obtain ⟨hrb, hbl⟩ : recB r = true ∧ bs = layB r := by rcases hbs with ⟨h, -, h2⟩ | ⟨-, h, -⟩ <;> first | exact ⟨h, h2⟩ | omega
      refine Go.Sl.L.pu rfl rfl ⟨_, rfl, rfl⟩ (pu_move rfl) ?_
      refine Go.Sl.L.pu rfl rfl trivial (by first | exact pu_pick_t rfl rfl | exact pu_pick_f rfl rfl) ?_
      refine Go.Sl.L.nil ?_
      refine Gs.then_n ?_
      refine Gs.cond rfl (fun hc2 => ?_) (fun hc2 => ?_)
      · skip
        have hso : ((lookR K r.key).map fun r => (r, hashR r)).isSome = true := hc2
        have hno : putOne K r = K := by
          cases hl : lookR K r.key with
          | none => rw [hl] at hso; cases hso
          | some x => simp [putOne, putOk, hl]
        refine Gs.exit ?_
        refine Gs.then_x ?_
        refine Gs.blk_hit ?_
        refine Gs.then_n ?_
        first | (have hX := hno; refine Gs.treClose (L := K) (C := C) (by repeat constructor) hok hC ?_) | (have hX := hyes; refine Gs.treClose (L := K ++ [r]) (C := C') (by repeat constructor) (by rw [← hyes]; exact hok.put r) (hC.put hC') ?_)
        refine Gs.reg ?_
        refine Go.Sl.L.pu rfl rfl trivial (by first | exact pu_addI rfl rfl rfl (by omega) (by omega) | exact pu_add rfl rfl) ?_
        refine Go.Sl.L.pu rfl rfl trivial (pu_move rfl) ?_
        refine Go.Sl.L.nil ?_
        refine Gs.then_n ?_
        first | (have hX := hno; exact Gs.again1 (i + 1, K, n) ⟨by show i + 1 ≤ rs.length; omega, by show K = _; rw [hstep, hno], hn⟩ (by show rs.length - (i + 1) < rs.length - i; omega) (by repeat constructor) (by repeat constructor)) | (have hX := hyes; exact Gs.again1 (i + 1, K ++ [r], n + 1) ⟨by show i + 1 ≤ rs.length; omega, by show K ++ [r] = _; rw [hstep, hyes], by show L.length + (n + 1) = (K ++ [r]).length; rw [List.length_append, ← hn]; simp; omega⟩ (by show rs.length - (i + 1) < rs.length - i; omega) (by repeat constructor) (by repeat constructor))
      · skip
        have hso : ((lookR K r.key).map fun r => (r, hashR r)).isSome = false := hc2
        have hlk : lookR K r.key = none := by
          cases hl : lookR K r.key with
          | none => rfl
          | some x => rw [hl] at hso; cases hso
        have hyes : putOne K r = K ++ [r] := by simp [putOne, putOk, hrb, hlk]
        have hbt := recB_text hrb
        have hbl2 := layB_length r
        subst hbl
        have hflat : flat [⟨ba, layB r, bc⟩] = layB r := by simp [flat]
        obtain ⟨q1, q2, q3, q4⟩ := rec_q hrb
        have hk0 : 0 ≤ r.key.q := by show 0 ≤ r.q; omega
        have hk1 : r.key.q ≤ 100000 := by show r.q ≤ 100000; omega
        have hbd := hC.bound (by omega) r.key
        refine Gs.skip ?_
        refine Gs.then_n ?_
        refine Gs.seq ?_
        refine Gs.regD mixed (by kernel_rfl) ?_
        refine Rg.pu 0 rfl rfl (by kernel_rfl) trivial (pu_move rfl) ?_
        refine Rg.pu 1 rfl rfl (by kernel_rfl) trivial (by first | exact pu_nil rfl | exact pu_nilF rfl) ?_
        refine Rg.pu 2 rfl rfl (by kernel_rfl) trivial (pu_fa fa_80_0 rfl) ?_
        refine Rg.rd 3 rfl rfl (by kernel_rfl) trivial (rd_ld na_77 rfl (Rdc.cl1 (by repeat constructor) rfl)) ?_
        refine Rg.pu 4 rfl rfl (by kernel_rfl) trivial (pu_fa fa_42_0 rfl) ?_
        refine Rg.rd 5 rfl rfl (by kernel_rfl) trivial (rd_lda ag_38 rfl (Rdc.cl 2 (by repeat constructor) rfl) rfl) ?_
        refine Rg.rd 6 rfl rfl (by kernel_rfl) trivial (rd_lda ag_42 rfl (Rdc.cl 5 (by repeat constructor) rfl) rfl) ?_
        refine Rg.pu 7 rfl rfl (by kernel_rfl) trivial (pu_move rfl) ?_
        refine Rg.one (by kernel_rfl) (Stp.acK 8 rfl rfl (by kernel_rfl) trivial (ac_lit encC_82 ([⟨ba, layB r, bc⟩]) et_102 ek_82 rfl (by repeat constructor) rfl rfl (by decide)) (by rintro _ _ ⟨a48, rfl, rfl⟩ w s; first | exact s.drop | exact s | exact Ent.sat (by repeat constructor) s) ?_)
        rintro _ _ ⟨a48, rfl, rfl⟩
        refine Rg.one (by kernel_rfl) (Stp.acR 9 [3, 5, 6] rfl rfl (by kernel_rfl) trivial (as_call (of_spec (U := sl 82 1 slC (some ⟨a48, 0, none⟩) 1 [⟨ba, layB r, bc⟩]) (S := sl 5 1 byteC ba bc (layB r)) Srd.own (by simp; exact ⟨Srd.own, by omega⟩) (by simp)) (by repeat constructor) (by repeat constructor)) (by rintro _ _ ⟨_, ⟨rfl, rfl⟩, rfl⟩; exact (Reads.cons rfl rfl rfl trivial rfl (rd_ld na_77 rfl (Rdc.cl1 (by repeat constructor) rfl)) (Reads.cons rfl rfl rfl trivial rfl (rd_lda ag_38 rfl (Rdc.cl 2 (by repeat constructor) rfl) rfl) (Reads.cons rfl rfl rfl trivial rfl (rd_lda ag_42 rfl (Rdc.cl 5 (by repeat constructor) rfl) rfl) Reads.nil)))) ?_)
        rintro _ _ ⟨_, ⟨rfl, rfl⟩, rfl⟩
        rw [hflat]
        refine Rg.pu 10 rfl rfl (by kernel_rfl) trivial (pu_build bd_87 (by repeat constructor) rfl) ?_
        refine Rg.one (by kernel_rfl) (Stp.ac0 11 rfl rfl (by kernel_rfl) trivial (ac_put (enck := keyV) (encv := leafV) (b := m1) (m := lents K) (k := r.key) (v := (r, hashB (layB r))) Tryd.underlying77 kt_38 rfl rfl (by show some _ = some (leafV (r, hashB (layB r))); congr 1) (by repeat constructor))  ?_)
        rintro _ _ rfl
        rw [show mput (lents K) r.key (r, hashB (layB r)) = lents (K ++ [r]) from mput_lents K r hlk]
        refine Rg.end (by kernel_rfl) ?_
        refine Gs.then_n ?_
        refine Gs.seq ?_
        refine Gs.reg ?_
        refine Go.Sl.L.pu rfl rfl trivial (pu_move rfl) ?_
        refine Go.Sl.L.pu rfl rfl trivial (pu_fa fa_42_0 rfl) ?_
        refine Go.Sl.L.rd rfl rfl trivial (rd_lda ag_38 rfl (Rdc.cl 2 (by repeat constructor) rfl) rfl) ?_
        refine Go.Sl.L.ac rfl rfl trivial (as_call (count_spec b m1 m2 C r.key 1 hk0 hk1 (.inl rfl) hbd) (by repeat constructor) (by repeat constructor)) ?_
        rintro _ _ ⟨_, ⟨C', rfl, rfl, hC'⟩, rfl⟩
        refine Go.Sl.L.nil ?_
        refine Gs.then_n ?_
        refine Gs.reg ?_
        refine Go.Sl.L.pu rfl rfl trivial (pu_move rfl) ?_
        refine Go.Sl.L.pu rfl rfl trivial (pu_addI (z := ((n + 1 : Nat) : Int)) rfl rfl (by omega) (by omega) (by omega)) ?_
        refine Go.Sl.L.pu rfl rfl trivial (pu_assign rfl) ?_
        refine Go.Sl.L.nil ?_
        refine Gs.blk_n ?_
        refine Gs.then_n ?_
        first | (have hX := hno; refine Gs.treClose (L := K) (C := C) (by repeat constructor) hok hC ?_) | (have hX := hyes; refine Gs.treClose (L := K ++ [r]) (C := C') (by repeat constructor) (by rw [← hyes]; exact hok.put r) (hC.put hC') ?_)
        refine Gs.reg ?_
        refine Go.Sl.L.pu rfl rfl trivial (by first | exact pu_addI rfl rfl rfl (by omega) (by omega) | exact pu_add rfl rfl) ?_
        refine Go.Sl.L.pu rfl rfl trivial (pu_move rfl) ?_
        refine Go.Sl.L.nil ?_
        refine Gs.then_n ?_
        first | (have hX := hno; exact Gs.again1 (i + 1, K, n) ⟨by show i + 1 ≤ rs.length; omega, by show K = _; rw [hstep, hno], hn⟩ (by show rs.length - (i + 1) < rs.length - i; omega) (by repeat constructor) (by repeat constructor)) | (have hX := hyes; exact Gs.again1 (i + 1, K ++ [r], n + 1) ⟨by show i + 1 ≤ rs.length; omega, by show K ++ [r] = _; rw [hstep, hyes], by show L.length + (n + 1) = (K ++ [r]).length; rw [List.length_append, ← hn]; simp; omega⟩ (by show rs.length - (i + 1) < rs.length - i; omega) (by repeat constructor) (by repeat constructor))
  · skip
    have hge : i = rs.length := by have := of_decide_eq_false hc1; omega
    rw [hge, List.take_length] at hK
    subst hK
    refine Gs.exit ?_
    refine Gs.then_x ?_
    refine Gs.then_x ?_
    refine Gs.blk_hit ?_
    refine Gs.then_n ?_
    refine Gs.seq ?_
    refine Gs.reg ?_
    refine Go.Sl.L.pu rfl rfl trivial (pu_move rfl) ?_
    refine Go.Sl.L.pu rfl rfl trivial (pu_assign rfl) ?_
    refine Go.Sl.L.nil ?_
    refine Gs.then_n ?_
    refine Gs.ret ?_
    exact Gs.fin1 Tryd.results23 rfl _ (⟨by congr 1; omega, rfl⟩) (by repeat constructor)
theorem treePut_ro {h0 : Hp} (T : Tabs h0) (b : Nat) (L : List Rec) {a : Option Addr} {c : Nat} {rs : List Rec} (hS : slR h0 5 recC a rs) (hl : rs.length ≤ 100000) (hL : L.length + rs.length ≤ 200000) :
    Ct Tryd.prog 23 [ptr b, .slice a rs.length c] [ro h0, tre b L] (fun v hs => v = int ((putAll L rs).length - L.length) ∧ hs = [ro h0, tre b (putAll L rs)]) := by
  refine Ct.intro Tryd.func23 rfl (by kernel_rfl) 59 Tryd.ntmps23 (Nat.le_of_ble_eq_true rfl) fun w0 R => ?_
  refine Gs.slAddr ((SlH.ro (by repeat constructor) hS)) fun ab ao ha => ?_
  refine Gs.seq ?_
  refine Gs.reg ?_
  refine Go.Sl.L.pu rfl rfl trivial (pu_assign rfl) ?_
  refine Go.Sl.L.nil ?_
  refine Gs.then_n ?_
  refine Gs.seq ?_
  refine Gs.seq ?_
  refine Gs.reg ?_
  refine Go.Sl.L.pu rfl rfl trivial (pu_move rfl) ?_
  refine Go.Sl.L.pu rfl rfl trivial (pu_eqN Tryd.underlying25 rfl rfl) ?_
  refine Go.Sl.L.nil ?_
  refine Gs.then_n ?_
  refine Gs.cond_f rfl ?_
  refine Gs.skip ?_
  refine Gs.then_n ?_
  refine Gs.seq ?_
  refine Gs.reg ?_
  refine Go.Sl.L.pu rfl rfl trivial (pu_assign rfl) ?_
  refine Go.Sl.L.nil ?_
  refine Gs.then_n ?_
  refine Gs.seq ?_
  refine Gs.seq ?_
  refine Gs.reg ?_
  refine Go.Sl.L.pu rfl rfl trivial (pu_move rfl) ?_
  refine Go.Sl.L.pu rfl rfl trivial (pu_len Tryd.underlying22 rfl) ?_
  refine Go.Sl.L.pu rfl rfl trivial (pu_move rfl) ?_
  refine Go.Sl.L.nil ?_
  refine Gs.then_n ?_
  refine Gs.block ?_
  refine Gs.loop1 (fun s : Nat × List Rec × Nat => s.1 ≤ rs.length ∧ s.2.1 = putAll L (rs.take s.1) ∧ L.length + s.2.2 = s.2.1.length) (fun s => [(0, ptr b), (5, int s.2.2), (14, .slice a rs.length c), (15, int rs.length), (16, int s.1)]) (fun s => [ro h0, tre b s.2.1] ++ R) (fun s => rs.length - s.1) (0, L, 0) (⟨Nat.zero_le _, rfl, rfl⟩) (by repeat constructor) (by repeat constructor) (fun s hs => ?_)
  obtain ⟨i, K, n⟩ := s
  obtain ⟨hi, hK, hn⟩ := hs
  dsimp only at hi hK hn ⊢
  have hKl : K.length ≤ L.length + i := by rw [hK]; have := (putAll_length L (rs.take i)).2; rw [List.length_take] at this; omega
  refine Gs.seq ?_
  refine Gs.reg ?_
  refine Go.Sl.L.pu rfl rfl trivial (pu_lt rfl rfl) ?_
  refine Go.Sl.L.nil ?_
  refine Gs.then_n ?_
  refine Gs.seq ?_
  refine Gs.cond rfl (fun hc1 => ?_) (fun hc1 => ?_)
  · skip
    have hlt : i < rs.length := by have := of_decide_eq_true hc1; omega
    obtain ⟨r, hr⟩ : ∃ x, rs[i]? = some x := ⟨rs[i], by simp [hlt]⟩
    obtain rfl := ha (by rintro rfl; simp at hlt)
    have hstep := putAll_take (L := L) hr
    rw [← hK] at hstep
    refine Gs.skip ?_
    refine Gs.then_n ?_
    refine Gs.seq ?_
    refine Gs.block ?_
    refine Gs.seq ?_
    refine Gs.reg ?_
    refine Go.Sl.L.pu rfl rfl trivial (pu_ia se_22 rfl rfl (by omega) (by omega)) ?_
    refine Go.Sl.L.rd rfl rfl trivial (rd_lda ag_42 rfl (Rdc.el0 ((SlH.ro (by repeat constructor) hS)) hr rfl rfl) rfl) ?_
    refine Go.Sl.L.ac rfl rfl trivial (ac_alloc zv_42 rfl) ?_
    rintro _ _ ⟨rb, rfl, rfl⟩
    refine Go.Sl.L.ac0 rfl trivial (ac_st sz_42 rfl rfl (by repeat constructor) rfl rfl rfl rfl) ?_
    rintro _ _ rfl
    refine Go.Sl.L.nil ?_
    refine Gs.then_n ?_
    refine Gs.seq ?_
    refine Gs.reg ?_
    refine Go.Sl.L.rd rfl rfl trivial (rd_lda ag_42 rfl (Rdc.cl 5 (by repeat constructor) rfl) rfl) ?_
    refine Go.Sl.L.ac rfl rfl trivial (as_call (layR_any T r) (by repeat constructor) (by repeat constructor)) ?_
    rintro _ _ ⟨_, ⟨ba, bc, bs, e, rfl, rfl, hbs⟩, rfl⟩
    refine Go.Sl.L.pu rfl rfl trivial (pu_move rfl) ?_
    refine Go.Sl.L.pu rfl rfl trivial (pu_extract rfl rfl) ?_
    refine Go.Sl.L.pu rfl rfl trivial (pu_extract rfl rfl) ?_
    refine Go.Sl.L.pu rfl rfl trivial (pu_assign rfl) ?_
    refine Go.Sl.L.pu rfl rfl trivial (pu_assign rfl) ?_
    refine Go.Sl.L.nil ?_
    refine Gs.then_n ?_
    refine Gs.seq ?_
    refine Gs.seq ?_
    refine Gs.treOpen (by repeat constructor) fun m1 m2 C hok hC => ?_
    refine Gs.regD mixed (by kernel_rfl) ?_
    refine Rg.pu 0 rfl rfl (by kernel_rfl) trivial (pu_move rfl) ?_
    refine Rg.pu 1 rfl rfl (by kernel_rfl) trivial (by first | exact pu_nil rfl | exact pu_nilF rfl) ?_
    refine Rg.pu 2 rfl rfl (by kernel_rfl) trivial (pu_fa fa_80_0 rfl) ?_
    refine Rg.rd 3 rfl rfl (by kernel_rfl) trivial (rd_ld na_77 rfl (Rdc.cl1 (by repeat constructor) rfl)) ?_
    refine Rg.pu 4 rfl rfl (by kernel_rfl) trivial (pu_fa fa_42_0 rfl) ?_
    refine Rg.rd 5 rfl rfl (by kernel_rfl) trivial (rd_lda ag_38 rfl (Rdc.cl 2 (by repeat constructor) rfl) rfl) ?_
    refine Rg.rd 6 rfl rfl (by kernel_rfl) trivial (rd_look2 (k := r.key) Tryd.underlying77 kt_38 zvk_87 rfl rfl (by repeat constructor)) ?_
    rw [mget_lents]
    refine Rg.pu 7 rfl rfl (by kernel_rfl) trivial (pu_move rfl) ?_
    refine Rg.pu 8 rfl rfl (by kernel_rfl) trivial (pu_extract rfl rfl) ?_
    refine Rg.pu 9 rfl rfl (by kernel_rfl) trivial (pu_extract rfl rfl) ?_
    refine Rg.one (by kernel_rfl) (Stp.acK 10 rfl rfl (by kernel_rfl) trivial (ac_alloc zv_87 rfl) (by rintro _ _ ⟨lb, rfl, rfl⟩ w s; first | exact s.drop | exact s | exact Ent.sat (by repeat constructor) s) ?_)
    rintro _ _ ⟨lb, rfl, rfl⟩
    refine Rg.one (by kernel_rfl) (Stp.ac0 11 rfl rfl (by kernel_rfl) trivial (ac_st sz_87 rfl rfl (by repeat constructor) rfl rfl rfl rfl)  ?_)
    rintro _ _ rfl
    refine Rg.pu 12 rfl rfl (by kernel_rfl) trivial (pu_assign rfl) ?_
    refine Rg.end (by kernel_rfl) ?_
    refine Gs.then_n ?_
    refine Gs.seq ?_
    refine Gs.reg ?_
    refine Go.Sl.L.pu rfl rfl trivial (pu_move rfl) ?_
    refine Go.Sl.L.pu rfl rfl trivial (pu_ne rfl rfl) ?_
    refine Go.Sl.L.puB rfl rfl trivial (pu_move rfl) (fun hg2 => ?_) (fun hg2 => ?_)
    · skip
      have hg2' := of_decide_eq_true hg2
      have hno : putOne K r = K := by rcases hbs with ⟨-, h, -⟩ | ⟨h, -, -⟩ <;> first | exact absurd h hg2' | simp [putOne, putOk, h]
      refine Go.Sl.L.off rfl rfl rfl rfl rfl rfl ?_
      refine Go.Sl.L.pu rfl rfl trivial (by first | exact pu_pick_t rfl rfl | exact pu_pick_f rfl rfl) ?_
      refine Go.Sl.L.nil ?_
      refine Gs.then_n ?_
      refine Gs.cond_t rfl ?_
      refine Gs.exit ?_
      refine Gs.then_x ?_
      refine Gs.blk_hit ?_
      refine Gs.then_n ?_
      first | (have hX := hno; refine Gs.treClose (L := K) (C := C) (by repeat constructor) hok hC ?_) | (have hX := hyes; refine Gs.treClose (L := K ++ [r]) (C := C') (by repeat constructor) (by rw [← hyes]; exact hok.put r) (hC.put hC') ?_)
      refine Gs.reg ?_
      refine Go.Sl.L.pu rfl rfl trivial (by first | exact pu_addI rfl rfl rfl (by omega) (by omega) | exact pu_add rfl rfl) ?_
      refine Go.Sl.L.pu rfl rfl trivial (pu_move rfl) ?_
      refine Go.Sl.L.nil ?_
      refine Gs.then_n ?_
      first | (have hX := hno; exact Gs.again1 (i + 1, K, n) ⟨by show i + 1 ≤ rs.length; omega, by show K = _; rw [hstep, hno], hn⟩ (by show rs.length - (i + 1) < rs.length - i; omega) (by repeat constructor) (by repeat constructor)) | (have hX := hyes; exact Gs.again1 (i + 1, K ++ [r], n + 1) ⟨by show i + 1 ≤ rs.length; omega, by show K ++ [r] = _; rw [hstep, hyes], by show L.length + (n + 1) = (K ++ [r]).length; rw [List.length_append, ← hn]; simp; omega⟩ (by show rs.length - (i + 1) < rs.length - i; omega) (by repeat constructor) (by repeat constructor))
    · skip
      have hg2' := of_decide_eq_false hg2
      obtain ⟨hrb, hbl⟩ : recB r = true ∧ bs = layB r := by rcases hbs with ⟨h, -, h2⟩ | ⟨-, h, -⟩ <;> first | exact ⟨h, h2⟩ | omega
      refine Go.Sl.L.pu rfl rfl ⟨_, rfl, rfl⟩ (pu_move rfl) ?_
      refine Go.Sl.L.pu rfl rfl trivial (by first | exact pu_pick_t rfl rfl | exact pu_pick_f rfl rfl) ?_
      refine Go.Sl.L.nil ?_
      refine Gs.then_n ?_
      refine Gs.cond rfl (fun hc2 => ?_) (fun hc2 => ?_)
      · skip
        have hso : ((lookR K r.key).map fun r => (r, hashR r)).isSome = true := hc2
        have hno : putOne K r = K := by
          cases hl : lookR K r.key with
          | none => rw [hl] at hso; cases hso
          | some x => simp [putOne, putOk, hl]
        refine Gs.exit ?_
        refine Gs.then_x ?_
        refine Gs.blk_hit ?_
        refine Gs.then_n ?_
        first | (have hX := hno; refine Gs.treClose (L := K) (C := C) (by repeat constructor) hok hC ?_) | (have hX := hyes; refine Gs.treClose (L := K ++ [r]) (C := C') (by repeat constructor) (by rw [← hyes]; exact hok.put r) (hC.put hC') ?_)
        refine Gs.reg ?_
        refine Go.Sl.L.pu rfl rfl trivial (by first | exact pu_addI rfl rfl rfl (by omega) (by omega) | exact pu_add rfl rfl) ?_
        refine Go.Sl.L.pu rfl rfl trivial (pu_move rfl) ?_
        refine Go.Sl.L.nil ?_
        refine Gs.then_n ?_
        first | (have hX := hno; exact Gs.again1 (i + 1, K, n) ⟨by show i + 1 ≤ rs.length; omega, by show K = _; rw [hstep, hno], hn⟩ (by show rs.length - (i + 1) < rs.length - i; omega) (by repeat constructor) (by repeat constructor)) | (have hX := hyes; exact Gs.again1 (i + 1, K ++ [r], n + 1) ⟨by show i + 1 ≤ rs.length; omega, by show K ++ [r] = _; rw [hstep, hyes], by show L.length + (n + 1) = (K ++ [r]).length; rw [List.length_append, ← hn]; simp; omega⟩ (by show rs.length - (i + 1) < rs.length - i; omega) (by repeat constructor) (by repeat constructor))
      · skip
        have hso : ((lookR K r.key).map fun r => (r, hashR r)).isSome = false := hc2
        have hlk : lookR K r.key = none := by
          cases hl : lookR K r.key with
          | none => rfl
          | some x => rw [hl] at hso; cases hso
        have hyes : putOne K r = K ++ [r] := by simp [putOne, putOk, hrb, hlk]
        have hbt := recB_text hrb
        have hbl2 := layB_length r
        subst hbl
        have hflat : flat [⟨ba, layB r, bc⟩] = layB r := by simp [flat]
        obtain ⟨q1, q2, q3, q4⟩ := rec_q hrb
        have hk0 : 0 ≤ r.key.q := by show 0 ≤ r.q; omega
        have hk1 : r.key.q ≤ 100000 := by show r.q ≤ 100000; omega
        have hbd := hC.bound (by omega) r.key
        refine Gs.skip ?_
        refine Gs.then_n ?_
        refine Gs.seq ?_
        refine Gs.regD mixed (by kernel_rfl) ?_
        refine Rg.pu 0 rfl rfl (by kernel_rfl) trivial (pu_move rfl) ?_
        refine Rg.pu 1 rfl rfl (by kernel_rfl) trivial (by first | exact pu_nil rfl | exact pu_nilF rfl) ?_
        refine Rg.pu 2 rfl rfl (by kernel_rfl) trivial (pu_fa fa_80_0 rfl) ?_
        refine Rg.rd 3 rfl rfl (by kernel_rfl) trivial (rd_ld na_77 rfl (Rdc.cl1 (by repeat constructor) rfl)) ?_
        refine Rg.pu 4 rfl rfl (by kernel_rfl) trivial (pu_fa fa_42_0 rfl) ?_
        refine Rg.rd 5 rfl rfl (by kernel_rfl) trivial (rd_lda ag_38 rfl (Rdc.cl 2 (by repeat constructor) rfl) rfl) ?_
        refine Rg.rd 6 rfl rfl (by kernel_rfl) trivial (rd_lda ag_42 rfl (Rdc.cl 5 (by repeat constructor) rfl) rfl) ?_
        refine Rg.pu 7 rfl rfl (by kernel_rfl) trivial (pu_move rfl) ?_
        refine Rg.one (by kernel_rfl) (Stp.acK 8 rfl rfl (by kernel_rfl) trivial (ac_lit encC_82 ([⟨ba, layB r, bc⟩]) et_102 ek_82 rfl (by repeat constructor) rfl rfl (by decide)) (by rintro _ _ ⟨a48, rfl, rfl⟩ w s; first | exact s.drop | exact s | exact Ent.sat (by repeat constructor) s) ?_)
        rintro _ _ ⟨a48, rfl, rfl⟩
        refine Rg.one (by kernel_rfl) (Stp.acR 9 [3, 5, 6] rfl rfl (by kernel_rfl) trivial (as_call (of_spec (U := sl 82 1 slC (some ⟨a48, 0, none⟩) 1 [⟨ba, layB r, bc⟩]) (S := sl 5 1 byteC ba bc (layB r)) Srd.own (by simp; exact ⟨Srd.own, by omega⟩) (by simp)) (by repeat constructor) (by repeat constructor)) (by rintro _ _ ⟨_, ⟨rfl, rfl⟩, rfl⟩; exact (Reads.cons rfl rfl rfl trivial rfl (rd_ld na_77 rfl (Rdc.cl1 (by repeat constructor) rfl)) (Reads.cons rfl rfl rfl trivial rfl (rd_lda ag_38 rfl (Rdc.cl 2 (by repeat constructor) rfl) rfl) (Reads.cons rfl rfl rfl trivial rfl (rd_lda ag_42 rfl (Rdc.cl 5 (by repeat constructor) rfl) rfl) Reads.nil)))) ?_)
        rintro _ _ ⟨_, ⟨rfl, rfl⟩, rfl⟩
        rw [hflat]
        refine Rg.pu 10 rfl rfl (by kernel_rfl) trivial (pu_build bd_87 (by repeat constructor) rfl) ?_
        refine Rg.one (by kernel_rfl) (Stp.ac0 11 rfl rfl (by kernel_rfl) trivial (ac_put (enck := keyV) (encv := leafV) (b := m1) (m := lents K) (k := r.key) (v := (r, hashB (layB r))) Tryd.underlying77 kt_38 rfl rfl (by show some _ = some (leafV (r, hashB (layB r))); congr 1) (by repeat constructor))  ?_)
        rintro _ _ rfl
        rw [show mput (lents K) r.key (r, hashB (layB r)) = lents (K ++ [r]) from mput_lents K r hlk]
        refine Rg.end (by kernel_rfl) ?_
        refine Gs.then_n ?_
        refine Gs.seq ?_
        refine Gs.reg ?_
        refine Go.Sl.L.pu rfl rfl trivial (pu_move rfl) ?_
        refine Go.Sl.L.pu rfl rfl trivial (pu_fa fa_42_0 rfl) ?_
        refine Go.Sl.L.rd rfl rfl trivial (rd_lda ag_38 rfl (Rdc.cl 2 (by repeat constructor) rfl) rfl) ?_
        refine Go.Sl.L.ac rfl rfl trivial (as_call (count_spec b m1 m2 C r.key 1 hk0 hk1 (.inl rfl) hbd) (by repeat constructor) (by repeat constructor)) ?_
        rintro _ _ ⟨_, ⟨C', rfl, rfl, hC'⟩, rfl⟩
        refine Go.Sl.L.nil ?_
        refine Gs.then_n ?_
        refine Gs.reg ?_
        refine Go.Sl.L.pu rfl rfl trivial (pu_move rfl) ?_
        refine Go.Sl.L.pu rfl rfl trivial (pu_addI (z := ((n + 1 : Nat) : Int)) rfl rfl (by omega) (by omega) (by omega)) ?_
        refine Go.Sl.L.pu rfl rfl trivial (pu_assign rfl) ?_
        refine Go.Sl.L.nil ?_
        refine Gs.blk_n ?_
        refine Gs.then_n ?_
        first | (have hX := hno; refine Gs.treClose (L := K) (C := C) (by repeat constructor) hok hC ?_) | (have hX := hyes; refine Gs.treClose (L := K ++ [r]) (C := C') (by repeat constructor) (by rw [← hyes]; exact hok.put r) (hC.put hC') ?_)
        refine Gs.reg ?_
        refine Go.Sl.L.pu rfl rfl trivial (by first | exact pu_addI rfl rfl rfl (by omega) (by omega) | exact pu_add rfl rfl) ?_
        refine Go.Sl.L.pu rfl rfl trivial (pu_move rfl) ?_
        refine Go.Sl.L.nil ?_
        refine Gs.then_n ?_
        first | (have hX := hno; exact Gs.again1 (i + 1, K, n) ⟨by show i + 1 ≤ rs.length; omega, by show K = _; rw [hstep, hno], hn⟩ (by show rs.length - (i + 1) < rs.length - i; omega) (by repeat constructor) (by repeat constructor)) | (have hX := hyes; exact Gs.again1 (i + 1, K ++ [r], n + 1) ⟨by show i + 1 ≤ rs.length; omega, by show K ++ [r] = _; rw [hstep, hyes], by show L.length + (n + 1) = (K ++ [r]).length; rw [List.length_append, ← hn]; simp; omega⟩ (by show rs.length - (i + 1) < rs.length - i; omega) (by repeat constructor) (by repeat constructor))
  · skip
    have hge : i = rs.length := by have := of_decide_eq_false hc1; omega
    rw [hge, List.take_length] at hK
    subst hK
    refine Gs.exit ?_
    refine Gs.then_x ?_
    refine Gs.then_x ?_
    refine Gs.blk_hit ?_
    refine Gs.then_n ?_
    refine Gs.seq ?_
    refine Gs.reg ?_
    refine Go.Sl.L.pu rfl rfl trivial (pu_move rfl) ?_
    refine Go.Sl.L.pu rfl rfl trivial (pu_assign rfl) ?_
    refine Go.Sl.L.nil ?_
    refine Gs.then_n ?_
    refine Gs.ret ?_
    exact Gs.fin1 Tryd.results23 rfl _ (⟨by congr 1; omega, rfl⟩) (by repeat constructor)
theorem treeGet_spec (b : Nat) (L : List Rec) (k : Key) : Ct Tryd.prog 25 [ptr b, keyV k] [tre b L] (fun v hs => v = .tuple #[recV ((lookR L k).getD Rec.zero), .bool (lookR L k).isSome] ∧ hs = [tre b L]) := by
  refine Ct.intro Tryd.func25 rfl (by kernel_rfl) 23 Tryd.ntmps25 (Nat.le_of_ble_eq_true rfl) fun w0 R => ?_
  refine Gs.seq ?_
  refine Gs.reg ?_
  refine Go.Sl.L.ac rfl rfl trivial (ac_box rfl rfl) ?_
  rintro _ _ ⟨kb, rfl, rfl⟩
  refine Go.Sl.L.ac rfl rfl trivial (ac_alloc zv_42 rfl) ?_
  rintro _ _ ⟨ob, rfl, rfl⟩
  refine Go.Sl.L.pu rfl rfl trivial (pu_assign rfl) ?_
  refine Go.Sl.L.nil ?_
  refine Gs.then_n ?_
  refine Gs.seq ?_
  refine Gs.seq ?_
  refine Gs.reg ?_
  refine Go.Sl.L.pu rfl rfl trivial (pu_move rfl) ?_
  refine Go.Sl.L.pu rfl rfl trivial (pu_eqN Tryd.underlying25 rfl rfl) ?_
  refine Go.Sl.L.nil ?_
  refine Gs.then_n ?_
  refine Gs.cond_f rfl ?_
  refine Gs.skip ?_
  refine Gs.then_n ?_
  refine Gs.seq ?_
  refine Gs.treOpen (by repeat constructor) fun m1 m2 C hok hC => ?_
  refine Gs.regD mixed (by kernel_rfl) ?_
  refine Rg.pu 0 rfl rfl (by kernel_rfl) trivial (pu_move rfl) ?_
  refine Rg.pu 1 rfl rfl (by kernel_rfl) trivial (by first | exact pu_nil rfl | exact pu_nilF rfl) ?_
  refine Rg.pu 2 rfl rfl (by kernel_rfl) trivial (pu_fa fa_80_0 rfl) ?_
  refine Rg.rd 3 rfl rfl (by kernel_rfl) trivial (rd_ld na_77 rfl (Rdc.cl1 (by repeat constructor) rfl)) ?_
  refine Rg.rd 4 rfl rfl (by kernel_rfl) trivial (rd_lda ag_38 rfl (Rdc.cl 2 (by repeat constructor) rfl) rfl) ?_
  refine Rg.rd 5 rfl rfl (by kernel_rfl) trivial (rd_look2 (k := k) Tryd.underlying77 kt_38 zvk_87 rfl rfl (by repeat constructor)) ?_
  rw [mget_lents]
  refine Rg.pu 6 rfl rfl (by kernel_rfl) trivial (pu_move rfl) ?_
  refine Rg.pu 7 rfl rfl (by kernel_rfl) trivial (pu_extract rfl rfl) ?_
  refine Rg.pu 8 rfl rfl (by kernel_rfl) trivial (pu_extract rfl rfl) ?_
  refine Rg.one (by kernel_rfl) (Stp.acK 9 rfl rfl (by kernel_rfl) trivial (ac_alloc zv_87 rfl) (by rintro _ _ ⟨lb, rfl, rfl⟩ w s; first | exact s.drop | exact s | exact Ent.sat (by repeat constructor) s) ?_)
  rintro _ _ ⟨lb, rfl, rfl⟩
  refine Rg.one (by kernel_rfl) (Stp.ac0 10 rfl rfl (by kernel_rfl) trivial (ac_st sz_87 rfl rfl (by repeat constructor) rfl rfl rfl rfl)  ?_)
  rintro _ _ rfl
  refine Rg.pu 11 rfl rfl (by kernel_rfl) trivial (pu_assign rfl) ?_
  refine Rg.end (by kernel_rfl) ?_
  refine Gs.then_n ?_
  refine Gs.seq ?_
  refine Gs.reg ?_
  refine Go.Sl.L.pu rfl rfl trivial (pu_fa fa_87_0 rfl) ?_
  refine Go.Sl.L.rd rfl rfl trivial (rd_lda ag_42 rfl (Rdc.cl 5 (by repeat constructor) rfl) rfl) ?_
  refine Go.Sl.L.pu rfl rfl trivial (pu_move rfl) ?_
  refine Go.Sl.L.ac0 rfl trivial (ac_st sz_42 rfl rfl (by repeat constructor) rfl rfl rfl rfl) ?_
  rintro _ _ rfl
  refine Go.Sl.L.pu rfl rfl trivial (pu_assign rfl) ?_
  refine Go.Sl.L.nil ?_
  refine Gs.then_n ?_
  refine Gs.ret ?_
  refine Gs.treClose (L := L) (C := C) (by repeat constructor) hok hC ?_
  exact Gs.finc2 Tryd.results25 ag_42 rfl (Rdc.cl 5 (by repeat constructor) rfl) rfl rfl _ (⟨by cases lookR L k <;> rfl, rfl⟩) (by repeat constructor)
def delAll (L : List Rec) (ks : List Key) : List Rec := ks.foldl delR L
theorem delAll_take {L : List Rec} {ks : List Key} {i : Nat} {k : Key} (h : ks[i]? = some k) : delAll L (ks.take (i + 1)) = delR (delAll L (ks.take i)) k := by
  rw [List.take_add_one, h]; simp [delAll]
theorem delR_length (L : List Rec) (k : Key) : (delR L k).length ≤ L.length := List.length_filter_le ..
theorem delR_none {L : List Rec} {k : Key} (h : lookR L k = none) : delR L k = L := List.filter_eq_self.2 fun r hr => by
  have : r.key ≠ k := fun e => lookR_none.1 h (e ▸ List.mem_map_of_mem hr)
  simpa using this
theorem delR_some {L : List Rec} {k : Key} {r : Rec} (hn : (L.map Rec.key).Nodup) (h : lookR L k = some r) : (delR L k).length + 1 = L.length := by
  obtain ⟨X, Y, e1, e2⟩ := delR_split hn h
  rw [e2, e1]; simp; omega
theorem treeDrop_spec {S : HProp} (b : Nat) (L : List Rec) {a : Option Addr} {c : Nat} {ks : List Key} (hS : Srd S 2 keyC a ks) (hl : ks.length ≤ 100000) (hL : L.length ≤ 200000) :
    Ct Tryd.prog 21 [ptr b, .slice a ks.length c] [S, tre b L] (fun v hs => v = int (L.length - (delAll L ks).length : Int) ∧ hs = [S, tre b (delAll L ks)]) := by
  refine Ct.intro Tryd.func21 rfl (by kernel_rfl) 35 Tryd.ntmps21 (Nat.le_of_ble_eq_true rfl) fun w0 R => ?_
  refine Gs.slAddr (hS.h (by repeat constructor)) fun ab ao ha => ?_
  refine Gs.seq ?_
  refine Gs.reg ?_
  refine Go.Sl.L.pu rfl rfl trivial (pu_assign rfl) ?_
  refine Go.Sl.L.nil ?_
  refine Gs.then_n ?_
  refine Gs.seq ?_
  refine Gs.reg ?_
  refine Go.Sl.L.pu rfl rfl trivial (pu_assign rfl) ?_
  refine Go.Sl.L.nil ?_
  refine Gs.then_n ?_
  refine Gs.seq ?_
  refine Gs.seq ?_
  refine Gs.reg ?_
  refine Go.Sl.L.pu rfl rfl trivial (pu_move rfl) ?_
  refine Go.Sl.L.pu rfl rfl trivial (pu_len Tryd.underlying30 rfl) ?_
  refine Go.Sl.L.pu rfl rfl trivial (pu_move rfl) ?_
  refine Go.Sl.L.nil ?_
  refine Gs.then_n ?_
  refine Gs.block ?_
  refine Gs.loop1 (fun s : Nat × List Rec × Nat => s.1 ≤ ks.length ∧ s.2.1 = delAll L (ks.take s.1) ∧ s.2.1.length + s.2.2 = L.length) (fun s => [(0, ptr b), (5, int s.2.2), (10, .slice a ks.length c), (11, int ks.length), (12, int s.1)]) (fun s => [S, tre b s.2.1] ++ R) (fun s => ks.length - s.1) (0, L, 0) (⟨Nat.zero_le _, rfl, rfl⟩) (by repeat constructor) (by repeat constructor) (fun s hs => ?_)
  obtain ⟨i, K, n⟩ := s
  obtain ⟨hi, hK, hn⟩ := hs
  dsimp only at hi hK hn ⊢
  refine Gs.seq ?_
  refine Gs.reg ?_
  refine Go.Sl.L.pu rfl rfl trivial (pu_lt rfl rfl) ?_
  refine Go.Sl.L.nil ?_
  refine Gs.then_n ?_
  refine Gs.seq ?_
  refine Gs.cond rfl (fun hc0 => ?_) (fun hc0 => ?_)
  · skip
    have hlt : i < ks.length := by have := of_decide_eq_true hc0; omega
    obtain ⟨k, hk⟩ : ∃ x, ks[i]? = some x := ⟨ks[i], by simp [hlt]⟩
    obtain rfl := ha (by rintro rfl; simp at hlt)
    have hstep := delAll_take (L := L) hk
    rw [← hK] at hstep
    refine Gs.skip ?_
    refine Gs.then_n ?_
    refine Gs.seq ?_
    refine Gs.block ?_
    refine Gs.seq ?_
    refine Gs.reg ?_
    refine Go.Sl.L.pu rfl rfl trivial (pu_ia se_30 rfl rfl (by omega) (by omega)) ?_
    refine Go.Sl.L.rd rfl rfl trivial (rd_lda ag_38 rfl (Rdc.el0 (hS.h (by repeat constructor)) hk rfl rfl) rfl) ?_
    refine Go.Sl.L.ac rfl rfl trivial (ac_alloc zv_38 rfl) ?_
    rintro _ _ ⟨kb, rfl, rfl⟩
    refine Go.Sl.L.ac0 rfl trivial (ac_st sz_38 rfl rfl (by repeat constructor) rfl rfl rfl rfl) ?_
    rintro _ _ rfl
    refine Go.Sl.L.nil ?_
    refine Gs.then_n ?_
    refine Gs.seq ?_
    refine Gs.reg ?_
    refine Go.Sl.L.pu rfl rfl trivial (pu_move rfl) ?_
    refine Go.Sl.L.rd rfl rfl trivial (rd_lda ag_38 rfl (Rdc.cl 2 (by repeat constructor) rfl) rfl) ?_
    refine Go.Sl.L.ac rfl rfl trivial (as_call (treeGet_spec b K k) (by repeat constructor) (by repeat constructor)) ?_
    rintro _ _ ⟨_, ⟨rfl, rfl⟩, rfl⟩
    refine Go.Sl.L.pu rfl rfl trivial (pu_move rfl) ?_
    refine Go.Sl.L.pu rfl rfl trivial (pu_extract rfl rfl) ?_
    refine Go.Sl.L.pu rfl rfl trivial (pu_extract rfl rfl) ?_
    refine Go.Sl.L.ac rfl rfl trivial (ac_alloc zv_42 rfl) ?_
    rintro _ _ ⟨gb, rfl, rfl⟩
    refine Go.Sl.L.ac0 rfl trivial (ac_st sz_42 rfl rfl (by repeat constructor) rfl rfl rfl rfl) ?_
    rintro _ _ rfl
    refine Go.Sl.L.pu rfl rfl trivial (pu_assign rfl) ?_
    refine Go.Sl.L.nil ?_
    refine Gs.then_n ?_
    refine Gs.seq ?_
    refine Gs.reg ?_
    refine Go.Sl.L.pu rfl rfl trivial (pu_move rfl) ?_
    refine Go.Sl.L.nil ?_
    refine Gs.then_n ?_
    refine Gs.cond rfl (fun hc1 => ?_) (fun hc1 => ?_)
    · skip
      obtain ⟨r, hr⟩ : ∃ r, lookR K k = some r := by cases hx : lookR K k with
        | none => rw [hx] at hc1; cases hc1
        | some r => exact ⟨r, rfl⟩
      refine Gs.treOpen (by repeat constructor) fun m1 m2 C hok hC => ?_
      obtain ⟨q1, q2, q3, q4⟩ := rec_q (hok.may r (lookR_key hr).2)
      have hkk := (lookR_key hr).1
      have hlen := delR_some hok.nd hr
      have hk0 : 0 ≤ k.q := by rw [← hkk]; show 0 ≤ r.q; omega
      have hk1 : k.q ≤ 100000 := by rw [← hkk]; show r.q ≤ 100000; omega
      have hbd := hC.bound (by omega) k
      refine Gs.seq ?_
      refine Gs.regD mixed (by kernel_rfl) ?_
      refine Rg.pu 0 rfl rfl (by kernel_rfl) trivial (pu_move rfl) ?_
      refine Rg.pu 1 rfl rfl (by kernel_rfl) trivial (by first | exact pu_nil rfl | exact pu_nilF rfl) ?_
      refine Rg.pu 2 rfl rfl (by kernel_rfl) trivial (pu_fa fa_80_0 rfl) ?_
      refine Rg.rd 3 rfl rfl (by kernel_rfl) trivial (rd_ld na_77 rfl (Rdc.cl1 (by repeat constructor) rfl)) ?_
      refine Rg.rd 4 rfl rfl (by kernel_rfl) trivial (rd_lda ag_38 rfl (Rdc.cl 2 (by repeat constructor) rfl) rfl) ?_
      refine Rg.one (by kernel_rfl) (Stp.ac0 5 rfl rfl (by kernel_rfl) trivial (ac_del (k := k) (encv := encv_87) Tryd.underlying77 kt_38 rfl rfl rfl (by repeat constructor))  ?_)
      rintro _ _ rfl
      rw [mdel_lents K k hok.nd]
      refine Rg.end (by kernel_rfl) ?_
      refine Gs.then_n ?_
      refine Gs.seq ?_
      refine Gs.reg ?_
      refine Go.Sl.L.pu rfl rfl trivial (pu_move rfl) ?_
      refine Go.Sl.L.rd rfl rfl trivial (rd_lda ag_38 rfl (Rdc.cl 2 (by repeat constructor) rfl) rfl) ?_
      refine Go.Sl.L.ac rfl rfl trivial (as_call (count_spec b m1 m2 C k (-1) hk0 hk1 (.inr rfl) hbd) (by repeat constructor) (by repeat constructor)) ?_
      rintro _ _ ⟨_, ⟨C', rfl, rfl, hC'⟩, rfl⟩
      refine Go.Sl.L.nil ?_
      refine Gs.then_n ?_
      refine Gs.reg ?_
      refine Go.Sl.L.pu rfl rfl trivial (pu_move rfl) ?_
      refine Go.Sl.L.pu rfl rfl trivial (pu_addI (z := ((n + 1 : Nat) : Int)) rfl rfl (by omega) (by omega) (by omega)) ?_
      refine Go.Sl.L.pu rfl rfl trivial (pu_assign rfl) ?_
      refine Go.Sl.L.nil ?_
      refine Gs.blk_n ?_
      refine Gs.then_n ?_
      first | (have hX := hno; skip) | (have hX := hlen; refine Gs.treClose (L := delR K k) (C := C') (by repeat constructor) (hok.del k) (hC.del hok.nd hr hC') ?_)
      refine Gs.reg ?_
      refine Go.Sl.L.pu rfl rfl trivial (by first | exact pu_addI rfl rfl rfl (by omega) (by omega) | exact pu_add rfl rfl) ?_
      refine Go.Sl.L.pu rfl rfl trivial (pu_move rfl) ?_
      refine Go.Sl.L.nil ?_
      refine Gs.then_n ?_
      first | (have hX := hno; exact Gs.again1 (i + 1, K, n) ⟨by show i + 1 ≤ ks.length; omega, by show K = _; rw [hstep, hno], hn⟩ (by show ks.length - (i + 1) < ks.length - i; omega) (by repeat constructor) (by repeat constructor)) | (have hX := hlen; exact Gs.again1 (i + 1, delR K k, n + 1) ⟨by show i + 1 ≤ ks.length; omega, by show delR K k = _; rw [hstep], by show (delR K k).length + (n + 1) = L.length; omega⟩ (by show ks.length - (i + 1) < ks.length - i; omega) (by repeat constructor) (by repeat constructor))
    · skip
      have hr : lookR K k = none := by cases hx : lookR K k with
        | none => rfl
        | some r => rw [hx] at hc1; cases hc1
      have hno := delR_none hr
      refine Gs.skip ?_
      refine Gs.blk_n ?_
      refine Gs.then_n ?_
      first | (have hX := hno; skip) | (have hX := hlen; refine Gs.treClose (L := delR K k) (C := C') (by repeat constructor) (hok.del k) (hC.del hok.nd hr hC') ?_)
      refine Gs.reg ?_
      refine Go.Sl.L.pu rfl rfl trivial (by first | exact pu_addI rfl rfl rfl (by omega) (by omega) | exact pu_add rfl rfl) ?_
      refine Go.Sl.L.pu rfl rfl trivial (pu_move rfl) ?_
      refine Go.Sl.L.nil ?_
      refine Gs.then_n ?_
      first | (have hX := hno; exact Gs.again1 (i + 1, K, n) ⟨by show i + 1 ≤ ks.length; omega, by show K = _; rw [hstep, hno], hn⟩ (by show ks.length - (i + 1) < ks.length - i; omega) (by repeat constructor) (by repeat constructor)) | (have hX := hlen; exact Gs.again1 (i + 1, delR K k, n + 1) ⟨by show i + 1 ≤ ks.length; omega, by show delR K k = _; rw [hstep], by show (delR K k).length + (n + 1) = L.length; omega⟩ (by show ks.length - (i + 1) < ks.length - i; omega) (by repeat constructor) (by repeat constructor))
  · skip
    have hge : i = ks.length := by have := of_decide_eq_false hc0; omega
    rw [hge, List.take_length] at hK
    subst hK
    refine Gs.exit ?_
    refine Gs.then_x ?_
    refine Gs.then_x ?_
    refine Gs.blk_hit ?_
    refine Gs.then_n ?_
    refine Gs.seq ?_
    refine Gs.reg ?_
    refine Go.Sl.L.pu rfl rfl trivial (pu_move rfl) ?_
    refine Go.Sl.L.pu rfl rfl trivial (pu_assign rfl) ?_
    refine Go.Sl.L.nil ?_
    refine Gs.then_n ?_
    refine Gs.ret ?_
    exact Gs.fin1 Tryd.results21 rfl _ (⟨by congr 1; omega, rfl⟩) (by repeat constructor)
theorem treeLen_spec (b : Nat) (L : List Rec) : Ct Tryd.prog 24 [ptr b] [tre b L] (fun v hs => v = int L.length ∧ hs = [tre b L]) := by
  refine Ct.intro Tryd.func24 rfl (by kernel_rfl) 10 Tryd.ntmps24 (Nat.le_of_ble_eq_true rfl) fun w0 R => ?_
  refine Gs.seq ?_
  refine Gs.reg ?_
  refine Go.Sl.L.pu rfl rfl trivial (pu_assign rfl) ?_
  refine Go.Sl.L.nil ?_
  refine Gs.then_n ?_
  refine Gs.seq ?_
  refine Gs.seq ?_
  refine Gs.reg ?_
  refine Go.Sl.L.pu rfl rfl trivial (pu_move rfl) ?_
  refine Go.Sl.L.pu rfl rfl trivial (pu_eqN Tryd.underlying25 rfl rfl) ?_
  refine Go.Sl.L.nil ?_
  refine Gs.then_n ?_
  refine Gs.cond_f rfl ?_
  refine Gs.skip ?_
  refine Gs.then_n ?_
  refine Gs.seq ?_
  refine Gs.treOpen (by repeat constructor) fun m1 m2 C hok hC => ?_
  refine Gs.reg ?_
  refine Go.Sl.L.pu rfl rfl trivial (pu_move rfl) ?_
  refine Go.Sl.L.pu rfl rfl trivial (by first | exact pu_nil rfl | exact pu_nilF rfl) ?_
  refine Go.Sl.L.pu rfl rfl trivial (pu_fa fa_80_0 rfl) ?_
  refine Go.Sl.L.rd rfl rfl trivial (rd_ld na_77 rfl (Rdc.cl1 (by repeat constructor) rfl)) ?_
  refine Go.Sl.L.rd rfl rfl trivial (rd_lenM Tryd.underlying77 rfl (by repeat constructor)) ?_
  refine Go.Sl.L.pu rfl rfl trivial (pu_assign rfl) ?_
  refine Go.Sl.L.nil ?_
  refine Gs.then_n ?_
  refine Gs.ret ?_
  refine Gs.treClose (L := L) (C := C) (by repeat constructor) hok hC ?_
  exact Gs.fin1 Tryd.results24 rfl _ (⟨by rw [length_lents], rfl⟩) (by repeat constructor)
theorem pow_in {k : Nat} (h : k ≤ 5) : (1 : Int) ≤ 4 ^ k ∧ (4 : Int) ^ k ≤ 1024 := by
  match k, h with
  | 0, _ | 1, _ | 2, _ | 3, _ | 4, _ | 5, _ => decide
theorem long_spec (k : Nat) (hk : k ≤ 5) (z : Int) (hz : z = 5 - (k : Int)) : Ct Tryd.prog 53 [int z] [] (fun v hs => v = int (4 ^ k : Int) ∧ hs = []) := by
  subst hz
  refine Ct.intro Tryd.func53 rfl (by kernel_rfl) 12 Tryd.ntmps53 (Nat.le_of_ble_eq_true rfl) fun w0 R => ?_
  refine Gs.seq ?_
  refine Gs.reg ?_
  refine Go.Sl.L.pu rfl rfl trivial (pu_assign rfl) ?_
  refine Go.Sl.L.nil ?_
  refine Gs.then_n ?_
  refine Gs.seq ?_
  refine Gs.reg ?_
  refine Go.Sl.L.pu rfl rfl trivial (pu_assign rfl) ?_
  refine Go.Sl.L.nil ?_
  refine Gs.then_n ?_
  refine Gs.seq ?_
  refine Gs.seq ?_
  refine Gs.reg ?_
  refine Go.Sl.L.pu rfl rfl trivial (pu_move rfl) ?_
  refine Go.Sl.L.pu rfl rfl trivial (pu_subI (z := (k : Int)) rfl rfl (by omega) (by omega) (by omega)) ?_
  refine Go.Sl.L.pu rfl rfl trivial (pu_move rfl) ?_
  refine Go.Sl.L.nil ?_
  refine Gs.then_n ?_
  refine Gs.block ?_
  refine Gs.loop1 (fun s : Nat × Int => s.1 ≤ k ∧ s.2 = 4 ^ s.1) (fun s => [(3, int s.2), (5, int k), (6, int s.1)]) (fun _ => R) (fun s => k - s.1) (0, 1) (⟨Nat.zero_le _, rfl⟩) (by repeat constructor) (by repeat constructor) (fun s hs => ?_)
  obtain ⟨j, p⟩ := s
  obtain ⟨hj, hp⟩ := hs
  dsimp only at hj hp ⊢
  have hpb := pow_in (k := j) (by omega)
  rw [← hp] at hpb
  refine Gs.seq ?_
  refine Gs.reg ?_
  refine Go.Sl.L.pu rfl rfl trivial (pu_lt rfl rfl) ?_
  refine Go.Sl.L.nil ?_
  refine Gs.then_n ?_
  refine Gs.seq ?_
  refine Gs.cond rfl (fun hc0 => ?_) (fun hc0 => ?_)
  · skip
    have hlt : j < k := by have := of_decide_eq_true hc0; omega
    refine Gs.skip ?_
    refine Gs.then_n ?_
    refine Gs.seq ?_
    refine Gs.block ?_
    refine Gs.reg ?_
    refine Go.Sl.L.pu rfl rfl trivial (pu_move rfl) ?_
    refine Go.Sl.L.pu rfl rfl trivial (by first | exact pu_mulI rfl rfl rfl (by omega) (by omega) | exact pu_mul rfl rfl) ?_
    refine Go.Sl.L.pu rfl rfl trivial (pu_assign rfl) ?_
    refine Go.Sl.L.nil ?_
    refine Gs.blk_n ?_
    refine Gs.then_n ?_
    refine Gs.reg ?_
    refine Go.Sl.L.pu rfl rfl trivial (by first | exact pu_addI rfl rfl rfl (by omega) (by omega) | exact pu_add rfl rfl) ?_
    refine Go.Sl.L.pu rfl rfl trivial (pu_move rfl) ?_
    refine Go.Sl.L.nil ?_
    refine Gs.then_n ?_
    exact Gs.again1 (j + 1, p * 4) ⟨by show j + 1 ≤ k; omega, by show p * 4 = _; rw [hp]; rfl⟩ (by show k - (j + 1) < k - j; omega) (by repeat constructor) (by repeat constructor)
  · skip
    have hge : j = k := by have := of_decide_eq_false hc0; omega
    rw [hge] at hp
    refine Gs.exit ?_
    refine Gs.then_x ?_
    refine Gs.then_x ?_
    refine Gs.blk_hit ?_
    refine Gs.then_n ?_
    refine Gs.seq ?_
    refine Gs.reg ?_
    refine Go.Sl.L.pu rfl rfl trivial (pu_move rfl) ?_
    refine Go.Sl.L.pu rfl rfl trivial (pu_assign rfl) ?_
    refine Go.Sl.L.nil ?_
    refine Gs.then_n ?_
    refine Gs.ret ?_
    exact Gs.fin1 Tryd.results53 rfl _ (⟨by rw [hp], rfl⟩) (by repeat constructor)
end Go.Proofs.YthlnjkfahmebjaaDoor
