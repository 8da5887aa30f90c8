/- What the closing leans on: part 9. -/
import Derived.Test.YtflfhpokmidnmaaGreatDoorXh
import Derived.Test.YtflfhpokmidnmaaGreatDoorXf
import Derived.Test.YtflfhpokmidnmaaGreatDoorXd
import Derived.Laws.BytesString
import Derived.Test.YtflfhpokmidnmaaGreatDoorXa
import Derived.Test.YtflfhpokmidnmaaGreatDoorXg
import Derived.Test.YtflfhpokmidnmaaGreatDoorXb
import Derived.Test.YtflfhpokmidnmaaGreatDoorXc
namespace Go.Proofs.YtflfhpokmidnmaaGreatDoor
open Go Go.Sl Go.Gv Go.Kv
set_option maxRecDepth 100000
theorem layR_any {h0 : Hp} (T : Tabs h0) (r : Rec) : Ct Tryz.prog 101 [recV r] [ro h0] (fun v hs => ∃ a c bs e, v = .tuple #[.slice a (bs : List UInt8).length c, int e] ∧ hs = [ro h0, sl 5 1 byteC a c bs] ∧ ((recB r = true ∧ e = 0 ∧ bs = layB r) ∨ (recB r = false ∧ e = 2 ∧ bs = []))) := by
 cases hr : recB r with
 | true => exact (layR_ok T r hr).mono fun v hs ⟨a, c, h1, h2⟩ => ⟨a, c, layB r, 0, h1, h2, .inl ⟨rfl, rfl, rfl⟩⟩
 | false => exact ⟨(layR_bad T r hr).enters, fun w0 w R s => ((layR_bad T r hr).calls w0 w R s).mono fun e w' ⟨v, hs, he, ⟨hv, hh⟩, hsat⟩ => ⟨v, [ro h0, sl 5 1 byteC none 0 []], he, ⟨none, 0, [], 2, hv, rfl, .inr ⟨rfl, rfl, rfl⟩⟩, by subst hh; exact (sl_nil hsat).take (.tl .hd)⟩⟩
theorem treePut_spec {h0 : Hp} (T : Tabs h0) {S : HProp} (b : Nat) (L : List Rec) {a : Option Addr} {c : Nat} {rs : List Rec} (hS : Srd S 5 recC a rs) (hl : rs.length ≤ 100000) (hL : L.length + rs.length ≤ 200000) :
   Ct Tryz.prog 62 [ptr b, .slice a rs.length c] [ro h0, tre b L, S] (fun v hs => v = int ((putAll L rs).length - L.length) ∧ hs = [ro h0, tre b (putAll L rs), S]) := by
 refine Cti Tryz.func62 (by kernel_rfl) 59 Tryz.ntmps62 rfl rfl fun w0 R => ?_
 refine Gs.slAddr (hS.h (by repeat constructor)) fun ab ao ha => ?_
 refine Gsr (Las rfl rfl (Lnt (Gs.seq (Gsr (Lmv rfl rfl (Lq rfl (pu_eqN Tryz.underlying70 rfl rfl) (Lnt (Gs.cond_f rfl (Gs.skip (Gn (Gsr ?_)))))))))))
 refine Las rfl rfl (Lnt (Gs.seq (Gsr (Lmv rfl rfl (Lq rfl (pu_len Tryz.underlying32 rfl) (Lmv rfl rfl (Lnt (Gs.block (Gs.loop1 (fun s : Nat × List Rec × Nat => s.1 ≤ rs.length ∧ s.2.1 = putAll L (rs.take s.1) ∧ L.length + s.2.2 = s.2.1.length) (fun s => [(0, ptr b), (5, int s.2.2), (14, .slice a rs.length c), (15, int rs.length), (16, int s.1)]) (fun s => [ro h0, tre b s.2.1, S] ++ R) (fun s => rs.length - s.1) (0, L, 0) (⟨Nat.zero_le _, rfl, rfl⟩) (by repeat constructor) (by repeat constructor) (fun s hs => ?_))))))))))
 obtain ⟨i, K, n⟩ := s
 obtain ⟨hi, hK, hn⟩ := hs
 dsimp only at hi hK hn ⊢
 have hKl : K.length ≤ L.length + i := by rw [hK]; have := (putAll_length L (rs.take i)).2; rw [List.length_take] at this; omega
 refine Gsr (Lq rfl (pu_lt rfl rfl) (Lnt (Gs.seq (Gs.cond rfl (fun hc1 => ?_) (fun hc1 => ?_)))))
 ·
  have hlt : i < rs.length := by have := of_decide_eq_true hc1; omega
  obtain ⟨r, hr⟩ : ∃ x, rs[i]? = some x := ⟨rs[i], by simp [hlt]⟩
  obtain rfl := ha (by rintro rfl; simp at hlt)
  have hstep := putAll_take (L := L) hr
  rw [← hK] at hstep
  refine Gs.skip (Gn (Gs.seq (Gs.block (Gsr (Lq rfl (pu_ia se_32 rfl rfl (by omega) (by omega)) (Lr rfl (rd_lda ag_50 rfl (Rdc.el0 (hS.h (by repeat constructor)) hr rfl rfl) rfl) ?_))))))
  refine La rfl (ac_alloc zv_50 rfl) ?_
  rintro _ _ ⟨rb, rfl, rfl⟩
  refine Lac0 rfl trivial (ac_st sz_50 rfl rfl (by repeat constructor) rfl rfl rfl rfl) ?_
  rintro _ _ rfl
  refine Lnt (Gsr (Lr rfl (rd_lda ag_50 rfl (Rdc.cl 5 (by repeat constructor) rfl) rfl) ?_))
  refine La rfl (asC (layR_any T r)) ?_
  rintro _ _ ⟨_, ⟨ba, bc, bs, e, rfl, rfl, hbs⟩, rfl⟩
  refine Lmv rfl rfl (Lq rfl (pu_extract rfl rfl) (Lq rfl (pu_extract rfl rfl) (Las rfl rfl (Las rfl rfl (Lnt (Gs.seq (Gs.seq (Gs.treOpen (by repeat constructor) fun m1 m2 C hok hC => ?_))))))))
  refine Gs.regD mixed (by kernel_rfl) (Rmv 0 rfl (by kernel_rfl) rfl (Rq 1 rfl (by kernel_rfl) (by first | exact pu_nil rfl | exact pu_nilF rfl) ?_))
  refine Rq 2 rfl (by kernel_rfl) (pu_fa fa_158_0 rfl) (Rr 3 rfl (by kernel_rfl) (rd_ld na_155 rfl (Rdc.cl1 (by repeat constructor) rfl)) ?_)
  refine Rq 4 rfl (by kernel_rfl) (pu_fa fa_50_0 rfl) (Rr 5 rfl (by kernel_rfl) (rd_lda ag_35 rfl (Rdc.cl 2 (by repeat constructor) rfl) rfl) ?_)
  refine Rr 6 rfl (by kernel_rfl) (rd_look2 (k := r.key) Tryz.underlying155 kt_35 zvk_167 rfl rfl (by repeat constructor)) ?_
  rw [mget_lents]
  refine Rmv 7 rfl (by kernel_rfl) rfl (Rq 8 rfl (by kernel_rfl) (pu_extract rfl rfl) (Rq 9 rfl (by kernel_rfl) (pu_extract rfl rfl) (Rg.one (by kernel_rfl) (Stp.acK 10 rfl rfl (by kernel_rfl) trivial (ac_alloc zv_167 rfl) (by rintro _ _ ⟨lb, rfl, rfl⟩ w s; first | exact s.drop | exact s | exact Ent.sat (by repeat constructor) s) ?_))))
  rintro _ _ ⟨lb, rfl, rfl⟩
  refine Rg.one (by kernel_rfl) (Stp.ac0 11 rfl rfl (by kernel_rfl) trivial (ac_st sz_167 rfl rfl (by repeat constructor) rfl rfl rfl rfl)  ?_)
  rintro _ _ rfl
  refine Rq 12 rfl (by kernel_rfl) (pu_assign rfl) (Rg.end (by kernel_rfl) (Gn (Gsr (Lmv rfl rfl (Lq rfl (pu_ne rfl rfl) (LpuB rfl rfl trivial (pu_move rfl) (fun hg2 => ?_) (fun hg2 => ?_)))))))
  ·
   have hg2' := of_decide_eq_true hg2
   have hno : putOne K r = K := by rcases hbs with ⟨-, h, -⟩ | ⟨h, -, -⟩ <;> first | exact absurd h hg2' | simp [putOne, putOk, h]
   refine Lof rfl (Lpk rfl rfl rfl (Lnt (Gs.cond_t rfl (Gs.exit (Gx (Gs.blk_hit (Gn ?_)))))))
   first | (have hX := hno; refine Gs.treClose (L := K) (C := C) (by repeat constructor) hok hC ?_) | (have hX := hyes; refine Gs.treClose (L := K ++ [r]) (C := C') (by repeat constructor) (by rw [← hyes]; exact hok.put r) (hC.put hC') ?_)
   refine Gs.reg (Lq rfl (by first | exact pu_addI rfl rfl rfl (by omega) (by omega) | exact pu_add rfl rfl) ?_)
   refine Lmv rfl rfl (Lnt ?_)
   first | (have hX := hno; exact Ag (i + 1, K, n) ⟨by show i + 1 ≤ rs.length; omega, by show K = _; rw [hstep, hno], hn⟩ (by show rs.length - (i + 1) < rs.length - i; omega)) | (have hX := hyes; exact Ag (i + 1, K ++ [r], n + 1) ⟨by show i + 1 ≤ rs.length; omega, by show K ++ [r] = _; rw [hstep, hyes], by show L.length + (n + 1) = (K ++ [r]).length; rw [List.length_append, ← hn]; simp; omega⟩ (by show rs.length - (i + 1) < rs.length - i; omega))
  have hg2' := of_decide_eq_false hg2
  obtain ⟨hrb, hbl⟩ : recB r = true ∧ bs = layB r := by rcases hbs with ⟨h, -, h2⟩ | ⟨-, h, -⟩ <;> first | exact ⟨h, h2⟩ | omega
  refine Lpu rfl rfl ⟨_, rfl, rfl⟩ (pu_move rfl) (Lpk rfl rfl rfl (Lnt (Gs.cond rfl (fun hc2 => ?_) (fun hc2 => ?_))))
  ·
   have hso : ((lookR K r.key).map fun r => (r, hashR r)).isSome = true := hc2
   have hno : putOne K r = K := by
     cases hl : lookR K r.key with
     | none => rw [hl] at hso; cases hso
     | some x => simp [putOne, putOk, hl]
   refine Gs.exit (Gx (Gs.blk_hit (Gn ?_)))
   first | (have hX := hno; refine Gs.treClose (L := K) (C := C) (by repeat constructor) hok hC ?_) | (have hX := hyes; refine Gs.treClose (L := K ++ [r]) (C := C') (by repeat constructor) (by rw [← hyes]; exact hok.put r) (hC.put hC') ?_)
   refine Gs.reg (Lq rfl (by first | exact pu_addI rfl rfl rfl (by omega) (by omega) | exact pu_add rfl rfl) ?_)
   refine Lmv rfl rfl (Lnt ?_)
   first | (have hX := hno; exact Ag (i + 1, K, n) ⟨by show i + 1 ≤ rs.length; omega, by show K = _; rw [hstep, hno], hn⟩ (by show rs.length - (i + 1) < rs.length - i; omega)) | (have hX := hyes; exact Ag (i + 1, K ++ [r], n + 1) ⟨by show i + 1 ≤ rs.length; omega, by show K ++ [r] = _; rw [hstep, hyes], by show L.length + (n + 1) = (K ++ [r]).length; rw [List.length_append, ← hn]; simp; omega⟩ (by show rs.length - (i + 1) < rs.length - i; omega))
  have hso : ((lookR K r.key).map fun r => (r, hashR r)).isSome = false := hc2
  have hlk : lookR K r.key = none := by
    cases hl : lookR K r.key with
    | none => rfl
    | some x => rw [hl] at hso; cases hso
  have hyes : putOne K r = K ++ [r] := by simp [putOne, putOk, hrb, hlk]
  have hbt := recB_text hrb
  have hbl2 := layB_length r
  subst hbl
  have hflat : flat [⟨ba, layB r, bc⟩] = layB r := by simp [flat]
  obtain ⟨q1, q2, q3, q4⟩ := rec_q hrb
  have hk0 : 0 ≤ r.key.q := by show 0 ≤ r.q; omega
  have hk1 : r.key.q ≤ 100000 := by show r.q ≤ 100000; omega
  have hbd := hC.bound (by omega) r.key
  refine Gs.skip (Gn (Gs.seq (Gs.regD mixed (by kernel_rfl) (Rmv 0 rfl (by kernel_rfl) rfl (Rq 1 rfl (by kernel_rfl) (by first | exact pu_nil rfl | exact pu_nilF rfl) ?_)))))
  refine Rq 2 rfl (by kernel_rfl) (pu_fa fa_158_0 rfl) (Rr 3 rfl (by kernel_rfl) (rd_ld na_155 rfl (Rdc.cl1 (by repeat constructor) rfl)) ?_)
  refine Rq 4 rfl (by kernel_rfl) (pu_fa fa_50_0 rfl) (Rr 5 rfl (by kernel_rfl) (rd_lda ag_35 rfl (Rdc.cl 2 (by repeat constructor) rfl) rfl) ?_)
  refine Rr 6 rfl (by kernel_rfl) (rd_lda ag_50 rfl (Rdc.cl 5 (by repeat constructor) rfl) rfl) ?_
  refine Rmv 7 rfl (by kernel_rfl) rfl (Rg.one (by kernel_rfl) (Stp.acK 8 rfl rfl (by kernel_rfl) trivial (ac_lit encC_83 ([⟨ba, layB r, bc⟩]) et_221 ek_83 rfl (by repeat constructor) rfl rfl (by decide)) (by rintro _ _ ⟨a48, rfl, rfl⟩ w s; first | exact s.drop | exact s | exact Ent.sat (by repeat constructor) s) ?_))
  rintro _ _ ⟨a48, rfl, rfl⟩
  refine Rg.one (by kernel_rfl) (Stp.acR 9 [3, 5, 6] rfl rfl (by kernel_rfl) trivial (asC (hof_spec (U := sl 83 1 slC (some ⟨a48, 0, none⟩) 1 [⟨ba, layB r, bc⟩]) (S := sl 5 1 byteC ba bc (layB r)) Srd.own (by simp; exact ⟨Srd.own, by omega⟩) (by simp))) (by rintro _ _ ⟨_, ⟨rfl, rfl⟩, rfl⟩; exact (Reads.cons rfl rfl rfl trivial rfl (rd_ld na_155 rfl (Rdc.cl1 (by repeat constructor) rfl)) (Reads.cons rfl rfl rfl trivial rfl (rd_lda ag_35 rfl (Rdc.cl 2 (by repeat constructor) rfl) rfl) (Reads.cons rfl rfl rfl trivial rfl (rd_lda ag_50 rfl (Rdc.cl 5 (by repeat constructor) rfl) rfl) Reads.nil)))) ?_)
  rintro _ _ ⟨_, ⟨rfl, rfl⟩, rfl⟩
  rw [hflat]
  refine Rq 10 rfl (by kernel_rfl) (pu_build bd_167 (by repeat constructor) rfl) ?_
  refine Rg.one (by kernel_rfl) (Stp.ac0 11 rfl rfl (by kernel_rfl) trivial (ac_put (enck := keyV) (encv := leafV) (b := m1) (m := lents K) (k := r.key) (v := (r, hashB (layB r))) Tryz.underlying155 kt_35 rfl rfl (by show some _ = some (leafV (r, hashB (layB r))); congr 1) (by repeat constructor))  ?_)
  rintro _ _ rfl
  rw [show mput (lents K) r.key (r, hashB (layB r)) = lents (K ++ [r]) from mput_lents K r hlk]
  refine Rg.end (by kernel_rfl) (Gn (Gsr (Lmv rfl rfl (Lq rfl (pu_fa fa_50_0 rfl) (Lr rfl (rd_lda ag_35 rfl (Rdc.cl 2 (by repeat constructor) rfl) rfl) ?_)))))
  refine La rfl (asC (count_spec b m1 m2 C r.key 1 hk0 hk1 (.inl rfl) hbd)) ?_
  rintro _ _ ⟨_, ⟨C', rfl, rfl, hC'⟩, rfl⟩
  refine Lnt (Gs.reg (Lmv rfl rfl (Lq rfl (pu_addI (z := ((n + 1 : Nat) : Int)) rfl rfl (by omega) (by omega) (by omega)) ?_)))
  refine Las rfl rfl (Lnil (Gs.blk_n (Gn ?_)))
  first | (have hX := hno; refine Gs.treClose (L := K) (C := C) (by repeat constructor) hok hC ?_) | (have hX := hyes; refine Gs.treClose (L := K ++ [r]) (C := C') (by repeat constructor) (by rw [← hyes]; exact hok.put r) (hC.put hC') ?_)
  refine Gs.reg (Lq rfl (by first | exact pu_addI rfl rfl rfl (by omega) (by omega) | exact pu_add rfl rfl) ?_)
  refine Lmv rfl rfl (Lnt ?_)
  first | (have hX := hno; exact Ag (i + 1, K, n) ⟨by show i + 1 ≤ rs.length; omega, by show K = _; rw [hstep, hno], hn⟩ (by show rs.length - (i + 1) < rs.length - i; omega)) | (have hX := hyes; exact Ag (i + 1, K ++ [r], n + 1) ⟨by show i + 1 ≤ rs.length; omega, by show K ++ [r] = _; rw [hstep, hyes], by show L.length + (n + 1) = (K ++ [r]).length; rw [List.length_append, ← hn]; simp; omega⟩ (by show rs.length - (i + 1) < rs.length - i; omega))
 have hge : i = rs.length := by have := of_decide_eq_false hc1; omega
 rw [hge, List.take_length] at hK
 subst hK
 refine Gs.exit (Gx (Gx (Gs.blk_hit (Gn (Gsr (Lmv rfl rfl (Las rfl rfl (Lnt (Gs.ret ?_)))))))))
 exact Gs.fin1 Tryz.results62 rfl _ (⟨by congr 1; omega, rfl⟩) (by repeat constructor)
end Go.Proofs.YtflfhpokmidnmaaGreatDoor
namespace Go.Proofs.YtflfhpokmidnmaaGreatDoor
open Go Go.Sl Go.Gv Go.Kv
set_option maxRecDepth 100000
end Go.Proofs.YtflfhpokmidnmaaGreatDoor
namespace Go.Sl
open Go
theorem Rg.three {P : Program} {n : Nat} {w0 : World} {ops : List Oper} {Q : Exit → Act → World → Prop} {D pp rp : List Nat} {env : Env} {H : List HProp} {i j k : Nat} (hav : avail ops D = [i, j, k]) (s : Stp P n w0 ops Q D pp rp env H i) (t : Stp P n w0 ops Q D pp rp env H j) (u : Stp P n w0 ops Q D pp rp env H k) : Rg P n w0 ops Q D pp rp env H :=
 Rg.of (by simp) hav fun m hm => by
   simp only [List.mem_cons, List.not_mem_nil, or_false] at hm
   rcases hm with rfl | rfl | rfl
   · exact s
   · exact t
   · exact u
section
variable {P : Program} {w0 : World} {env : Env} {H : List HProp} {d : Option Tmp} {x : Operand} {src dst e ty : TypeId} {pos : String} {af : Array Edge} {g : Option (Nat × Bool)}
theorem fold_push : ∀ (l : List UInt8) (s : ByteArray), ((l.map fun c => (c.toNat : Int)).foldl (fun r n => r.push (UInt8.ofNat n.toNat)) s) = ⟨(s.data.toList ++ l).toArray⟩
 | [], s => by simp
 | c :: l, s => by
   rw [List.map_cons, List.foldl_cons, fold_push l]
   have : UInt8.ofNat ((c.toNat : Int)).toNat = c := by rw [Int.toNat_natCast]; exact UInt8.ofNat_toNat
   rw [this]
   simp [ByteArray.push]
theorem or_small (a b : Nat) (h : b < 256) : a * 256 ||| b = a * 256 + b := by
 have := Nat.shiftLeft_add_eq_or_of_lt (b := b) (i := 8) (by omega) a
 rw [Nat.shiftLeft_eq] at this
 exact this.symm
theorem or64 (a b : Nat) (ha : a < 256) (h : b < 256) : (BitVec.ofInt 64 ((a * 256 : Nat) : Int) ||| BitVec.ofInt 64 (b : Int)).toNat = a * 256 + b := by
 rw [BitVec.toNat_or, BitVec.ofInt_natCast, BitVec.ofInt_natCast, BitVec.toNat_ofNat, BitVec.toNat_ofNat, Nat.mod_eq_of_lt (by omega), Nat.mod_eq_of_lt (by omega), or_small a b h]
def orK (k : IntKind) (i j : Int) : Int := k.wrap (BitVec.ofInt k.bits i ||| BitVec.ofInt k.bits j).toNat
theorem pu_or {y : Operand} {T T' : TypeId} {k : IntKind} {i j : Int} (h : ev env x = some (.int k i)) (h' : ev env y = some (.int k j)) : Pu P ⟨d, .binOp .or T x y T', ty, pos, af, g⟩ env (.int k (orK k i j)) := fun ρ w e => by
 refine run_v (s := do eqGuard .or T x y (ρ x) (ρ y); binOp .or T (ρ x) (ρ y)) ?_
 rw [e.eval h, e.eval h']
 simp only [Sem.run_bind, eqGuard_int, Result.andThen_ok]
 simp [binOp, Op.intBits, orK]
theorem orK_small {a b : Nat} (ha : a < 256) (hb : b < 256) : orK .i64 ((a * 256 : Nat) : Int) (b : Int) = ((a * 256 + b : Nat) : Int) := by
 show IntKind.i64.wrap ((BitVec.ofInt 64 ((a * 256 : Nat) : Int) ||| BitVec.ofInt 64 (b : Int)).toNat : Int) = _
 rw [or64 a b ha hb]
 exact wrap_in (by omega) (by omega)
theorem Ct.twoE {f : FuncId} {args : List Value} {A B : HProp} {v0 : Value} (c : Ct P f args [Sl.two A B] (fun v hs => v = v0 ∧ hs = [Sl.two A B])) : Ct P f args [A, B] (fun v hs => v = v0 ∧ hs = [A, B]) :=
 (c.two fun _ _ h => ⟨[], h.2⟩).mono fun v hs ⟨r, ⟨h1, h2⟩, h3⟩ => ⟨h1, by cases h2; exact h3⟩
theorem rd_b2s {a : Option Addr} {n c : Nat} {l : List UInt8} (hs : P.underlying src = some (.slice e)) (he : P.underlying e = some (.int .u8)) (hd : P.underlying dst = some .string) (hx : ev env x = some (.slice a n c)) (hn : n = l.length) (S : SlH w0 H 1 (fun c : UInt8 => [Value.int .u8 c.toNat]) a l) :
   Rd P ⟨d, .convert src dst x, ty, pos, af, g⟩ w0 env H (.string ⟨l.toArray⟩) := fun ρ w r s => by
 subst hn
 refine run_v (s := convert src dst (ρ x)) ?_
 rw [r.eval hx, run_convert_bytes_string w src dst e _ _ _ hs he hd]
 have key : ∀ (A : Addr), (loadCells A l.length).run P w = .ok ((l.map fun c => (c.toNat : Int)).map (Value.int .u8)).toArray w → (Conv.bytesToString (.slice (some A) l.length c)).run P w = .ok (.string ⟨l.toArray⟩) w := fun A h => by
   rw [run_bytesToString w A l.length c _ h, fold_push, show ByteArray.empty.data.toList = [] from rfl, List.nil_append]
 by_cases hne : l = []
 · subst hne
   cases a with
   | none => rfl
   | some a => exact key a rfl
 · obtain ⟨b, off, rfl, h⟩ := S w s hne
   refine key ⟨b, off, none⟩ ?_
   have h2 := loadCells_run (P := P) (w := w) (b := b) (o := off) ((l.map fun c => (c.toNat : Int)).map (Value.int .u8)) 0 #[] (fun j v hv => by
     rw [List.getElem?_map, List.getElem?_map] at hv
     obtain ⟨y, hy, rfl⟩ := Option.map_eq_some_iff.1 hv
     obtain ⟨z, hz, rfl⟩ := Option.map_eq_some_iff.1 hy
     have := h j z hz 0 (.int .u8 z.toNat) rfl
     simpa using this)
   rw [List.length_map, List.length_map] at h2
   unfold loadCells
   simpa using h2
end
end Go.Sl
namespace Go.Sl
open Go
section
variable {w0 : World} {n : Nat} {env : Env} {H : List HProp} {P : Program} {fn : Func} {post : Value → List HProp → Prop} {R : List HProp}
theorem results_3 {t u x : Nat} (hr : fn.results = #[.tmp t, .tmp u, .tmp x]) {tmps : Array Value} {w : World} {a b c : Value} (h : tmps.getD t undef = a) (k : tmps.getD u undef = b) (l : tmps.getD x undef = c) : (results fn tmps).run P w = .ok (.tuple #[a, b, c]) w := by
 have h' : tmps[t]?.getD undef = a := by rw [← h, Array.getD_eq_getD_getElem?]
 have k' : tmps[u]?.getD undef = b := by rw [← k, Array.getD_eq_getD_getElem?]
 have l' : tmps[x]?.getD undef = c := by rw [← l, Array.getD_eq_getD_getElem?]
 unfold results; rw [hr]; simp [h', k', l']
theorem results_4 {t u x y : Nat} (hr : fn.results = #[.tmp t, .tmp u, .tmp x, .tmp y]) {tmps : Array Value} {w : World} {a b c d : Value} (h : tmps.getD t undef = a) (k : tmps.getD u undef = b) (l : tmps.getD x undef = c) (m : tmps.getD y undef = d) : (results fn tmps).run P w = .ok (.tuple #[a, b, c, d]) w := by
 have h' : tmps[t]?.getD undef = a := by rw [← h, Array.getD_eq_getD_getElem?]
 have k' : tmps[u]?.getD undef = b := by rw [← k, Array.getD_eq_getD_getElem?]
 have l' : tmps[x]?.getD undef = c := by rw [← l, Array.getD_eq_getD_getElem?]
 have m' : tmps[y]?.getD undef = d := by rw [← m, Array.getD_eq_getD_getElem?]
 unfold results; rw [hr]; simp [h', k', l', m']
theorem results_c3 {t u x T : Nat} (hr : fn.results = #[.cell t T, .tmp u, .tmp x]) {tmps : Array Value} {w : World} {A : Addr} {v a b : Value} (h : tmps.getD t undef = .pointer (some A)) (k : tmps.getD u undef = a) (l : tmps.getD x undef = b) (hl : (loadVar T A).run P w = .ok v w) : (results fn tmps).run P w = .ok (.tuple #[v, a, b]) w := by
 have h' : tmps[t]?.getD undef = .pointer (some A) := by rw [← h, Array.getD_eq_getD_getElem?]
 have k' : tmps[u]?.getD undef = a := by rw [← k, Array.getD_eq_getD_getElem?]
 have l' : tmps[x]?.getD undef = b := by rw [← l, Array.getD_eq_getD_getElem?]
 unfold results; rw [hr]; simp [asAddr, h', hl, k', l']
theorem Gs.fin3 {t u x : Nat} {a b c : Value} (hr : fn.results = #[.tmp t, .tmp u, .tmp x]) (h : lk env t = some a) (k : lk env u = some b) (l : lk env x = some c) (hs : List HProp) (hp : post (.tuple #[a, b, c]) hs) (hH : Ent H (hs ++ R)) :
   Gs w0 n env H (bodyPost P fn (fun e w' => ∃ v hs, e = .returned v ∧ post v hs ∧ Sat w0 w' (hs ++ R)) .ret) := fun ac w e s =>
 ⟨e.defers, _, results_3 hr (e.slots t _ h) (e.slots u _ k) (e.slots x _ l), _, hs, rfl, hp, hH.sat s⟩
theorem Gs.fin4 {t u x y : Nat} {a b c d : Value} (hr : fn.results = #[.tmp t, .tmp u, .tmp x, .tmp y]) (h : lk env t = some a) (k : lk env u = some b) (l : lk env x = some c) (m : lk env y = some d) (hs : List HProp) (hp : post (.tuple #[a, b, c, d]) hs) (hH : Ent H (hs ++ R)) :
   Gs w0 n env H (bodyPost P fn (fun e w' => ∃ v hs, e = .returned v ∧ post v hs ∧ Sat w0 w' (hs ++ R)) .ret) := fun ac w e s =>
 ⟨e.defers, _, results_4 hr (e.slots t _ h) (e.slots u _ k) (e.slots x _ l) (e.slots y _ m), _, hs, rfl, hp, hH.sat s⟩
theorem Gs.finc3 {t u x T k b : Nat} {vs : List Value} {y z : Value} (hr : fn.results = #[.cell t T, .tmp u, .tmp x]) (ag : AG P T k) (h : lk env t = some (.pointer (some ⟨b, 0, none⟩))) (r : Rdc w0 H b 0 vs) (hk : vs.length = k) (hu : lk env u = some y) (hx : lk env x = some z) (hs : List HProp) (hp : post (.tuple #[.agg vs.toArray, y, z]) hs) (hH : Ent H (hs ++ R)) :
   Gs w0 n env H (bodyPost P fn (fun e w' => ∃ v hs, e = .returned v ∧ post v hs ∧ Sat w0 w' (hs ++ R)) .ret) := fun ac w e s =>
 ⟨e.defers, _, results_c3 hr (e.slots t _ h) (e.slots u _ hu) (e.slots x _ hx) (run_lda ag r hk s), _, hs, rfl, hp, hH.sat s⟩
end
end Go.Sl
namespace Go.Proofs.YtflfhpokmidnmaaGreatDoor
open Go Go.Sl Go.Gv
set_option maxRecDepth 100000
theorem valF_snoc (a : Int) (l : List UInt8) (x : UInt8) : valF a (l ++ [x]) = 256 * valF a l + x.toNat := by simp [valF]
theorem valF_in : ∀ (l : List UInt8) (a : Nat), 0 ≤ valF (a : Int) l ∧ valF (a : Int) l < ((a + 1) * 256 ^ l.length : Nat)
 | [], a => by
   show 0 ≤ (a : Int) ∧ (a : Int) < (((a + 1) * 256 ^ 0 : Nat) : Int)
   rw [Nat.pow_zero]; omega
 | x :: l, a => by
   have h := valF_in l (256 * a + x.toNat)
   have e : valF (a : Int) (x :: l) = valF ((256 * a + x.toNat : Nat) : Int) l := by
     show valF (256 * (a : Int) + x.toNat) l = _
     refine congrArg (fun z => valF z l) ?_
     rw [Int.natCast_add, Int.natCast_mul]; rfl
   rw [e]
   refine ⟨h.1, Int.lt_of_lt_of_le h.2 ?_⟩
   have hx := x.toNat_lt
   have h1 : (256 * a + x.toNat + 1) * 256 ^ l.length ≤ (256 * (a + 1)) * 256 ^ l.length := Nat.mul_le_mul_right _ (by omega)
   have h2 : (256 * (a + 1)) * 256 ^ l.length = (a + 1) * 256 ^ (x :: l).length := by
     rw [List.length_cons, Nat.pow_succ, Nat.mul_comm 256 (a + 1), Nat.mul_assoc, Nat.mul_comm 256]
   omega
theorem valB_in {l : List UInt8} (h : l.length ≤ 6) : 0 ≤ valB l ∧ valB l < 281474976710656 := by
 have h1 := valF_in l 0
 refine ⟨h1.1, Int.lt_of_lt_of_le h1.2 ?_⟩
 have : 256 ^ l.length ≤ 256 ^ 6 := Nat.pow_le_pow_right (by decide) h
 have e : (256 : Nat) ^ 6 = 281474976710656 := by decide
 omega
theorem number_spec {S : HProp} {a : Option Addr} {c k : Nat} {l : List UInt8} (hS : Srd S 1 byteC a l) (hk : k = l.length) (hl : l.length ≤ 6) :
   Ct Tryz.prog 223 [.slice a k c] [S] (fun v hs => v = int (valB l) ∧ hs = [S]) := by
 subst hk
 refine Cti Tryz.func223 (by kernel_rfl) 19 Tryz.ntmps223 rfl rfl fun w0 R => ?_
 refine Gs.slAddr (hS.h (by repeat constructor)) fun ab ao ha => ?_
 refine Gsr (Las rfl rfl (Lnt (Gsr (Las rfl rfl (Lnt (Gs.seq (Gsr (Lmv rfl rfl (Lq rfl (pu_len Tryz.underlying83 rfl) (Lmv rfl rfl (Lnt ?_)))))))))))
 refine Gs.block (Gs.loop1 (fun i : Nat => i ≤ l.length) (fun i => [(3, int (valB (l.take i))), (6, .slice a l.length c), (7, int l.length), (8, int i)]) (fun i => [S] ++ R) (fun i => l.length - i) 0 (Nat.zero_le _) (by repeat constructor) (by repeat constructor) (fun i hi => ?_))
 refine Gsr (Lq rfl (pu_lt rfl rfl) (Lnt (Gs.seq (Gs.cond rfl (fun hc0 => ?_) (fun hc0 => ?_)))))
 ·
  have hlt : i < l.length := by have := of_decide_eq_true hc0; omega
  obtain ⟨x, hx⟩ : ∃ x, l[i]? = some x := ⟨l[i], by simp [hlt]⟩
  obtain rfl := ha (by rintro rfl; simp at hlt)
  have hst : valB (l.take (i + 1)) = 256 * valB (l.take i) + x.toNat := by rw [List.take_add_one, hx]; exact valF_snoc ..
  have hb := valB_in (l := l.take i) (by rw [List.length_take]; omega)
  have hx8 := x.toNat_lt
  refine Gs.skip (Gn (Gs.seq (Gs.block (Gsr (Lq rfl (pu_ia se_83 rfl rfl (by omega) (by omega)) (Lr rfl (rd_ld na_5 rfl (Rdc.el0 (hS.h (by repeat constructor)) hx rfl rfl)) ?_))))))
  refine Las rfl rfl (Lnt (Gs.reg (Lmv rfl rfl (Lq rfl (by first | exact pu_mulI rfl rfl rfl (by omega) (by omega) | exact pu_mul rfl rfl) ?_))))
  refine Lmv rfl rfl (Lq rfl (pu_conv Tryz.underlying5 Tryz.underlying3 rfl) ?_)
  rw [wrap_in (z := (x.toNat : Int)) (by omega) (by omega)]
  refine Lq rfl (pu_addI (z := valB (l.take (i + 1))) rfl rfl (by rw [hst]) (by omega) (by omega)) ?_
  refine Las rfl rfl (Lnil (Gs.blk_n (Gn (Gs.reg (Lq rfl (by first | exact pu_addI rfl rfl rfl (by omega) (by omega) | exact pu_add rfl rfl) ?_)))))
  refine Lmv rfl rfl (Lnt ?_)
  exact Ag (i + 1) (by omega) (by omega)
 have hge : i = l.length := by have := of_decide_eq_false hc0; omega
 rw [hge, List.take_length]
 refine Gs.exit (Gx (Gx (Gs.blk_hit (Gn (Gsr (Lmv rfl rfl (Las rfl rfl (Lnt (Gs.ret ?_)))))))))
 exact Gs.fin1 Tryz.results223 rfl _ (⟨rfl, rfl⟩) (by repeat constructor)
structure RMs (U : HProp) : Prop where
 may : ∀ r, Ct Tryz.prog 79 [recV r] [U] (fun v hs => v = .bool (recB r) ∧ hs = [U])
 may4 : ∀ r, Ct Tryz.prog 21 [recV r] [U] (fun v hs => v = .bool (recB r) ∧ hs = [U])
 lay : ∀ r, recB r = true → Ct Tryz.prog 101 [recV r] [U] (fun v hs => ∃ a c, v = .tuple #[.slice a (layB r).length c, int 0] ∧ hs = [U, sl 5 1 byteC a c (layB r)])
theorem rms_ro {h0 : Hp} (T : Tabs h0) : RMs (ro h0) := ⟨recMay_spec T, recMay4_spec T, layR_ok T⟩
theorem RMs.inn {B U : HProp} (h : RMs B) (i : Inn B U) : RMs U :=
 ⟨fun r => (h.may r).inn0 i, fun r => (h.may4 r).inn0 i, fun r hr => ((h.lay r hr).inn i fun _ _ ⟨a, c, _, e⟩ => ⟨_, e⟩).mono fun v hs ⟨r', ⟨a, c, e1, e2⟩, e3⟩ => ⟨a, c, e1, by cases e2; exact e3⟩⟩
def readRV (m : Nat) : Option (Rec × Nat) → Value
 | none => .tuple #[recV Rec.zero, int 0, .bool false]
 | some (r, n) => .tuple #[recV r, int ((m + n : Nat) : Int), .bool true]
theorem recRead_spec {S : HProp} {a : Option Addr} {c : Nat} {bs : List UInt8} (hS : Srd S 1 byteC a bs) (hR : RMs S) (hl : bs.length ≤ 1048576) (hc : bs.length ≤ c) (m : Nat) (hm : m ≤ bs.length) :
   Ct Tryz.prog 198 [.slice a bs.length c, int m] [S] (fun v hs => v = readRV m (readR (bs.drop m)) ∧ hs = [S]) := by
 obtain ⟨xs, hxs⟩ : ∃ xs, xs = bs.drop m := ⟨_, rfl⟩
 have hxl : xs.length = bs.length - m := by rw [hxs, List.length_drop]
 have hX : Srd S 1 byteC (suba a m c 1) xs := by rw [hxs]; exact hS.cutL m c hc
 rw [← hxs]
 refine Cti Tryz.func198 (by kernel_rfl) 75 Tryz.ntmps198 rfl rfl fun w0 R => ?_
 refine Gs.slAddr (hX.h (by repeat constructor)) fun xb xo hxa => ?_
 refine Gsr (La rfl (ac_alloc zv_50 rfl) ?_)
 rintro _ _ ⟨b4, rfl, rfl⟩
 refine Las rfl rfl (Las rfl rfl (Lnt (Gs.seq (Gsr (Lmv rfl rfl (Lq rfl (pu_lt rfl rfl) (LpuBf rfl rfl trivial (pu_move rfl) (decide_eq_false (by omega)) (Lpu rfl rfl ⟨_, rfl, rfl⟩ (pu_move rfl) (Lpu rfl rfl ⟨_, rfl, rfl⟩ (pu_move rfl) (Lpu rfl rfl ⟨_, rfl, rfl⟩ (pu_len Tryz.underlying83 rfl) (Lpu rfl rfl ⟨_, rfl, rfl⟩ (pu_gt rfl rfl) ?_)))))))))))
 refine Lpk rfl rfl rfl (LpuBf rfl rfl trivial (pu_move rfl) (decide_eq_false (by omega)) (Lpu rfl rfl ⟨_, rfl, rfl⟩ (pu_move rfl) (Lpu rfl rfl ⟨_, rfl, rfl⟩ (pu_len Tryz.underlying83 rfl) (Lpu rfl rfl ⟨_, rfl, rfl⟩ (pu_move rfl) (Lpu rfl rfl ⟨_, rfl, rfl⟩ (by first | exact pu_subI rfl rfl rfl (by omega) (by omega) | exact pu_sub rfl rfl) ?_)))))
 refine Lpu rfl rfl ⟨_, rfl, rfl⟩ (pu_lt rfl rfl) (Lpk rfl rfl rfl (Lnt (Gs.cond rfl (fun hc0 => ?_) (fun hc0 => ?_))))
 ·
  have hno : readR xs = none := by
    unfold readR; rw [if_pos (by have := of_decide_eq_true hc0; omega)]
  refine Gsr (Lq rfl (pu_build bd_50 (by repeat constructor) rfl) ?_)
  refine Lac0 rfl trivial (ac_st sz_50 rfl rfl (by repeat constructor) rfl rfl rfl rfl) ?_
  rintro _ _ rfl
  refine Las rfl rfl (Las rfl rfl (Lnt (Gs.ret (Gr ?_))))
  exact Gs.finc3 Tryz.results198 ag_50 rfl (Rdc.cl 5 (by repeat constructor) rfl) rfl rfl rfl _ (⟨by rw [hno]; rfl, rfl⟩) (by repeat constructor)
 have h12 : 12 ≤ xs.length := by have := of_decide_eq_false hc0; omega
 refine Gs.skip (Gn (Gsr (Lmv rfl rfl (Lmv rfl rfl (Lq rfl (pu_sliceL et_83 rfl rfl (by omega) (by omega)) (Las rfl rfl (Lnil ?_)))))))
 have hae := hxa (by rintro e; rw [e] at h12; simp at h12)
 rw [show (.slice (suba a (m : Int).toNat c 1) (bs.length - (m : Int).toNat) (c - (m : Int).toNat) : Value) = .slice (some ⟨xb, xo, none⟩) xs.length (c - m) by rw [Int.toNat_natCast, hae, hxl]]
 rw [hae] at hX
 have hat : ∀ i, i < 12 → xs[i]? = some (xs.getD i 0) := fun i hi => by simp [List.getD, show i < xs.length by omega]
 have hcut : ∀ i j, Srd S 1 byteC (suba (some ⟨xb, xo, none⟩) i (c - m) 1) ((xs.take j).drop i) := fun i j => by
   have := (hX.cutH j (c - m) (by omega))
   rw [suba_zero] at this
   exact this.cutL i (c - m) (by rw [List.length_take]; omega)
 have hcl : ∀ i j, j ≤ xs.length → ((xs.take j).drop i).length = j - i := fun i j hj => by rw [List.length_drop, List.length_take]; omega
 refine Gn (Gsr (Lmv rfl rfl (Lq rfl (pu_ia se_83 rfl rfl (by omega) (by omega)) (Lr rfl (rd_ld na_5 rfl (Rdc.el0 (hX.h (by repeat constructor)) (hat 11 (by decide)) rfl rfl)) ?_))))
 refine Lq rfl (pu_conv Tryz.underlying5 Tryz.underlying3 rfl) ?_
 rw [wrap_in (z := ((xs.getD 11 0).toNat : Int)) (by omega) (by have := (xs.getD 11 0).toNat_lt; omega)]
 refine Las rfl rfl (Lnt (Gs.seq (Gsr (Lmv rfl rfl (Lq rfl (pu_len Tryz.underlying83 rfl) (Lq rfl (by first | exact pu_subI rfl rfl rfl (by omega) (by omega) | exact pu_sub rfl rfl) ?_))))))
 refine Lmv rfl rfl (Lq rfl (pu_lt rfl rfl) (Lnt (Gs.cond rfl (fun hc1 => ?_) (fun hc1 => ?_))))
 ·
  have hno : readR xs = none := by
    unfold readR; rw [if_neg (by omega), if_pos (by have := of_decide_eq_true hc1; omega)]
  refine Gsr (Lq rfl (pu_build bd_50 (by repeat constructor) rfl) ?_)
  refine Lac0 rfl trivial (ac_st sz_50 rfl rfl (by repeat constructor) rfl rfl rfl rfl) ?_
  rintro _ _ rfl
  refine Las rfl rfl (Las rfl rfl (Lnt (Gs.ret (Gr ?_))))
  exact Gs.finc3 Tryz.results198 ag_50 rfl (Rdc.cl 5 (by repeat constructor) rfl) rfl rfl rfl _ (⟨by rw [hno]; rfl, rfl⟩) (by repeat constructor)
 have hlong : 12 + (xs.getD 11 0).toNat ≤ xs.length := by have := of_decide_eq_false hc1; omega
 have hl8 := (xs.getD 11 0).toNat_lt
 obtain ⟨long, hlg⟩ : ∃ z, z = (xs.getD 11 0).toNat := ⟨_, rfl⟩
 rw [← hlg] at hlong hl8 ⊢
 obtain ⟨r, hr⟩ : ∃ r : Rec, r = ⟨(xs.getD 0 0).toNat, valB ((xs.take 3).drop 1), valB ((xs.take 9).drop 3), valB ((xs.take 11).drop 9), ⟨((xs.take (12 + long)).drop 12).toArray⟩⟩ := ⟨_, rfl⟩
 have hrd : readR xs = if recB r then some (r, 12 + long) else none := by
   unfold readR; rw [if_neg (by omega), if_neg (by omega), ← hlg, hr]
 refine Gs.skip (Gn (Gsr (La rfl (ac_alloc zv_50 rfl) ?_)))
 rintro _ _ ⟨rb, rfl, rfl⟩
 refine Lnt (Gs.seq (Gs.regD mixed (by kernel_rfl) (Rmv 0 rfl (by kernel_rfl) rfl (Rq 1 rfl (by kernel_rfl) (pu_ia se_83 rfl rfl (by omega) (by omega)) (Rr 2 rfl (by kernel_rfl) (rd_ld na_5 rfl (Rdc.el0 (hX.h (by repeat constructor)) (hat 0 (by decide)) rfl rfl)) ?_)))))
 refine Rq 3 rfl (by kernel_rfl) (pu_conv Tryz.underlying5 Tryz.underlying3 rfl) ?_
 rw [wrap_in (z := ((xs.getD 0 0).toNat : Int)) (by omega) (by have := (xs.getD 0 0).toNat_lt; omega)]
 refine Rmv 4 rfl (by kernel_rfl) rfl (Rq 5 rfl (by kernel_rfl) (pu_slice et_83 rfl rfl rfl (by omega) (by omega) (by omega)) (Rmv 7 rfl (by kernel_rfl) rfl (Rq 8 rfl (by kernel_rfl) (pu_slice et_83 rfl rfl rfl (by omega) (by omega) (by omega)) (Rmv 10 rfl (by kernel_rfl) rfl (Rq 11 rfl (by kernel_rfl) (pu_slice et_83 rfl rfl rfl (by omega) (by omega) (by omega)) (Rq 13 rfl (by kernel_rfl) (pu_fa fa_50_0 rfl) (Rq 14 rfl (by kernel_rfl) (pu_fa fa_35_0 rfl) (Rg.one (by kernel_rfl) (Stp.acR 6 [2] rfl rfl (by kernel_rfl) trivial (asC (number_spec (k := 2) (c := c - m - 1) (hcut 1 3) (by rw [hcl _ _ (by omega)]) (by rw [hcl _ _ (by omega)]; decide))) (by rintro _ _ ⟨_, ⟨rfl, rfl⟩, rfl⟩; exact (Reads.cons rfl rfl rfl trivial rfl (rd_ld na_5 rfl (Rdc.el0 (hX.h (by repeat constructor)) (hat 0 (by decide)) rfl rfl)) Reads.nil)) ?_)))))))))
 rintro _ _ ⟨_, ⟨rfl, rfl⟩, rfl⟩
 refine Rg.one (by kernel_rfl) (Stp.acR 9 [2] rfl rfl (by kernel_rfl) trivial (asC (number_spec (k := 6) (c := c - m - 3) (hcut 3 9) (by rw [hcl _ _ (by omega)]) (by rw [hcl _ _ (by omega)]; decide))) (by rintro _ _ ⟨_, ⟨rfl, rfl⟩, rfl⟩; exact (Reads.cons rfl rfl rfl trivial rfl (rd_ld na_5 rfl (Rdc.el0 (hX.h (by repeat constructor)) (hat 0 (by decide)) rfl rfl)) Reads.nil)) ?_)
 rintro _ _ ⟨_, ⟨rfl, rfl⟩, rfl⟩
 refine Rg.one (by kernel_rfl) (Stp.acR 12 [2] rfl rfl (by kernel_rfl) trivial (asC (number_spec (k := 2) (c := c - m - 9) (hcut 9 11) (by rw [hcl _ _ (by omega)]) (by rw [hcl _ _ (by omega)]; decide))) (by rintro _ _ ⟨_, ⟨rfl, rfl⟩, rfl⟩; exact (Reads.cons rfl rfl rfl trivial rfl (rd_ld na_5 rfl (Rdc.el0 (hX.h (by repeat constructor)) (hat 0 (by decide)) rfl rfl)) Reads.nil)) ?_)
 rintro _ _ ⟨_, ⟨rfl, rfl⟩, rfl⟩
 refine Rg.one (by kernel_rfl) (Stp.ac0 15 rfl rfl (by kernel_rfl) trivial (ac_st sz_3 rfl rfl (by repeat constructor) rfl rfl rfl rfl)  ?_)
 rintro _ _ rfl
 refine Rq 16 rfl (by kernel_rfl) (pu_fa fa_50_0 rfl) (Rq 17 rfl (by kernel_rfl) (pu_fa fa_35_1 rfl) (Rg.one (by kernel_rfl) (Stp.ac0 18 rfl rfl (by kernel_rfl) trivial (ac_st sz_3 rfl rfl (by repeat constructor) rfl rfl rfl rfl)  ?_)))
 rintro _ _ rfl
 refine Rq 19 rfl (by kernel_rfl) (pu_fa fa_50_1 rfl) (Rq 20 rfl (by kernel_rfl) (pu_fa fa_48_0 rfl) (Rg.one (by kernel_rfl) (Stp.ac0 21 rfl rfl (by kernel_rfl) trivial (ac_st sz_3 rfl rfl (by repeat constructor) rfl rfl rfl rfl)  ?_)))
 rintro _ _ rfl
 refine Rq 22 rfl (by kernel_rfl) (pu_fa fa_50_1 rfl) (Rq 23 rfl (by kernel_rfl) (pu_fa fa_48_1 rfl) (Rg.one (by kernel_rfl) (Stp.ac0 24 rfl rfl (by kernel_rfl) trivial (ac_st sz_3 rfl rfl (by repeat constructor) rfl rfl rfl rfl)  ?_)))
 rintro _ _ rfl
 refine Rg.end (by kernel_rfl) (Gn (Gsr (Lmv rfl rfl (Lmv rfl rfl (Lq rfl (by first | exact pu_addI rfl rfl rfl (by omega) (by omega) | exact pu_add rfl rfl) ?_)))))
 refine Lq rfl (pu_slice et_83 rfl rfl rfl (by omega) (by omega) (by omega)) (Lr rfl (rd_b2s Tryz.underlying83 Tryz.underlying5 Tryz.underlying9 rfl (by rw [hcl 12 (12 + long) (by omega)]; omega) ((hcut 12 (12 + long)).h (by repeat constructor))) ?_)
 refine Lq rfl (pu_fa fa_50_2 rfl) (Lac0 rfl trivial (ac_st sz_9 rfl rfl (by repeat constructor) rfl rfl rfl rfl) ?_)
 rintro _ _ rfl
 refine Lnt (Gs.seq (Gsr (Lr rfl (rd_lda ag_50 rfl (Rdc.cl 5 (by repeat constructor) rfl) rfl) ?_)))
 rw [show (.agg #[int ((xs.getD 0 0).toNat : Int), int (valB ((xs.take 3).drop 1)), int (valB ((xs.take 9).drop 3)), int (valB ((xs.take 11).drop 9)), .string ⟨((xs.take (12 + long)).drop 12).toArray⟩] : Value) = recV r by rw [hr]]
 refine La rfl (asC (hR.may r)) ?_
 rintro _ _ ⟨_, ⟨rfl, rfl⟩, rfl⟩
 refine Lq rfl (pu_not rfl) (Lnt (Gs.cond rfl (fun hc2 => ?_) (fun hc2 => ?_)))
 ·
  have hb : recB r = false := by simpa using hc2
  have hno : readR xs = none := by rw [hrd, hb]; rfl
  refine Gsr (Lq rfl (pu_build bd_50 (by repeat constructor) rfl) ?_)
  refine Lac0 rfl trivial (ac_st sz_50 rfl rfl (by repeat constructor) rfl rfl rfl rfl) ?_
  rintro _ _ rfl
  refine Las rfl rfl (Las rfl rfl (Lnt (Gs.ret (Gr ?_))))
  exact Gs.finc3 Tryz.results198 ag_50 rfl (Rdc.cl 5 (by repeat constructor) rfl) rfl rfl rfl _ (⟨by rw [hno]; rfl, rfl⟩) (by repeat constructor)
 have hb : recB r = true := by simpa using hc2
 refine Gs.skip (Gn (Gsr (Lr rfl (rd_lda ag_50 rfl (Rdc.cl 5 (by repeat constructor) rfl) rfl) ?_)))
 refine Lmv rfl rfl (Lq rfl (by first | exact pu_addI rfl rfl rfl (by omega) (by omega) | exact pu_add rfl rfl) ?_)
 refine Lmv rfl rfl (Lq rfl (pu_addI (z := ((m + (12 + long) : Nat) : Int)) rfl rfl (by omega) (by omega) (by omega)) ?_)
 refine Lac0 rfl trivial (ac_st sz_50 rfl rfl (by repeat constructor) rfl rfl rfl rfl) ?_
 rintro _ _ rfl
 refine Las rfl rfl (Las rfl rfl (Lnt (Gs.ret ?_)))
 exact Gs.finc3 Tryz.results198 ag_50 rfl (Rdc.cl 5 (by repeat constructor) rfl) rfl rfl rfl _ (⟨by rw [hrd, hb, hr]; rfl, rfl⟩) (by repeat constructor)
end Go.Proofs.YtflfhpokmidnmaaGreatDoor
namespace Go.Sl
open Go
section
variable {P : Program} {env : Env} {d : Option Tmp} {x y : Operand} {T T' ty : TypeId} {pos : String} {af : Array Edge} {g : Option (Nat × Bool)}
theorem pu_shl {k k' : IntKind} {i j : Int} (h : ev env x = some (.int k i)) (h' : ev env y = some (.int k' j)) (hj : 0 ≤ j) : Pu P ⟨d, .binOp .shl T x y T', ty, pos, af, g⟩ env (.int k (k.wrap (i * 2 ^ (min j.toNat k.bits)))) := fun ρ w e => by
 refine run_v (s := do eqGuard .shl T x y (ρ x) (ρ y); binOp .shl T (ρ x) (ρ y)) ?_
 rw [e.eval h, e.eval h']
 have hg : (eqGuard .shl T x y (.int k i) (.int k' j)).run P w = .ok () w := by rfl
 have hn : ¬ j < 0 := by omega
 simp only [Sem.run_bind, hg, Result.andThen_ok]
 simp [binOp, Op.shift, hn]
end
end Go.Sl
namespace Go.Proofs.YtflfhpokmidnmaaGreatDoor
open Go Go.Sl Go.Gv
set_option maxRecDepth 100000
theorem seal_spec {a : Option Addr} {c : Nat} {xs : List UInt8} (hl : xs.length ≤ 100000) :
   Ct Tryz.prog 155 [.slice a xs.length c] [sl 5 1 byteC a c xs] (fun v hs => ∃ a' c', v = .slice a' (xs ++ bytes8 (hashB xs) 8).length c' ∧ hs = [sl 5 1 byteC a' c' (xs ++ bytes8 (hashB xs) 8)]) := by
 refine Cti Tryz.func155 (by kernel_rfl) 20 Tryz.ntmps155 rfl rfl fun w0 R => ?_
 refine Gsr (Las rfl rfl (Lnt (Gsr (Lmv rfl rfl (La rfl (ac_lit encC_83 ([⟨a, xs, c⟩]) et_221 ek_83 rfl (by repeat constructor) rfl rfl (by decide)) ?_)))))
 rintro _ _ ⟨a6, rfl, rfl⟩
 refine La rfl (asC (hof_spec (U := sl 83 1 slC (some ⟨a6, 0, none⟩) 1 [⟨a, xs, c⟩]) (S := sl 5 1 byteC a c xs) Srd.own (by simp; exact ⟨Srd.own, by omega⟩) (by simp))) ?_
 rintro _ _ ⟨_, ⟨rfl, rfl⟩, rfl⟩
 rw [show flat [⟨a, xs, c⟩] = xs by simp [flat]]
 refine Las rfl rfl (Lnt (Gs.seq (Gsr (Las rfl rfl (Lnt (Gs.block (Gs.loop1 (fun s : Nat × Option Addr × Nat × List UInt8 => s.1 ≤ 8 ∧ s.2.2.2 = xs ++ bytes8 (hashB xs) s.1) (fun s => [(0, .slice s.2.1 s.2.2.2.length s.2.2.1), (3, .int .u64 (hashB xs)), (4, int (56 - 8 * (s.1 : Int)))]) (fun s => [sl 5 1 byteC s.2.1 s.2.2.1 s.2.2.2] ++ R) (fun s => 8 - s.1) (0, a, c, xs) (⟨Nat.zero_le _, by simp [bytes8]⟩) (by repeat constructor) (by repeat constructor) (fun s hs => ?_))))))))
 obtain ⟨j, ca, cc, l⟩ := s
 obtain ⟨hj, hl1⟩ := hs
 dsimp only at hj hl1 ⊢
 have hll : l.length ≤ 100008 := by rw [hl1, List.length_append, bytes8_length]; omega
 refine Gs.seq (Gsr (Lmv rfl rfl (Lq rfl (pu_ge rfl rfl) (Lnt (Gs.cond rfl (fun hc0 => ?_) (fun hc0 => ?_))))))
 ·
  have hlt : j < 8 := by have := of_decide_eq_true hc0; omega
  have hsh : (56 - 8 * (j : Int)) = ((56 - 8 * j : Nat) : Int) := by omega
  rw [hsh]
  have hl2 : l ++ [byteU (hashB xs) (56 - 8 * j)] = xs ++ bytes8 (hashB xs) (j + 1) := by rw [hl1, bytes8_succ, List.append_assoc]
  refine Gs.skip (Gn (Gs.seq (Gs.block (Gs.reg (Lmv rfl rfl (Lmv rfl rfl (Lmv rfl rfl (Lq rfl (pu_shr rfl rfl (by omega)) (Lq rfl (pu_conv Tryz.underlying165 Tryz.underlying5 rfl) ?_)))))))))
  rw [cutB_eq]
  refine La rfl (ac_lit encC_5 ([byteU (hashB xs) (56 - 8 * j)]) et_83 ek_5 rfl (by repeat constructor) rfl rfl (by decide)) ?_
  rintro _ _ ⟨a17, rfl, rfl⟩
  refine La rfl (ac_append (xs := l) (ys := [byteU (hashB xs) (56 - 8 * j)]) et_83 ek_5 rfl rfl (by repeat constructor) (SrcH.sl Tryz.underlying83 ek_5 (SlH.own (by repeat constructor))) (by first | omega | (simp; omega)) (by first | omega | (simp; omega))) ?_
  rintro _ _ ⟨a18, c18, rfl, rfl⟩
  refine Las rfl rfl (Lnil (Gs.blk_n (Gn (Gs.reg (Lmv rfl rfl (Lq rfl (pu_subI (z := 56 - 8 * ((j + 1 : Nat) : Int)) rfl rfl (by omega) (by omega) (by omega)) ?_))))))
  refine Las rfl rfl (Lnt ?_)
  exact Ag (j + 1, a18, c18, l ++ [byteU (hashB xs) (56 - 8 * j)]) ⟨by show j + 1 ≤ 8; omega, hl2⟩ (by show 8 - (j + 1) < 8 - j; omega)
 have hge : j = 8 := by have := of_decide_eq_false hc0; omega
 have hl3 : l = xs ++ bytes8 (hashB xs) 8 := by rw [hl1, hge]
 rw [hl3]
 refine Gs.exit (Gx (Gx (Gs.blk_hit (Gn (Gsr (Lmv rfl rfl (Las rfl rfl (Lnt (Gs.ret ?_)))))))))
 exact Gs.fin1 Tryz.results155 rfl _ (⟨ca, cc, rfl, rfl⟩) (by repeat constructor)
theorem cut_nat (n : Nat) : cutB (n : Int) = UInt8.ofNat n := by
 apply UInt8.toNat_inj.1
 have := cutB_eq (n : Int)
 have h : IntKind.u8.wrap (n : Int) = ((n % 256 : Nat) : Int) := by simp [IntKind.wrap, IntKind.bits, IntKind.signed]
 rw [h] at this
 rw [UInt8.toNat_ofNat']
 exact (Int.ofNat.inj this).symm
theorem frLay_spec {k : Nat} (hk : 1 ≤ k) (hk2 : k ≤ 255) {S : HProp} {a : Option Addr} {c : Nat} {xs : List UInt8} (hS : Srd S 1 byteC a xs) (hl : xs.length ≤ 65535) :
   Ct Tryz.prog 130 [int k, .slice a xs.length c] [S] (fun v hs => ∃ a' c', v = .tuple #[.slice a' (frB k xs).length c', int 0] ∧ hs = [S, sl 5 1 byteC a' c' (frB k xs)]) := by
 refine Cti Tryz.func130 (by kernel_rfl) 32 Tryz.ntmps130 rfl rfl fun w0 R => ?_
 refine Gsr (Las rfl rfl (Las rfl rfl (Lnt (Gs.seq (Gsr (Lmv rfl rfl (Lq rfl (pu_lt rfl rfl) (LpuBf rfl rfl trivial (pu_move rfl) (decide_eq_false (by omega)) (Lpu rfl rfl ⟨_, rfl, rfl⟩ (pu_move rfl) (Lpu rfl rfl ⟨_, rfl, rfl⟩ (pu_gt rfl rfl) (Lpk rfl rfl rfl ?_)))))))))))
 refine LpuBf rfl rfl trivial (pu_move rfl) (decide_eq_false (by omega)) (Lpu rfl rfl ⟨_, rfl, rfl⟩ (pu_move rfl) (Lpu rfl rfl ⟨_, rfl, rfl⟩ (pu_len Tryz.underlying83 rfl) (Lpu rfl rfl ⟨_, rfl, rfl⟩ (pu_gt rfl rfl) (Lpk rfl rfl rfl (Lnt (Gs.cond_ff rfl (decide_eq_false (by omega)) (Gs.skip (Gn (Gs.seq ?_)))))))))
 have hhl : (hdB k xs).length = 4 := rfl
 refine Gs.reg (Lmv rfl rfl (Lq rfl (pu_conv Tryz.underlying3 Tryz.underlying5 rfl) ?_))
 rw [cutB_eq, cut_nat]
 refine Lmv rfl rfl (Lq rfl (pu_len Tryz.underlying83 rfl) (Lq rfl (pu_shr rfl rfl (by omega)) (Lq rfl (pu_conv Tryz.underlying3 Tryz.underlying5 rfl) ?_)))
 rw [cutB_eq, show shrK .i64 (xs.length : Int) 8 = ((xs.length / 256 : Nat) : Int) by unfold shrK; rw [Int.fdiv_eq_ediv_of_nonneg _ (by simp [IntKind.bits])]; simp [IntKind.bits], cut_nat]
 refine Lmv rfl rfl (Lq rfl (pu_len Tryz.underlying83 rfl) (Lq rfl (pu_conv Tryz.underlying3 Tryz.underlying5 rfl) ?_))
 rw [cutB_eq, cut_nat]
 refine La rfl (ac_lit encC_5 ((hdB k xs)) et_83 ek_5 rfl (by repeat constructor) rfl rfl (by decide)) ?_
 rintro _ _ ⟨a27, rfl, rfl⟩
 refine Lmv rfl rfl (La rfl (ac_append et_83 ek_5 rfl rfl (by repeat constructor) (SrcH.sl Tryz.underlying83 ek_5 (hS.h (by repeat constructor))) (by first | omega | (simp; omega)) (by first | omega | (simp; omega))) ?_)
 rintro _ _ ⟨a29, c29, rfl, rfl⟩
 refine Las rfl rfl (Lnt (Gsr (Lmv rfl rfl (La rfl (asC (seal_spec (xs := hdB k xs ++ xs) (by rw [List.length_append, hdB_len]; omega))) ?_))))
 rintro _ _ ⟨_, ⟨fa, fc, rfl, rfl⟩, rfl⟩
 refine Las rfl rfl (Las rfl rfl (Lnt (Gs.ret ?_)))
 exact Gs.fin2 Tryz.results130 rfl rfl _ (⟨fa, fc, rfl, rfl⟩) (by repeat constructor)
end Go.Proofs.YtflfhpokmidnmaaGreatDoor
namespace Go.Sl
open Go
section
variable {w0 w : World} {n : Nat} {env : Env} {H : List HProp} {X : Act → World → Prop}
theorem Sat.bigs {L M : List HProp} : Sat w0 w (Sl.big L :: M) ↔ Sat w0 w (L ++ M) :=
 ⟨fun s => s.imp fun _ x => big_append.2 x, fun s => s.imp fun _ x => big_append.1 x⟩
theorem Take.mid {A : HProp} : ∀ (L M : List HProp), Take A (L ++ A :: M) (L ++ M)
 | [], _ => .hd
 | B :: L, M => .tl (Take.mid L M)
theorem Sat.mid {A : HProp} {L M R : List HProp} : Sat w0 w (Sl.big (L ++ A :: M) :: R) ↔ Sat w0 w (A :: Sl.big (L ++ M) :: R) := by
 constructor
 · intro s
   have s1 : Sat w0 w (L ++ A :: (M ++ R)) := by have := Sat.bigs.1 s; rwa [List.append_assoc] at this
   exact (s1.imp fun _ x => (Take.mid L (M ++ R)).go x).imp fun _ x => big_under (fun _ y => by rw [← List.append_assoc] at y; exact big_append.1 y) x
 · intro s
   have s1 : Sat w0 w (A :: (L ++ (M ++ R))) := s.imp fun _ x => big_under (fun _ y => by have := (big_append (L := L ++ M) (M := R)).2 y; rwa [List.append_assoc] at this) x
   have s2 := s1.imp fun _ x => (Take.mid L (M ++ R)).back x
   exact Sat.bigs.2 (by rw [List.append_assoc]; exact s2)
end
end Go.Sl
namespace Go.Proofs.YtflfhpokmidnmaaGreatDoor
open Go Go.Sl Go.Gv Go.Kv Go.Dv Go.Bst
set_option maxRecDepth 100000
abbrev DP := List (Fl × Nat)
abbrev fls (P : DP) : List Fl := P.map Prod.fst
def pairs (P : DP) : List (ByteArray × Option Nat) := P.map fun x => (x.1.n, some x.2)
abbrev fileC (a : Option Addr) (l c s : Nat) : List Value := [.slice a l c, int s]
def fil (x : Fl × Nat) : HProp := fun h => ∃ q : Option Addr × Nat, two (cl x.2 85 (fileC q.1 x.1.b.length q.2 x.1.s)) (sl 5 1 byteC q.1 q.2 x.1.b) h
def files (P : DP) : HProp := big (P.map fil)
abbrev driveC (most : Int) (m : Nat) : List Value := [int most, .map (some m)]
def drv (b : Nat) (most : Int) (D : List Fl) : HProp := fun h => ∃ y : Nat × DP, (fls y.2 = D ∧ Ok most D) ∧ two (cl b 89 (driveC most y.1)) (two (mp strV pv y.1 (pairs y.2)) (files y.2)) h
section
variable {w0 w : World} {n : Nat} {env : Env} {H : List HProp} {X : Act → World → Prop}
theorem Gs.drvOpen {b : Nat} {most : Int} {D : List Fl} {H' : List HProp} (t : Take (drv b most D) H H')
   (g : ∀ m P, fls P = D → Ok most D → Gs w0 n env (cl b 89 (driveC most m) :: mp strV pv m (pairs P) :: files P :: H') X) : Gs w0 n env H X := fun a w e s => by
 obtain ⟨⟨m, P⟩, s1⟩ := (s.take t).ex
 obtain ⟨⟨h1, h2⟩, s2⟩ := s1.pure
 have s3 := (Sat.two.1 s2).take (.tl .hd)
 exact g m P h1 h2 a w e ((Sat.two.1 s3).takes (As := [cl b 89 (driveC most m), mp strV pv m (pairs P), files P]) (by repeat constructor))
theorem Gs.drvClose {b m : Nat} {most : Int} {P : DP} {D : List Fl} {H' : List HProp} (t : Takes [cl b 89 (driveC most m), mp strV pv m (pairs P), files P] H H') (h1 : fls P = D) (h2 : Ok most D)
   (g : Gs w0 n env (drv b most D :: H') X) : Gs w0 n env H X := fun a w e s => by
 have s1 := s.takes t
 have s2 : Sat w0 w (two (mp strV pv m (pairs P)) (files P) :: cl b 89 (driveC most m) :: H') := Sat.two.2 (s1.takes (As := [mp strV pv m (pairs P), files P, cl b 89 (driveC most m)]) (by repeat constructor))
 have s3 := Sat.two.2 (s2.take (.tl .hd))
 exact g a w e (s3.ent fun h x => ⟨(m, P), ⟨h1, h2⟩, x⟩)
theorem Gs.drvOk {b : Nat} {most : Int} {D : List Fl} {H' : List HProp} (t : Take (drv b most D) H H') (g : Ok most D → Gs w0 n env H X) : Gs w0 n env H X := fun a w e s => by
 obtain ⟨y, s1⟩ := (s.take t).ex
 exact g s1.pure.1.2 a w e s
theorem Rdc.drvMost {b : Nat} {most : Int} {D : List Fl} {H' : List HProp} (t : Take (drv b most D) H H') : Rdc w0 H b 0 [int most] := fun w s j v hj => by
 obtain ⟨⟨m, P⟩, s1⟩ := (s.take t).ex
 obtain ⟨-, s2⟩ := s1.pure
 have h := Sat.cl (Sat.two.1 s2)
 cases j with
 | zero => simp at hj; subst hj; exact cell_of h 0
 | succ j => simp at hj
theorem Gs.filOpen {U V : DP} {f : Fl} {p : Nat} {H' : List HProp} (t : Take (files (U ++ (f, p) :: V)) H H')
   (g : ∀ a c, Gs w0 n env (cl p 85 (fileC a f.b.length c f.s) :: sl 5 1 byteC a c f.b :: files (U ++ V) :: H') X) : Gs w0 n env H X := fun a w e s => by
 have s1 := s.take t
 unfold files at s1
 rw [List.map_append, List.map_cons] at s1
 have s2 := Sat.mid.1 s1
 obtain ⟨⟨q1, q2⟩, s3⟩ := s2.ex
 have s4 := Sat.two.1 s3
 rw [← List.map_append] at s4
 exact g q1 q2 a w e s4
theorem Gs.filClose {U V : DP} {f : Fl} {p : Nat} {l s : Nat} {bs : List UInt8} {a : Option Addr} {c : Nat} {H' : List HProp} (t : Takes [cl p 85 (fileC a l c s), sl 5 1 byteC a c bs, files (U ++ V)] H H') (hl : l = f.b.length) (hb : bs = f.b) (hs : s = f.s)
   (g : Gs w0 n env (files (U ++ (f, p) :: V) :: H') X) : Gs w0 n env H X := fun ac w e st => by
 subst hl; subst hb; subst hs
 have s1 := st.takes t
 have s2 : Sat w0 w (fil (f, p) :: files (U ++ V) :: H') := (Sat.two.2 s1).ent fun h x => ⟨(a, c), x⟩
 refine g ac w e ?_
 unfold files at s2 ⊢
 rw [List.map_append] at s2
 rw [List.map_append, List.map_cons]
 exact Sat.mid.2 s2
theorem Gs.filNew {U : DP} {f : Fl} {p : Nat} {l s : Nat} {bs : List UInt8} {a : Option Addr} {c : Nat} {H' : List HProp} (t : Takes [cl p 85 (fileC a l c s), sl 5 1 byteC a c bs, files U] H H') (hl : l = f.b.length) (hb : bs = f.b) (hs : s = f.s)
   (g : Gs w0 n env (files (U ++ [(f, p)]) :: H') X) : Gs w0 n env H X :=
 Gs.filClose (U := U) (V := []) (by rw [List.append_nil]; exact t) hl hb hs g
theorem Gs.filesNil (g : Gs w0 n env (files [] :: H) X) : Gs w0 n env H X := fun a w e s => g a w e (Sat.bigs.2 s)
end
theorem find_at {P : DP} (hn : (names (fls P)).Nodup) (n : ByteArray) : (lookF (fls P) n = none ∧ mget (pairs P) n = none) ∨
   ∃ U f p V, P = U ++ (f, p) :: V ∧ f.n = n ∧ lookF (fls P) n = some f ∧ mget (pairs P) n = some (some p) ∧ (∀ g, upd (fls P) n g = fls U ++ g f :: fls V) ∧ del (fls P) n = fls (U ++ V) ∧
     mdel (pairs P) n = pairs (U ++ V) ∧ (∀ f' : Fl, f'.n = n → pairs (U ++ (f', p) :: V) = pairs P) ∧ (∀ (f' : Fl) q, f'.n = n → mput (pairs P) n (some q) = pairs (U ++ (f', q) :: V)) := by
 induction P with
 | nil => exact .inl ⟨rfl, rfl⟩
 | cons x P ih =>
   obtain ⟨y, q⟩ := x
   simp only [fls, names, List.map_cons, List.nodup_cons] at hn
   by_cases hx : y.n = n
   · refine .inr ⟨[], y, q, P, rfl, hx, ?_, ?_, ?_, ?_, ?_, ?_, ?_⟩
     · simp [lookF, hx]
     · simp [pairs, mget, hx]
     · intro g
       have hne : ∀ z ∈ fls P, z.n ≠ n := fun z hz e => hn.1 (by rw [hx, ← e]; exact List.mem_map_of_mem hz)
       simp only [upd, List.map_cons, hx, if_true, List.map_nil, List.nil_append, List.cons.injEq, true_and]
       conv => rhs; rw [← List.map_id (fls P)]
       exact List.map_congr_left fun z hz => by simp [hne z hz]
     · have hne : ∀ z ∈ fls P, z.n ≠ n := fun z hz e => hn.1 (by rw [hx, ← e]; exact List.mem_map_of_mem hz)
       simp only [del, List.map_cons, List.filter_cons, hx, List.nil_append, ne_eq, not_true_eq_false, decide_false, Bool.false_eq_true, if_false]
       exact List.filter_eq_self.2 fun z hz => by simpa using hne z hz
     · simp [pairs, mdel, hx]
     · intro f' hf; simp [pairs, hf, hx]
     · intro f' q' hf; simp [pairs, mput, hf, hx]
   · have hx' : ¬ n = y.n := fun e => hx e.symm
     rcases ih hn.2 with ⟨h1, h2⟩ | ⟨U, f, p, V, e0, e1, e2, e3, e4, e5, e6, e7, e8⟩
     · refine .inl ⟨?_, ?_⟩
       · simpa [lookF, hx] using h1
       · simp only [pairs, List.map_cons, mget, hx', if_false]; exact h2
     · refine .inr ⟨(y, q) :: U, f, p, V, by rw [e0]; rfl, e1, ?_, ?_, ?_, ?_, ?_, ?_, ?_⟩
       · simpa [lookF, hx] using e2
       · simp only [pairs, List.map_cons, mget, hx', if_false]; exact e3
       · intro g
         have := e4 g
         simp only [upd, fls, List.map_cons, hx, if_false, List.cons_append] at this ⊢
         rw [this]
       · simp only [del, fls, List.map_cons, List.filter_cons, ne_eq, hx, not_false_eq_true, decide_true, if_true, List.cons_append] at e5 ⊢
         rw [e5]
       · simp only [pairs, List.map_cons, mdel, hx', if_false, List.cons_append] at e6 ⊢
         rw [e6]
       · intro f' hf
         have := e7 f' hf
         simp only [pairs, List.map_cons, List.cons_append] at this ⊢
         rw [this]
       · intro f' q' hf
         have := e8 f' q' hf
         simp only [pairs, List.map_cons, mput, hx', if_false, List.cons_append] at this ⊢
         rw [this]
theorem mput_new {κ ν : Type} [DecidableEq κ] {k : κ} {v : ν} : ∀ (m : List (κ × ν)), mget m k = none → mput m k v = m ++ [(k, v)]
 | [], _ => rfl
 | (k', v') :: r, h => by
   simp only [mget] at h
   by_cases hk : k = k'
   · simp [hk] at h
   · simp only [hk, if_false] at h
     simp only [mput, hk, if_false, List.cons_append, mput_new r h]
theorem pairs_new {P : DP} {f : Fl} {p : Nat} (h : mget (pairs P) f.n = none) : mput (pairs P) f.n (some p) = pairs (P ++ [(f, p)]) := by
 rw [mput_new _ h]; simp [pairs]
theorem mkeys_pairs (P : DP) : mkeys (pairs P) = names (fls P) := by simp [mkeys, pairs, names, fls, Function.comp_def]
theorem length_pairs (P : DP) : (pairs P).length = (fls P).length := by simp [pairs]
end Go.Proofs.YtflfhpokmidnmaaGreatDoor
namespace Go.Proofs.YtflfhpokmidnmaaGreatDoor
open Go Go.Sl Go.Gv Go.Kv Go.Dv Go.Bst
set_option maxRecDepth 100000
theorem cloneB_spec {S : HProp} {a : Option Addr} {c : Nat} {xs : List UInt8} (hS : Srd S 1 byteC a xs) (hl : xs.length ≤ 1048576) :
   Ct Tryz.prog 152 [.slice a xs.length c] [S] (fun v hs => ∃ a' c', v = .slice a' xs.length c' ∧ hs = [S, sl 5 1 byteC a' c' xs]) := by
 refine Cti Tryz.func152 (by kernel_rfl) 8 Tryz.ntmps152 rfl rfl fun w0 R => ?_
 refine Gs.slAddr (hS.h (by repeat constructor)) fun ab ao ha => ?_
 refine Gsr (Las rfl rfl (Lnt (Gs.seq (Gsr (Lmv rfl rfl (Lq rfl (pu_eqL Tryz.underlying83 rfl rfl) (Lnt (Gs.cond rfl (fun hc0 => ?_) (fun hc0 => ?_)))))))))
 ·
  have hx : xs = [] := by
    apply Classical.byContradiction; intro hne; rw [ha hne] at hc0; cases hc0
  subst hx
  refine Gs.slNil 5 1 byteC (Gsr (Las rfl rfl (Lnt (Gs.ret (Gr ?_)))))
  exact Gs.fin1 Tryz.results152 rfl _ (⟨none, 0, rfl, rfl⟩) (by repeat constructor)
 refine Gs.skip (Gn (Gsr (La rfl (ac_lit encC_5 ([]) et_83 ek_5 rfl (by repeat constructor) rfl rfl (by decide)) ?_)))
 rintro _ _ ⟨a5, rfl, rfl⟩
 refine Lmv rfl rfl (La rfl (ac_append et_83 ek_5 rfl rfl (by repeat constructor) (SrcH.sl Tryz.underlying83 ek_5 (hS.h (by repeat constructor))) (by first | omega | (simp; omega)) (by first | omega | (simp; omega))) ?_)
 rintro _ _ ⟨a7, c7, rfl, rfl⟩
 refine Las rfl rfl (Lnt (Gs.ret ?_))
 exact Gs.fin1 Tryz.results152 rfl _ (⟨a7, c7, by simp, rfl⟩) (by repeat constructor)
end Go.Proofs.YtflfhpokmidnmaaGreatDoor
namespace Go.Proofs.YtflfhpokmidnmaaGreatDoor
open Go Go.Sl Go.Gv
set_option maxRecDepth 100000
def nextV (m : Nat) : Option (Nat × List UInt8 × Nat) → Option Addr → Nat → Value
 | none, _, _ => .tuple #[int 0, .slice none 0 0, int 0, .bool false]
 | some (k, b, n), a, c => .tuple #[int k, .slice a b.length c, int ((m + n : Nat) : Int), .bool true]
def nextH : Option (Nat × List UInt8 × Nat) → Option Addr → Nat → List HProp
 | none, _, _ => []
 | some (_, b, _), a, c => [sl 5 1 byteC a c b]
theorem next_spec {S : HProp} {a : Option Addr} {c : Nat} {bs : List UInt8} (hS : Srd S 1 byteC a bs) (hl : bs.length ≤ 1048576) (hc : bs.length ≤ c) (m : Nat) (hm : m ≤ bs.length) :
   Ct Tryz.prog 153 [.slice a bs.length c, int m] [S] (fun v hs => ∃ a' c', v = nextV m (nextB (bs.drop m)) a' c' ∧ hs = S :: nextH (nextB (bs.drop m)) a' c') := by
 obtain ⟨xs, hxs⟩ : ∃ xs, xs = bs.drop m := ⟨_, rfl⟩
 have hxl : xs.length = bs.length - m := by rw [hxs, List.length_drop]
 have hX : Srd S 1 byteC (suba a m c 1) xs := by rw [hxs]; exact hS.cutL m c hc
 rw [← hxs]
 refine Cti Tryz.func153 (by kernel_rfl) 96 Tryz.ntmps153 rfl rfl fun w0 R => ?_
 refine Gs.slAddr (hX.h (by repeat constructor)) fun xb xo hxa => ?_
 refine Gsr (Las rfl rfl (Las rfl rfl (Las rfl rfl (Las rfl rfl (Lnt (Gs.seq (Gsr (Lmv rfl rfl (Lq rfl (pu_lt rfl rfl) (LpuBf rfl rfl trivial (pu_move rfl) (decide_eq_false (by omega)) (Lpu rfl rfl ⟨_, rfl, rfl⟩ (pu_move rfl) ?_)))))))))))
 refine Lpu rfl rfl ⟨_, rfl, rfl⟩ (pu_move rfl) (Lpu rfl rfl ⟨_, rfl, rfl⟩ (pu_len Tryz.underlying83 rfl) (Lpu rfl rfl ⟨_, rfl, rfl⟩ (pu_gt rfl rfl) (Lpk rfl rfl rfl (LpuBf rfl rfl trivial (pu_move rfl) (decide_eq_false (by omega)) (Lpu rfl rfl ⟨_, rfl, rfl⟩ (pu_move rfl) (Lpu rfl rfl ⟨_, rfl, rfl⟩ (pu_len Tryz.underlying83 rfl) (Lpu rfl rfl ⟨_, rfl, rfl⟩ (pu_move rfl) (Lpu rfl rfl ⟨_, rfl, rfl⟩ (by first | exact pu_subI rfl rfl rfl (by omega) (by omega) | exact pu_sub rfl rfl) ?_))))))))
 refine Lpu rfl rfl ⟨_, rfl, rfl⟩ (pu_lt rfl rfl) (Lpk rfl rfl rfl (Lnt (Gs.cond rfl (fun hc0 => ?_) (fun hc0 => ?_))))
 ·
  have hno : nextB xs = none := by
    unfold nextB; rw [if_pos (by have := of_decide_eq_true hc0; omega)]
  refine Gsr (Las rfl rfl (Las rfl rfl (Las rfl rfl (Las rfl rfl (Lnt (Gs.ret (Gr ?_)))))))
  exact Gs.fin4 Tryz.results153 rfl rfl rfl rfl  _ (⟨none, 0, by rw [hno]; rfl, by rw [hno]⟩) (by repeat constructor)
 have h12 : 12 ≤ xs.length := by have := of_decide_eq_false hc0; omega
 refine Gs.skip (Gn (Gsr (Lmv rfl rfl (Lmv rfl rfl (Lq rfl (pu_sliceL et_83 rfl rfl (by omega) (by omega)) (Las rfl rfl (Lnil ?_)))))))
 have hae := hxa (by rintro e; rw [e] at h12; simp at h12)
 rw [show (.slice (suba a (m : Int).toNat c 1) (bs.length - (m : Int).toNat) (c - (m : Int).toNat) : Value) = .slice (some ⟨xb, xo, none⟩) xs.length (c - m) by rw [Int.toNat_natCast, hae, hxl]]
 rw [hae] at hX
 have hat : ∀ i, i < 12 → xs[i]? = some (xs.getD i 0) := fun i hi => by simp [List.getD, show i < xs.length by omega]
 refine Gn (Gs.seq (Gs.regD mixed (by kernel_rfl) (Rmv 0 rfl (by kernel_rfl) rfl (Rq 1 rfl (by kernel_rfl) (pu_ia se_83 rfl rfl (by omega) (by omega)) (Rr 2 rfl (by kernel_rfl) (rd_ld na_5 rfl (Rdc.el0 (hX.h (by repeat constructor)) (hat 2 (by decide)) rfl rfl)) ?_)))))
 refine Rq 3 rfl (by kernel_rfl) (pu_conv Tryz.underlying5 Tryz.underlying3 rfl) ?_
 rw [wrap_in (z := ((xs.getD 2 0).toNat : Int)) (by omega) (by have := (xs.getD 2 0).toNat_lt; omega)]
 refine Rq 4 rfl (by kernel_rfl) (pu_shl rfl rfl (by decide)) ?_
 rw [show IntKind.i64.wrap (((xs.getD 2 0).toNat : Int) * 2 ^ (min (8 : Int).toNat IntKind.i64.bits)) = (((xs.getD 2 0).toNat * 256 : Nat) : Int) by
   have := (xs.getD 2 0).toNat_lt
   rw [show (2 : Int) ^ (min (8 : Int).toNat IntKind.i64.bits) = 256 from rfl, wrap_in (by omega) (by omega)]; omega]
 refine Rq 5 rfl (by kernel_rfl) (pu_addI (z := ((4 + (xs.getD 2 0).toNat * 256 : Nat) : Int)) rfl rfl (by omega) (by omega) (by have := (xs.getD 2 0).toNat_lt; omega)) ?_
 refine Rmv 6 rfl (by kernel_rfl) rfl (Rq 7 rfl (by kernel_rfl) (pu_ia se_83 rfl rfl (by omega) (by omega)) (Rr 8 rfl (by kernel_rfl) (rd_ld na_5 rfl (Rdc.el0 (hX.h (by repeat constructor)) (hat 3 (by decide)) rfl rfl)) ?_))
 refine Rq 9 rfl (by kernel_rfl) (pu_conv Tryz.underlying5 Tryz.underlying3 rfl) ?_
 rw [wrap_in (z := ((xs.getD 3 0).toNat : Int)) (by omega) (by have := (xs.getD 3 0).toNat_lt; omega)]
 refine Rq 10 rfl (by kernel_rfl) (pu_addI (z := ((endB xs : Nat) : Int)) rfl rfl (by unfold endB; omega) (by omega) (by have := (xs.getD 2 0).toNat_lt; have := (xs.getD 3 0).toNat_lt; omega)) ?_
 refine Rq 11 rfl (by kernel_rfl) (pu_assign rfl) (Rg.end (by kernel_rfl) (Gn (Gs.seq (Gsr (Lmv rfl rfl (Lq rfl (pu_ia se_83 rfl rfl (by omega) (by omega)) (Lr rfl (rd_ld na_5 rfl (Rdc.el0 (hX.h (by repeat constructor)) (hat 0 (by decide)) rfl rfl)) ?_)))))))
 refine Lq rfl (pu_ne rfl rfl) (LpuB rfl rfl trivial (pu_move rfl) (fun hg4 => ?_) (fun hg4 => ?_))
 ·
  have hno : nextB xs = none := by
    unfold nextB
    rw [if_neg (by omega), if_pos (.inl fun e => by have := of_decide_eq_true hg4; rw [e] at this; exact this rfl)]
  refine Lof rfl (Lof rfl (Lof rfl (Lof rfl (Lpk rfl rfl rfl (Lmv rfl rfl (Lof rfl (Lof rfl (Lof rfl (Lof rfl (Lof rfl (Lpk rfl rfl rfl ?_)))))))))))
  refine Lnt (Gs.cond_t rfl (Gsr (Las rfl rfl (Las rfl rfl (Las rfl rfl (Las rfl rfl (Lnt (Gs.ret (Gr ?_)))))))))
  exact Gs.fin4 Tryz.results153 rfl rfl rfl rfl  _ (⟨none, 0, by rw [hno]; rfl, by rw [hno]⟩) (by repeat constructor)
 have hx0 : xs.getD 0 0 = 71 := by
   have h := of_decide_eq_false hg4
   apply UInt8.toNat_inj.1
   show (xs.getD 0 0).toNat = 71
   omega
 refine Lpu rfl rfl ⟨_, rfl, rfl⟩ (pu_move rfl) (Lpu rfl rfl ⟨_, rfl, rfl⟩ (pu_ia se_83 rfl rfl (by omega) (by omega)) (Lrd rfl rfl ⟨_, rfl, rfl⟩ (rd_ld na_5 rfl (Rdc.el0 (hX.h (by repeat constructor)) (hat 1 (by decide)) rfl rfl)) ?_))
 refine Lpu rfl rfl ⟨_, rfl, rfl⟩ (pu_eq rfl rfl) (Lpk rfl rfl rfl (LpuB rfl rfl trivial (pu_move rfl) (fun hg10 => ?_) (fun hg10 => ?_)))
 ·
  have hno : nextB xs = none := by
    have h := of_decide_eq_true hg10
    unfold nextB
    rw [if_neg (by omega), if_pos (.inr (.inl (UInt8.toNat_inj.1 (by show (xs.getD 1 0).toNat = 0; omega))))]
  refine Lof rfl (Lof rfl (Lof rfl (Lof rfl (Lof rfl (Lpk rfl rfl rfl (Lnt (Gs.cond_t rfl (Gsr (Las rfl rfl (Las rfl rfl (Las rfl rfl ?_)))))))))))
  refine Las rfl rfl (Lnt (Gs.ret (Gr ?_)))
  exact Gs.fin4 Tryz.results153 rfl rfl rfl rfl  _ (⟨none, 0, by rw [hno]; rfl, by rw [hno]⟩) (by repeat constructor)
 have hx1 : xs.getD 1 0 ≠ 0 := fun e => by have h := of_decide_eq_false hg10; rw [e] at h; exact h rfl
 refine Lpu rfl rfl ⟨_, rfl, rfl⟩ (pu_move rfl) (Lpu rfl rfl ⟨_, rfl, rfl⟩ (pu_len Tryz.underlying83 rfl) (Lpu rfl rfl ⟨_, rfl, rfl⟩ (by first | exact pu_subI rfl rfl rfl (by omega) (by omega) | exact pu_sub rfl rfl) ?_))
 refine Lpu rfl rfl ⟨_, rfl, rfl⟩ (pu_move rfl) (Lpu rfl rfl ⟨_, rfl, rfl⟩ (pu_lt rfl rfl) (Lpk rfl rfl rfl (Lnt (Gs.cond rfl (fun hc1 => ?_) (fun hc1 => ?_)))))
 ·
  have hno : nextB xs = none := by
    unfold nextB
    rw [if_neg (by omega), if_pos (.inr (.inr (by have := of_decide_eq_true hc1; omega)))]
  refine Gsr (Las rfl rfl (Las rfl rfl (Las rfl rfl (Las rfl rfl (Lnt (Gs.ret (Gr ?_)))))))
  exact Gs.fin4 Tryz.results153 rfl rfl rfl rfl  _ (⟨none, 0, by rw [hno]; rfl, by rw [hno]⟩) (by repeat constructor)
 have hend : endB xs + 8 ≤ xs.length := by have := of_decide_eq_false hc1; omega
 have h4 : 4 ≤ endB xs := by unfold endB; omega
 obtain ⟨ys, hys⟩ : ∃ ys, ys = xs.take (endB xs) := ⟨_, rfl⟩
 have hyl : ys.length = endB xs := by rw [hys, List.length_take]; omega
 have hY : Srd S 1 byteC (some ⟨xb, xo, none⟩) ys := by
   have := hX.cutH (endB xs) (c - m) (by omega)
   rwa [suba_zero, ← hys] at this
 obtain ⟨zs, hzs⟩ : ∃ zs, zs = (xs.drop (endB xs)).take 8 := ⟨_, rfl⟩
 have hzl : zs.length = 8 := by rw [hzs, List.length_take, List.length_drop]; omega
 have hZ : Srd S 1 byteC (some ⟨xb, xo + endB xs * 1, none⟩) zs := by
   have := (hX.cutL (endB xs) (c - m) (by omega)).cutH 8 (c - m - endB xs) (by rw [List.length_drop]; omega)
   rwa [suba_zero, suba_some (by omega), ← hzs] at this
 have hB : Srd S 1 byteC (some ⟨xb, xo + 4 * 1, none⟩) (ys.drop 4) := by
   have := hY.cutL 4 (c - m) (by omega)
   rwa [suba_some (by omega)] at this
 have hbl : (ys.drop 4).length = endB xs - 4 := by rw [List.length_drop, hyl]
 have hsum : zs = bytes8 (hashB ys) 8 → nextB xs = some ((xs.getD 1 0).toNat, ys.drop 4, endB xs + 8) := fun h => by
   unfold nextB
   rw [if_neg (by omega), if_neg (by
     rintro (e | e | e)
     · exact e hx0
     · exact hx1 e
     · omega), ← hzs, ← hys, if_pos h]
 have hno : zs ≠ bytes8 (hashB ys) 8 → nextB xs = none := fun h => by
   unfold nextB
   rw [if_neg (by omega), if_neg (by
     rintro (e | e | e)
     · exact e hx0
     · exact hx1 e
     · omega), ← hzs, ← hys, if_neg h]
 refine Gs.skip (Gn (Gsr (Lmv rfl rfl (Lmv rfl rfl (Lq rfl (pu_sliceH et_83 rfl rfl (by omega) (by omega)) ?_)))))
 rw [show (.slice (suba (some ⟨xb, xo, none⟩) 0 (c - m) 1) ((endB xs : Nat) : Int).toNat (c - m) : Value) = .slice (some ⟨xb, xo, none⟩) ys.length (c - m) by rw [suba_zero, Int.toNat_natCast, hyl]]
 refine La rfl (ac_lit encC_83 ([⟨some ⟨xb, xo, none⟩, ys, c - m⟩]) et_221 ek_83 rfl (by repeat constructor) rfl rfl (by decide)) ?_
 rintro _ _ ⟨a62, rfl, rfl⟩
 refine La rfl (asC (hof_spec (U := sl 83 1 slC (some ⟨a62, 0, none⟩) 1 [⟨some ⟨xb, xo, none⟩, ys, c - m⟩]) (S := S) Srd.own (by simp; exact ⟨hY, by omega⟩) (by simp))) ?_
 rintro _ _ ⟨_, ⟨rfl, rfl⟩, rfl⟩
 rw [show flat [⟨some ⟨xb, xo, none⟩, ys, c - m⟩] = ys by simp [flat]]
 refine Las rfl rfl (Lnt (Gs.seq (Gsr (Lmv rfl rfl (Lmv rfl rfl (Lmv rfl rfl (Lq rfl (by first | exact pu_addI rfl rfl rfl (by omega) (by omega) | exact pu_add rfl rfl) ?_)))))))
 refine Lq rfl (pu_slice et_83 rfl rfl rfl (by omega) (by omega) (by omega)) ?_
 rw [show (.slice (suba (some ⟨xb, xo, none⟩) ((endB xs : Nat) : Int).toNat (c - m) 1) ((((endB xs : Nat) : Int) + 8).toNat - ((endB xs : Nat) : Int).toNat) (c - m - ((endB xs : Nat) : Int).toNat) : Value) = .slice (some ⟨xb, xo + endB xs * 1, none⟩) 8 (c - m - endB xs) by
   rw [Int.toNat_natCast, suba_some (by omega), show (((endB xs : Nat) : Int) + 8).toNat = endB xs + 8 by omega, Nat.add_sub_cancel_left]]
 refine Lq rfl (pu_len Tryz.underlying83 rfl) (Lmv rfl rfl (Lnt (Gs.block (Gs.loop1 (fun i : Nat => i ≤ 8 ∧ zs.take i = (bytes8 (hashB ys) 8).take i) (fun i => [(1, int m), (8, .slice (some ⟨xb, xo, none⟩) xs.length (c - m)), (9, int (endB xs : Nat)), (10, .int .u64 (hashB ys)), (68, .slice (some ⟨xb, xo + endB xs * 1, none⟩) 8 (c - m - endB xs)), (69, int (8 : Nat)), (70, int i)]) (fun i => [S] ++ R) (fun i => 8 - i) 0 (⟨Nat.zero_le _, rfl⟩) (by repeat constructor) (by repeat constructor) (fun i ⟨hi, ht⟩ => ?_)))))
 refine Gsr (Lq rfl (pu_lt rfl rfl) (Lnt (Gs.seq (Gs.cond rfl (fun hc2 => ?_) (fun hc2 => ?_)))))
 ·
  have hlt : i < 8 := by have := of_decide_eq_true hc2; omega
  obtain ⟨y, hy⟩ : ∃ y, zs[i]? = some y := ⟨zs[i]'(by omega), by simp [hzl, hlt]⟩
  have hby : (bytes8 (hashB ys) 8)[i]? = some (byteU (hashB ys) (56 - 8 * i)) := by unfold bytes8; rw [List.getElem?_map, List.getElem?_range hlt]; rfl
  refine Gs.skip (Gn (Gs.seq (Gs.block (Gsr (Lmv rfl rfl (Lq rfl (pu_ia se_83 rfl rfl (by omega) (by omega)) (Lr rfl (rd_ld na_5 rfl (Rdc.el0 (hZ.h (by repeat constructor)) hy rfl rfl)) ?_)))))))
  refine Las rfl rfl (Las rfl rfl (Lnt (Gsr (Lmv rfl rfl (Lmv rfl rfl (Lmv rfl rfl (Lq rfl (by first | exact pu_mulI rfl rfl rfl (by omega) (by omega) | exact pu_mul rfl rfl) ?_)))))))
  refine Lq rfl (pu_subI (z := ((56 - 8 * i : Nat) : Int)) rfl rfl (by omega) (by omega) (by omega)) ?_
  refine Lq rfl (pu_shr rfl rfl (by omega)) (Lq rfl (pu_conv Tryz.underlying165 Tryz.underlying5 rfl) ?_)
  rw [cutB_eq]
  refine Lq rfl (pu_ne rfl rfl) (Lnt (Gs.cond rfl (fun hc3 => ?_) (fun hc3 => ?_)))
  ·
   have hnone := hno (fun e => by
     rw [e, hby] at hy
     have h := of_decide_eq_true hc3
     exact h (by rw [← Option.some.inj hy]; rfl))
   refine Gsr (Las rfl rfl (Las rfl rfl (Las rfl rfl (Las rfl rfl (Lnt (Gs.ret (Gs.blk_r (Gr (Gr (Gs.blk_r (Gr ?_)))))))))))
   exact Gs.fin4 Tryz.results153 rfl rfl rfl rfl  _ (⟨none, 0, by rw [hnone]; rfl, by rw [hnone]⟩) (by repeat constructor)
  have hyb : y = byteU (hashB ys) (56 - 8 * i) := UInt8.toNat_inj.1 (by have h := of_decide_eq_false hc3; exact Int.ofNat.inj (Decidable.not_not.1 h))
  refine Gs.skip (Gs.blk_n (Gn (Gs.reg (Lq rfl (by first | exact pu_addI rfl rfl rfl (by omega) (by omega) | exact pu_add rfl rfl) ?_))))
  refine Lmv rfl rfl (Lnt ?_)
  exact Ag (i + 1) ⟨by omega, by rw [List.take_add_one, List.take_add_one, ht, hy, hby, hyb]⟩ (by omega)
 have hge : i = 8 := by have := of_decide_eq_false hc2; omega
 have hyes := hsum (by
   rw [hge, List.take_of_length_le (by omega), List.take_of_length_le (by rw [bytes8_length]; exact Nat.le_refl _)] at ht
   exact ht)
 have hm2 : endB xs - 4 = (ys.drop 4).length := hbl.symm
 refine Gs.exit (Gx (Gx (Gs.blk_hit (Gn (Gs.seq (Gs.regD mixed (by kernel_rfl) (Rmv 0 rfl (by kernel_rfl) rfl (Rq 1 rfl (by kernel_rfl) (pu_ia se_83 rfl rfl (by omega) (by omega)) (Rr 2 rfl (by kernel_rfl) (rd_ld na_5 rfl (Rdc.el0 (hX.h (by repeat constructor)) (hat 1 (by decide)) rfl rfl)) ?_)))))))))
 refine Rq 3 rfl (by kernel_rfl) (pu_conv Tryz.underlying5 Tryz.underlying3 rfl) ?_
 rw [wrap_in (z := ((xs.getD 1 0).toNat : Int)) (by omega) (by have := (xs.getD 1 0).toNat_lt; omega)]
 refine Rmv 4 rfl (by kernel_rfl) rfl (Rmv 5 rfl (by kernel_rfl) rfl (Rq 6 rfl (by kernel_rfl) (pu_slice et_83 rfl rfl rfl (by omega) (by omega) (by omega)) ?_))
 rw [show (.slice (suba (some ⟨xb, xo, none⟩) (4 : Int).toNat (c - m) 1) (((endB xs : Nat) : Int).toNat - (4 : Int).toNat) (c - m - (4 : Int).toNat) : Value) = .slice (some ⟨xb, xo + 4 * 1, none⟩) (ys.drop 4).length (c - m - 4) by
   rw [Int.toNat_natCast, show (4 : Int).toNat = 4 from rfl, suba_some (by omega), hm2]]
 refine Rmv 8 rfl (by kernel_rfl) rfl (Rmv 9 rfl (by kernel_rfl) rfl (Rq 10 rfl (by kernel_rfl) (by first | exact pu_addI rfl rfl rfl (by omega) (by omega) | exact pu_add rfl rfl) ?_))
 refine Rq 11 rfl (by kernel_rfl) (pu_addI (z := ((m + (endB xs + 8) : Nat) : Int)) rfl rfl (by omega) (by omega) (by omega)) ?_
 refine Rg.one (by kernel_rfl) (Stp.acR 7 [2] rfl rfl (by kernel_rfl) trivial (asC (cloneB_spec hB (by omega))) (by rintro _ _ ⟨_, ⟨ba, bc, rfl, rfl⟩, rfl⟩; exact (Reads.cons rfl rfl rfl trivial rfl (rd_ld na_5 rfl (Rdc.el0 (hX.h (by repeat constructor)) (hat 1 (by decide)) rfl rfl)) Reads.nil)) ?_)
 rintro _ _ ⟨_, ⟨ba, bc, rfl, rfl⟩, rfl⟩
 refine Rq 12 rfl (by kernel_rfl) (pu_assign rfl) (Rq 13 rfl (by kernel_rfl) (pu_assign rfl) (Rq 14 rfl (by kernel_rfl) (pu_assign rfl) (Rq 15 rfl (by kernel_rfl) (pu_assign rfl) (Rg.end (by kernel_rfl) (Gn (Gs.ret ?_))))))
 exact Gs.fin4 Tryz.results153 rfl rfl rfl rfl  _ (⟨ba, bc, by rw [hyes]; rfl, by rw [hyes]⟩) (by repeat constructor)
end Go.Proofs.YtflfhpokmidnmaaGreatDoor
namespace Go.Proofs.YtflfhpokmidnmaaGreatDoor
open Go Go.Sl Go.Gv
set_option maxRecDepth 100000
theorem nil_len (l : List Int) : decide ((l.length : Int) = 0) = decide (l = []) := by cases l <;> simp <;> omega
theorem may_base {e : EntP} {n : Int} (h : e.kind = 1) : mayE e n = (decide (e.r = Rec.zero) && vecB e.v n && vecB e.w n && belowB e.w e.v) := by unfold mayE; rw [if_pos h]
theorem may_mark {e : EntP} {n : Int} (h : e.kind = 3) : mayE e n = (decide (e.r = Rec.zero) && decide (e.v = []) && vecB e.w n) := by unfold mayE; rw [if_neg (by omega), if_pos h]
theorem may_rec {e : EntP} {n : Int} (h : e.kind = 2) : mayE e n = (decide (e.v = []) && decide (e.w = []) && decide (1 ≤ n) && decide (n ≤ 8) && decide (e.r.o < n) && recB e.r) := by unfold mayE; rw [if_neg (by omega), if_neg (by omega), if_pos h]
theorem may_none {e : EntP} {n : Int} (h1 : e.kind ≠ 1) (h3 : e.kind ≠ 3) (h2 : e.kind ≠ 2) : mayE e n = false := by unfold mayE; rw [if_neg h1, if_neg h3, if_neg h2]
theorem vec_small {v : List Int} {n : Int} (h : vecB v n = true) : v.length ≤ 1000000 := by have := vec_len h; omega
theorem segMay_spec {U : HProp} {e : EntV} (hE : EVd U e) (hR : RMs U) (n : Int) : Ct Tryz.prog 106 [entV e, int n] [U] (fun v hs => v = .bool (mayE e.p n) ∧ hs = [U]) := by
 refine Cti Tryz.func106 (by kernel_rfl) 82 Tryz.ntmps106 rfl rfl fun w0 R => ?_
 refine Gsr (La rfl (ac_box rfl rfl) ?_)
 rintro _ _ ⟨b2, rfl, rfl⟩
 refine Las rfl rfl (Lnt (Gsr (Lq rfl (pu_fa fa_106_3 rfl) (Lr rfl (rd_lda ag_50 rfl (Rdc.cl 5 (by repeat constructor) rfl) rfl) ?_))))
 refine Lq rfl (pu_build bd_50 (by repeat constructor) rfl) ?_
 refine Lq rfl (pu_eqT (a := e.r) (b := Rec.zero) cmp_50 (by decide) Tryz.eqGuardType50 rfl rfl) ?_
 refine Las rfl rfl (Lnt (Gs.seq (Gsr (Lq rfl (pu_fa fa_106_0 rfl) (Lr rfl (rd_ld na_3 rfl (Rdc.cl1 (by repeat constructor) rfl)) ?_)))))
 refine Lnt (Gs.block (Gsr (Lq rfl (pu_eq rfl rfl) (Las rfl rfl (Lnt (Gs.cond rfl (fun hc0 => ?_) (fun hc0 => ?_)))))))
 ·
  have hm := may_base (e := e.p) (n := n) (of_decide_eq_true hc0)
  simp only [EntV.p] at hm
  refine Gsr (Lmv rfl rfl (LpuB rfl rfl trivial (pu_move rfl) (fun hg1 => ?_) (fun hg1 => ?_)))
  ·
   refine Lpu rfl rfl ⟨_, rfl, rfl⟩ (pu_fa fa_106_1 rfl) (Lrd rfl rfl ⟨_, rfl, rfl⟩ (rd_ld na_30 rfl (Rdc.cl1 (by repeat constructor) rfl)) ?_)
   refine Lpu rfl rfl ⟨_, rfl, rfl⟩ (pu_move rfl) (Lac rfl rfl ⟨_, rfl, rfl⟩ (asC (vecMay_spec hE.1 n)) ?_)
   rintro _ _ ⟨_, ⟨rfl, rfl⟩, rfl⟩
   refine Lpk rfl rfl rfl (LpuB rfl rfl trivial (pu_move rfl) (fun hg7 => ?_) (fun hg7 => ?_))
   ·
    refine Lpu rfl rfl ⟨_, rfl, rfl⟩ (pu_fa fa_106_2 rfl) (Lrd rfl rfl ⟨_, rfl, rfl⟩ (rd_ld na_30 rfl (Rdc.cl1 (by repeat constructor) rfl)) ?_)
    refine Lpu rfl rfl ⟨_, rfl, rfl⟩ (pu_move rfl) (Lac rfl rfl ⟨_, rfl, rfl⟩ (asC (vecMay_spec hE.2 n)) ?_)
    rintro _ _ ⟨_, ⟨rfl, rfl⟩, rfl⟩
    refine Lpk rfl rfl rfl (LpuB rfl rfl trivial (pu_move rfl) (fun hg13 => ?_) (fun hg13 => ?_))
    ·
     refine Lpu rfl rfl ⟨_, rfl, rfl⟩ (pu_fa fa_106_2 rfl) (Lrd rfl rfl ⟨_, rfl, rfl⟩ (rd_ld na_30 rfl (Rdc.cl1 (by repeat constructor) rfl)) ?_)
     refine Lpu rfl rfl ⟨_, rfl, rfl⟩ (pu_fa fa_106_1 rfl) (Lrd rfl rfl ⟨_, rfl, rfl⟩ (rd_ld na_30 rfl (Rdc.cl1 (by repeat constructor) rfl)) ?_)
     refine Lac rfl rfl ⟨_, rfl, rfl⟩ (asC (below_spec hE.2 hE.1 (vec_small (by assumption)))) ?_
     rintro _ _ ⟨_, ⟨rfl, rfl⟩, rfl⟩
     refine Lpk rfl rfl rfl (Las rfl rfl (Lnt (Gs.ret (Gs.blk_r (Gr ?_)))))
     exact Gs.fin1 Tryz.results106 rfl _ (⟨by grind [EntV.p], rfl⟩) (by repeat constructor)
    refine Lof rfl (Lof rfl (Lof rfl (Lof rfl (Lof rfl (Lpk rfl rfl rfl (Las rfl rfl (Lnt (Gs.ret (Gs.blk_r (Gr ?_))))))))))
    exact Gs.fin1 Tryz.results106 rfl _ (⟨by grind [EntV.p], rfl⟩) (by repeat constructor)
   refine Lof rfl (Lof rfl (Lof rfl (Lof rfl (Lpk rfl rfl rfl (Lmv rfl rfl (Lof rfl (Lof rfl (Lof rfl (Lof rfl (Lof rfl (Lpk rfl rfl rfl ?_)))))))))))
   refine Las rfl rfl (Lnt (Gs.ret (Gs.blk_r (Gr ?_))))
   exact Gs.fin1 Tryz.results106 rfl _ (⟨by grind [EntV.p], rfl⟩) (by repeat constructor)
  refine Lof rfl (Lof rfl (Lof rfl (Lof rfl (Lpk rfl rfl rfl (Lmv rfl rfl (Lof rfl (Lof rfl (Lof rfl (Lof rfl (Lpk rfl rfl rfl (Lmv rfl rfl ?_)))))))))))
  refine Lof rfl (Lof rfl (Lof rfl (Lof rfl (Lof rfl (Lpk rfl rfl rfl (Las rfl rfl (Lnt (Gs.ret (Gs.blk_r (Gr ?_))))))))))
  exact Gs.fin1 Tryz.results106 rfl _ (⟨by grind [EntV.p], rfl⟩) (by repeat constructor)
 have k1 : e.kind ≠ 1 := of_decide_eq_false hc0
 refine Gsr (Lq rfl (pu_eq rfl rfl) (Las rfl rfl (Lnt (Gs.cond rfl (fun hc1 => ?_) (fun hc1 => ?_)))))
 ·
  have hm := may_mark (e := e.p) (n := n) (of_decide_eq_true hc1)
  simp only [EntV.p] at hm
  have hl := nil_len e.v.xs
  refine Gsr (Lmv rfl rfl (LpuB rfl rfl trivial (pu_move rfl) (fun hg1 => ?_) (fun hg1 => ?_)))
  ·
   refine Lpu rfl rfl ⟨_, rfl, rfl⟩ (pu_fa fa_106_1 rfl) (Lrd rfl rfl ⟨_, rfl, rfl⟩ (rd_ld na_30 rfl (Rdc.cl1 (by repeat constructor) rfl)) ?_)
   refine Lpu rfl rfl ⟨_, rfl, rfl⟩ (pu_len Tryz.underlying30 rfl) (Lpu rfl rfl ⟨_, rfl, rfl⟩ (pu_eq rfl rfl) (Lpk rfl rfl rfl (LpuB rfl rfl trivial (pu_move rfl) (fun hg7 => ?_) (fun hg7 => ?_))))
   ·
    refine Lpu rfl rfl ⟨_, rfl, rfl⟩ (pu_fa fa_106_2 rfl) (Lrd rfl rfl ⟨_, rfl, rfl⟩ (rd_ld na_30 rfl (Rdc.cl1 (by repeat constructor) rfl)) ?_)
    refine Lpu rfl rfl ⟨_, rfl, rfl⟩ (pu_move rfl) (Lac rfl rfl ⟨_, rfl, rfl⟩ (asC (vecMay_spec hE.2 n)) ?_)
    rintro _ _ ⟨_, ⟨rfl, rfl⟩, rfl⟩
    refine Lpk rfl rfl rfl (Las rfl rfl (Lnt (Gs.ret (Gs.blk_r (Gr ?_)))))
    exact Gs.fin1 Tryz.results106 rfl _ (⟨by grind [EntV.p], rfl⟩) (by repeat constructor)
   refine Lof rfl (Lof rfl (Lof rfl (Lof rfl (Lpk rfl rfl rfl (Las rfl rfl (Lnt (Gs.ret (Gs.blk_r (Gr ?_)))))))))
   exact Gs.fin1 Tryz.results106 rfl _ (⟨by grind [EntV.p], rfl⟩) (by repeat constructor)
  refine Lof rfl (Lof rfl (Lof rfl (Lof rfl (Lpk rfl rfl rfl (Lmv rfl rfl (Lof rfl (Lof rfl (Lof rfl (Lof rfl (Lpk rfl rfl rfl (Las rfl rfl ?_)))))))))))
  refine Lnt (Gs.ret (Gs.blk_r (Gr ?_)))
  exact Gs.fin1 Tryz.results106 rfl _ (⟨by grind [EntV.p], rfl⟩) (by repeat constructor)
 have k3 : e.kind ≠ 3 := of_decide_eq_false hc1
 refine Gsr (Lq rfl (pu_eq rfl rfl) (Las rfl rfl (Lnt (Gs.cond rfl (fun hc2 => ?_) (fun hc2 => ?_)))))
 ·
  have hm := may_rec (e := e.p) (n := n) (of_decide_eq_true hc2)
  simp only [EntV.p] at hm
  have hl := nil_len e.v.xs
  have hl2 := nil_len e.w.xs
  refine Gsr (Lq rfl (pu_fa fa_106_1 rfl) (Lr rfl (rd_ld na_30 rfl (Rdc.cl1 (by repeat constructor) rfl)) ?_))
  refine Lq rfl (pu_len Tryz.underlying30 rfl) (Lq rfl (pu_eq rfl rfl) (LpuB rfl rfl trivial (pu_move rfl) (fun hg4 => ?_) (fun hg4 => ?_)))
  ·
   refine Lpu rfl rfl ⟨_, rfl, rfl⟩ (pu_fa fa_106_2 rfl) (Lrd rfl rfl ⟨_, rfl, rfl⟩ (rd_ld na_30 rfl (Rdc.cl1 (by repeat constructor) rfl)) ?_)
   refine Lpu rfl rfl ⟨_, rfl, rfl⟩ (pu_len Tryz.underlying30 rfl) (Lpu rfl rfl ⟨_, rfl, rfl⟩ (pu_eq rfl rfl) (Lpk rfl rfl rfl (LpuB rfl rfl trivial (pu_move rfl) (fun hg10 => ?_) (fun hg10 => ?_))))
   ·
    refine Lpu rfl rfl ⟨_, rfl, rfl⟩ (pu_move rfl) (Lpu rfl rfl ⟨_, rfl, rfl⟩ (pu_ge rfl rfl) (Lpk rfl rfl rfl (LpuB rfl rfl trivial (pu_move rfl) (fun hg14 => ?_) (fun hg14 => ?_))))
    ·
     refine Lpu rfl rfl ⟨_, rfl, rfl⟩ (pu_move rfl) (Lpu rfl rfl ⟨_, rfl, rfl⟩ (pu_le rfl rfl) (Lpk rfl rfl rfl (LpuB rfl rfl trivial (pu_move rfl) (fun hg18 => ?_) (fun hg18 => ?_))))
     ·
      refine Lpu rfl rfl ⟨_, rfl, rfl⟩ (pu_fa fa_106_3 rfl) (Lpu rfl rfl ⟨_, rfl, rfl⟩ (pu_fa fa_50_0 rfl) (Lpu rfl rfl ⟨_, rfl, rfl⟩ (pu_fa fa_35_0 rfl) (Lrd rfl rfl ⟨_, rfl, rfl⟩ (rd_ld na_3 rfl (Rdc.cl1 (by repeat constructor) rfl)) ?_)))
      refine Lpu rfl rfl ⟨_, rfl, rfl⟩ (pu_move rfl) (Lpu rfl rfl ⟨_, rfl, rfl⟩ (pu_lt rfl rfl) (Lpk rfl rfl rfl (LpuB rfl rfl trivial (pu_move rfl) (fun hg26 => ?_) (fun hg26 => ?_))))
      ·
       refine Lpu rfl rfl ⟨_, rfl, rfl⟩ (pu_fa fa_106_3 rfl) (Lrd rfl rfl ⟨_, rfl, rfl⟩ (rd_lda ag_50 rfl (Rdc.cl 5 (by repeat constructor) rfl) rfl) ?_)
       refine Lac rfl rfl ⟨_, rfl, rfl⟩ (asC (hR.may e.r)) ?_
       rintro _ _ ⟨_, ⟨rfl, rfl⟩, rfl⟩
       refine Lpk rfl rfl rfl (Las rfl rfl (Lnt (Gs.ret (Gs.blk_r (Gr ?_)))))
       exact Gs.fin1 Tryz.results106 rfl _ (⟨by grind [EntV.p], rfl⟩) (by repeat constructor)
      refine Lof rfl (Lof rfl (Lof rfl (Lpk rfl rfl rfl (Las rfl rfl (Lnt (Gs.ret (Gs.blk_r (Gr ?_))))))))
      exact Gs.fin1 Tryz.results106 rfl _ (⟨by grind [EntV.p], rfl⟩) (by repeat constructor)
     refine Lof rfl (Lof rfl (Lof rfl (Lof rfl (Lof rfl (Lof rfl (Lpk rfl rfl rfl (Lmv rfl rfl (Lof rfl (Lof rfl (Lof rfl (Lpk rfl rfl rfl ?_)))))))))))
     refine Las rfl rfl (Lnt (Gs.ret (Gs.blk_r (Gr ?_))))
     exact Gs.fin1 Tryz.results106 rfl _ (⟨by grind [EntV.p], rfl⟩) (by repeat constructor)
    refine Lof rfl (Lof rfl (Lpk rfl rfl rfl (Lmv rfl rfl (Lof rfl (Lof rfl (Lof rfl (Lof rfl (Lof rfl (Lof rfl (Lpk rfl rfl rfl (Lmv rfl rfl ?_)))))))))))
    refine Lof rfl (Lof rfl (Lof rfl (Lpk rfl rfl rfl (Las rfl rfl (Lnt (Gs.ret (Gs.blk_r (Gr ?_))))))))
    exact Gs.fin1 Tryz.results106 rfl _ (⟨by grind [EntV.p], rfl⟩) (by repeat constructor)
   refine Lof rfl (Lof rfl (Lpk rfl rfl rfl (Lmv rfl rfl (Lof rfl (Lof rfl (Lpk rfl rfl rfl (Lmv rfl rfl (Lof rfl (Lof rfl (Lof rfl (Lof rfl ?_)))))))))))
   refine Lof rfl (Lof rfl (Lpk rfl rfl rfl (Lmv rfl rfl (Lof rfl (Lof rfl (Lof rfl (Lpk rfl rfl rfl (Las rfl rfl (Lnt (Gs.ret (Gs.blk_r ?_)))))))))))
   refine Gr ?_
   exact Gs.fin1 Tryz.results106 rfl _ (⟨by grind [EntV.p], rfl⟩) (by repeat constructor)
  refine Lof rfl (Lof rfl (Lof rfl (Lof rfl (Lpk rfl rfl rfl (Lmv rfl rfl (Lof rfl (Lof rfl (Lpk rfl rfl rfl (Lmv rfl rfl (Lof rfl (Lof rfl ?_)))))))))))
  refine Lpk rfl rfl rfl (Lmv rfl rfl (Lof rfl (Lof rfl (Lof rfl (Lof rfl (Lof rfl (Lof rfl (Lpk rfl rfl rfl (Lmv rfl rfl (Lof rfl (Lof rfl ?_)))))))))))
  refine Lof rfl (Lpk rfl rfl rfl (Las rfl rfl (Lnt (Gs.ret (Gs.blk_r (Gr ?_))))))
  exact Gs.fin1 Tryz.results106 rfl _ (⟨by grind [EntV.p], rfl⟩) (by repeat constructor)
 have k2 : e.kind ≠ 2 := of_decide_eq_false hc2
 refine Gs.skip (Gs.blk_n (Gn (Gsr (Las rfl rfl (Lnt (Gs.ret ?_))))))
 exact Gs.fin1 Tryz.results106 rfl _ (⟨by rw [may_none (e := e.p) k1 k3 k2], rfl⟩) (by repeat constructor)
theorem numbers_spec {S : HProp} {a b : Option Addr} {c d : Nat} {xs : List UInt8} {v : List Int} (hV : Srd S 1 intC b v) (hl : xs.length ≤ 1000) (hv : v.length ≤ 1000) :
   Ct Tryz.prog 129 [.slice a xs.length c, .slice b v.length d] [sl 5 1 byteC a c xs, S] (fun r hs => ∃ a' c', r = .slice a' (xs ++ numsB v).length c' ∧ hs = [sl 5 1 byteC a' c' (xs ++ numsB v), S]) := by
 refine Cti Tryz.func129 (by kernel_rfl) 29 Tryz.ntmps129 rfl rfl fun w0 R => ?_
 refine Gs.slAddr (hV.h (by repeat constructor)) fun bb bo hb => ?_
 refine Gsr (Las rfl rfl (Lnt (Gsr (Lmv rfl rfl (Lmv rfl rfl (Lq rfl (pu_len Tryz.underlying30 rfl) (Lq rfl (pu_conv Tryz.underlying3 Tryz.underlying5 rfl) ?_)))))))
 rw [cutB_eq, cut_nat]
 refine La rfl (ac_lit encC_5 ([UInt8.ofNat v.length]) et_83 ek_5 rfl (by repeat constructor) rfl rfl (by decide)) ?_
 rintro _ _ ⟨a11, rfl, rfl⟩
 refine La rfl (ac_append (xs := xs) (ys := [UInt8.ofNat v.length]) et_83 ek_5 rfl rfl (by repeat constructor) (SrcH.sl Tryz.underlying83 ek_5 (SlH.own (by repeat constructor))) (by first | omega | (simp; omega)) (by first | omega | (simp; omega))) ?_
 rintro _ _ ⟨a12, c12, rfl, rfl⟩
 refine Las rfl rfl (Lnt (Gs.seq (Gsr (Lmv rfl rfl (Lq rfl (pu_len Tryz.underlying30 rfl) (Lmv rfl rfl (Lnt (Gs.block (Gs.loop1 (fun s : Nat × Option Addr × Nat × List UInt8 => s.1 ≤ v.length ∧ s.2.2.2 = xs ++ [UInt8.ofNat v.length] ++ (v.take s.1).flatMap twoB) (fun s => [(0, .slice s.2.1 s.2.2.2.length s.2.2.1), (13, .slice b v.length d), (14, int v.length), (15, int s.1)]) (fun s => [sl 5 1 byteC s.2.1 s.2.2.1 s.2.2.2, S] ++ R) (fun s => v.length - s.1) (0, a12, c12, xs ++ [UInt8.ofNat v.length]) (⟨Nat.zero_le _, by simp⟩) (by repeat constructor) (by repeat constructor) (fun s hs => ?_))))))))))
 obtain ⟨i, ca, cc, l⟩ := s
 obtain ⟨hi, hl1⟩ := hs
 dsimp only at hi hl1 ⊢
 have hll : l.length ≤ 4000 := by
   have h2 := two_len (v.take i)
   have h3 := List.length_take (i := i) (l := v)
   rw [hl1, List.length_append, List.length_append, h2, h3, List.length_cons, List.length_nil]; omega
 refine Gsr (Lq rfl (pu_lt rfl rfl) (Lnt (Gs.seq (Gs.cond rfl (fun hc0 => ?_) (fun hc0 => ?_)))))
 ·
  have hlt : i < v.length := by have := of_decide_eq_true hc0; omega
  obtain ⟨x, hx⟩ : ∃ x, v[i]? = some x := ⟨v[i], by simp [hlt]⟩
  obtain rfl := hb (by rintro rfl; simp at hlt)
  have h2l : (twoB x).length = 2 := rfl
  have hst : l ++ twoB x = xs ++ [UInt8.ofNat v.length] ++ (v.take (i + 1)).flatMap twoB := by rw [hl1, List.take_add_one, hx]; simp
  refine Gs.skip (Gn (Gs.seq (Gs.block (Gsr (Lq rfl (pu_ia se_30 rfl rfl (by omega) (by omega)) (Lr rfl (rd_ld na_3 rfl (Rdc.el0 (hV.h (by repeat constructor)) hx rfl rfl)) ?_))))))
  refine Las rfl rfl (Lnt (Gs.reg (Lmv rfl rfl (Lmv rfl rfl (Lq rfl (pu_shr rfl rfl (by omega)) (Lq rfl (pu_conv Tryz.underlying3 Tryz.underlying5 rfl) ?_))))))
  rw [cutB_eq]
  refine Lmv rfl rfl (Lq rfl (pu_conv Tryz.underlying3 Tryz.underlying5 rfl) ?_)
  rw [cutB_eq]
  refine La rfl (ac_lit encC_5 ((twoB x)) et_83 ek_5 rfl (by repeat constructor) rfl rfl (by decide)) ?_
  rintro _ _ ⟨a25, rfl, rfl⟩
  refine La rfl (ac_append (xs := l) (ys := twoB x) et_83 ek_5 rfl rfl (by repeat constructor) (SrcH.sl Tryz.underlying83 ek_5 (SlH.own (by repeat constructor))) (by first | omega | (simp; omega)) (by first | omega | (simp; omega))) ?_
  rintro _ _ ⟨a26, c26, rfl, rfl⟩
  refine Las rfl rfl (Lnil (Gs.blk_n (Gn (Gs.reg (Lq rfl (by first | exact pu_addI rfl rfl rfl (by omega) (by omega) | exact pu_add rfl rfl) ?_)))))
  refine Lmv rfl rfl (Lnt ?_)
  exact Ag (i + 1, a26, c26, l ++ twoB x) ⟨by show i + 1 ≤ v.length; omega, hst⟩ (by show v.length - (i + 1) < v.length - i; omega)
 have hge : i = v.length := by have := of_decide_eq_false hc0; omega
 have hfin : l = xs ++ numsB v := by rw [hl1, hge, List.take_length]; simp [numsB]
 rw [hfin]
 refine Gs.exit (Gx (Gx (Gs.blk_hit (Gn (Gsr (Lmv rfl rfl (Las rfl rfl (Lnt (Gs.ret ?_)))))))))
 exact Gs.fin1 Tryz.results129 rfl _ (⟨ca, cc, rfl, rfl⟩) (by repeat constructor)
def anyM (e : EntP) (i : Nat) : Bool := (List.range i).any fun k => mayE e ((k : Int) + 1)
theorem anyM_succ (e : EntP) (i : Nat) : anyM e (i + 1) = (anyM e i || mayE e ((i : Int) + 1)) := by unfold anyM; rw [List.range_succ]; simp
theorem may_n {e : EntP} {n : Int} (h : mayE e n = true) : 1 ≤ n ∧ n ≤ 8 := by
 have hv : ∀ {v : List Int}, vecB v n = true → 1 ≤ n ∧ n ≤ 8 := fun h => by
   unfold vecB at h; simp only [Bool.and_eq_true, decide_eq_true_eq] at h; omega
 rcases may_kind h with k | k | k
 · rw [may_base k] at h; simp only [Bool.and_eq_true] at h; exact hv h.1.1.2
 · rw [may_rec k] at h; simp only [Bool.and_eq_true, decide_eq_true_eq] at h; omega
 · rw [may_mark k] at h; simp only [Bool.and_eq_true] at h; exact hv h.2
theorem anyM_all {e : EntP} {n : Int} (h : mayE e n = true) : anyM e 8 = true := by
 obtain ⟨h1, h8⟩ := may_n h
 unfold anyM
 rw [List.any_eq_true]
 exact ⟨(n - 1).toNat, by simp; omega, by rw [show (((n - 1).toNat : Nat) : Int) + 1 = n by omega]; exact h⟩
theorem segLay_spec {U : HProp} {e : EntV} (hE : EVd U e) (hR : RMs U) {n0 : Int} (hm : mayE e.p n0 = true) :
   Ct Tryz.prog 89 [entV e] [U] (fun v hs => ∃ a c, v = .tuple #[.slice a (layE e.p).length c, int 0] ∧ hs = [U, sl 5 1 byteC a c (layE e.p)]) := by
 have hbl := body_len hm
 have hkd := may_kind hm
 have hall := anyM_all hm
 have hkp : e.p.kind = e.kind := rfl
 have hfl : ∀ {a : Option Addr} {c : Nat}, Ct Tryz.prog 130 [int e.kind, .slice a (bodyE e.p).length c] [sl 5 1 byteC a c (bodyE e.p)] (fun v hs => ∃ a' c', v = .tuple #[.slice a' (layE e.p).length c', int 0] ∧ hs = [sl 5 1 byteC a c (bodyE e.p), sl 5 1 byteC a' c' (layE e.p)]) := by
   intro a c
   have := frLay_spec (k := e.kind.toNat) (by omega) (by omega) (S := sl 5 1 byteC a c (bodyE e.p)) (a := a) (c := c) (xs := bodyE e.p) Srd.own (by omega)
   rwa [show ((e.kind.toNat : Nat) : Int) = e.kind by omega] at this
 have h1 : e.kind = 1 → vecB e.v.xs n0 = true ∧ vecB e.w.xs n0 = true ∧ numsB e.v.xs ++ numsB e.w.xs = bodyE e.p := fun h => by
   have hm1 := hm
   rw [may_base (e := e.p) h] at hm1
   simp only [Bool.and_eq_true] at hm1
   refine ⟨hm1.1.1.2, hm1.1.2, ?_⟩
   unfold bodyE; rw [if_pos (by rw [hkp]; exact h)]; rfl
 have h3 : e.kind = 3 → vecB e.w.xs n0 = true ∧ numsB e.w.xs = bodyE e.p := fun h => by
   have hm1 := hm
   rw [may_mark (e := e.p) h] at hm1
   simp only [Bool.and_eq_true] at hm1
   refine ⟨hm1.2, ?_⟩
   unfold bodyE; rw [if_neg (by rw [hkp]; omega), if_pos (by rw [hkp]; exact h)]; rfl
 have h2 : e.kind ≠ 1 → e.kind ≠ 3 → recB e.r = true ∧ layB e.r = bodyE e.p := fun k1 k3 => by
   have k2 : e.kind = 2 := by omega
   have hm1 := hm
   rw [may_rec (e := e.p) k2] at hm1
   simp only [Bool.and_eq_true] at hm1
   refine ⟨hm1.2, ?_⟩
   unfold bodyE; rw [if_neg (by rw [hkp]; omega), if_neg (by rw [hkp]; omega)]; rfl
 refine Cti Tryz.func89 (by kernel_rfl) 47 Tryz.ntmps89 rfl rfl fun w0 R => ?_
 refine Gsr (La rfl (ac_box rfl rfl) ?_)
 rintro _ _ ⟨eb, rfl, rfl⟩
 refine Las rfl rfl (Las rfl rfl (Lnt (Gsr (Las rfl rfl (Lnt (Gs.seq (Gsr (Lmv rfl rfl (Lnt (Gs.block (Gs.loop1 (fun s : Nat × Bool => s.1 ≤ 8 ∧ s.2 = anyM e.p s.1) (fun s => [(1, ptr eb), (4, .bool s.2), (7, int s.1)]) (fun s => [cl eb 106 (entC e), U] ++ R) (fun s => 8 - s.1) (0, false) (⟨Nat.zero_le _, rfl⟩) (by repeat constructor) (by repeat constructor) (fun s hs => ?_))))))))))))
 obtain ⟨i, m⟩ := s
 obtain ⟨hi, hm1⟩ := hs
 dsimp only at hi hm1 ⊢
 refine Gsr (Lq rfl (pu_lt rfl rfl) (Lnt (Gs.seq (Gs.cond rfl (fun hc0 => ?_) (fun hc0 => ?_)))))
 ·
  have hlt : i < 8 := by have := of_decide_eq_true hc0; omega
  have hst := anyM_succ e.p i
  rw [← hm1] at hst
  refine Gs.skip (Gn (Gs.seq (Gs.block (Gsr (Lmv rfl rfl (Las rfl rfl (Lnt (Gs.reg (Lmv rfl rfl (LpuB rfl rfl trivial (pu_move rfl) (fun hg1 => ?_) (fun hg1 => ?_)))))))))))
  ·
   refine Lof rfl (Lof rfl (Lof rfl (Lof rfl (Lpk rfl rfl rfl (Las rfl rfl (Lnil (Gs.blk_n (Gn (Gs.reg (Lq rfl (by first | exact pu_addI rfl rfl rfl (by omega) (by omega) | exact pu_add rfl rfl) ?_))))))))))
   refine Lmv rfl rfl (Lnt ?_)
   first | exact Ag (i + 1, true) ⟨hlt, by rw [hst, hg1]; rfl⟩ (by show 8 - (i + 1) < 8 - i; omega) | exact Ag (i + 1, mayE e.p ((i : Int) + 1)) ⟨hlt, by rw [hst, hg1]; rfl⟩ (by show 8 - (i + 1) < 8 - i; omega)
  refine Lrd rfl rfl ⟨_, rfl, rfl⟩ (rd_lda ag_106 rfl (Rdc.cl 8 (by repeat constructor) rfl) rfl) ?_
  refine Lpu rfl rfl ⟨_, rfl, rfl⟩ (pu_move rfl) (Lpu rfl rfl ⟨_, rfl, rfl⟩ (by first | exact pu_addI rfl rfl rfl (by omega) (by omega) | exact pu_add rfl rfl) ?_)
  refine Lac rfl rfl ⟨_, rfl, rfl⟩ (asC (segMay_spec hE hR ((i : Int) + 1))) ?_
  rintro _ _ ⟨_, ⟨rfl, rfl⟩, rfl⟩
  refine Lpk rfl rfl rfl (Las rfl rfl (Lnil (Gs.blk_n (Gn (Gs.reg (Lq rfl (by first | exact pu_addI rfl rfl rfl (by omega) (by omega) | exact pu_add rfl rfl) ?_))))))
  refine Lmv rfl rfl (Lnt ?_)
  first | exact Ag (i + 1, true) ⟨hlt, by rw [hst, hg1]; rfl⟩ (by show 8 - (i + 1) < 8 - i; omega) | exact Ag (i + 1, mayE e.p ((i : Int) + 1)) ⟨hlt, by rw [hst, hg1]; rfl⟩ (by show 8 - (i + 1) < 8 - i; omega)
 have hge : i = 8 := by have := of_decide_eq_false hc0; omega
 have hmt : m = true := by rw [hm1, hge, hall]
 subst hmt
 refine Gs.exit (Gx (Gx (Gs.blk_hit (Gn (Gs.seq (Gsr (Lmv rfl rfl (Lq rfl (pu_not rfl) (Lnt (Gs.cond_ff rfl rfl (Gs.skip ?_)))))))))))
 refine Gn (Gsr (Las rfl rfl (Lnt (Gs.seq (Gsr (Lq rfl (pu_fa fa_106_0 rfl) (Lr rfl (rd_ld na_3 rfl (Rdc.cl1 (by repeat constructor) rfl)) ?_)))))))
 refine Lnt (Gs.block (Gsr (Lq rfl (pu_eq rfl rfl) (Las rfl rfl (Lnt (Gs.cond rfl (fun hc2 => ?_) (fun hc2 => ?_)))))))
 ·
  obtain ⟨hv, hw, hb⟩ := h1 (of_decide_eq_true hc2)
  have hvl := vec_len hv
  have hwl := vec_len hw
  have hnl := nums_len e.v.xs
  refine Gs.slNil 5 1 byteC (Gs.regD mixed (by kernel_rfl) (Rq 0 rfl (by kernel_rfl) (pu_fa fa_106_1 rfl) (Rr 1 rfl (by kernel_rfl) (rd_ld na_30 rfl (Rdc.cl1 (by repeat constructor) rfl)) ?_)))
  refine Rq 3 rfl (by kernel_rfl) (pu_fa fa_106_2 rfl) (Rr 4 rfl (by kernel_rfl) (rd_ld na_30 rfl (Rdc.cl1 (by repeat constructor) rfl)) ?_)
  refine Rg.one (by kernel_rfl) (Stp.acR 2 [4] rfl rfl (by kernel_rfl) trivial (asC (numbers_spec (a := none) (c := 0) (xs := []) hE.1 (by simp) (by omega))) (by rintro _ _ ⟨_, ⟨ya, yc, rfl, rfl⟩, rfl⟩; exact (Reads.cons rfl rfl rfl trivial rfl (rd_ld na_30 rfl (Rdc.cl1 (by repeat constructor) rfl)) Reads.nil)) ?_)
  rintro _ _ ⟨_, ⟨ya, yc, rfl, rfl⟩, rfl⟩
  rw [List.nil_append]
  refine Rg.one (by kernel_rfl) (Stp.ac 5 rfl rfl (by kernel_rfl) trivial (asC (numbers_spec (a := ya) (c := yc) (xs := numsB e.v.xs) hE.2 (by omega) (by omega)))  ?_)
  rintro _ _ ⟨_, ⟨za, zc, rfl, rfl⟩, rfl⟩
  rw [hb]
  refine Rq 6 rfl (by kernel_rfl) (pu_assign rfl) (Rg.end (by kernel_rfl) (Gs.blk_n (Gn (Gsr (Lq rfl (pu_fa fa_106_0 rfl) (Lr rfl (rd_ld na_3 rfl (Rdc.cl1 (by repeat constructor) rfl)) ?_))))))
  refine Lmv rfl rfl (La rfl (asC (hfl (a := za) (c := zc))) ?_)
  rintro _ _ ⟨_, ⟨fa, fc, rfl, rfl⟩, rfl⟩
  refine Lq rfl (pu_extract rfl rfl) (Lq rfl (pu_extract rfl rfl) (Las rfl rfl (Las rfl rfl (Lnt (Gs.ret ?_)))))
  exact Gs.fin2 Tryz.results89 rfl rfl _ (⟨fa, fc, rfl, rfl⟩) (by repeat constructor)
 have k1 : e.kind ≠ 1 := of_decide_eq_false hc2
 refine Gsr (Lq rfl (pu_eq rfl rfl) (Las rfl rfl (Lnt (Gs.cond rfl (fun hc3 => ?_) (fun hc3 => ?_)))))
 ·
  obtain ⟨hw, hb⟩ := h3 (of_decide_eq_true hc3)
  have hwl := vec_len hw
  refine Gs.slNil 5 1 byteC (Gs.reg (Lq rfl (pu_fa fa_106_2 rfl) (Lr rfl (rd_ld na_30 rfl (Rdc.cl1 (by repeat constructor) rfl)) ?_)))
  refine La rfl (asC (numbers_spec (a := none) (c := 0) (xs := []) hE.2 (by simp) (by omega))) ?_
  rintro _ _ ⟨_, ⟨za, zc, rfl, rfl⟩, rfl⟩
  rw [List.nil_append, hb]
  refine Las rfl rfl (Lnil (Gs.blk_n (Gn (Gsr (Lq rfl (pu_fa fa_106_0 rfl) (Lr rfl (rd_ld na_3 rfl (Rdc.cl1 (by repeat constructor) rfl)) ?_))))))
  refine Lmv rfl rfl (La rfl (asC (hfl (a := za) (c := zc))) ?_)
  rintro _ _ ⟨_, ⟨fa, fc, rfl, rfl⟩, rfl⟩
  refine Lq rfl (pu_extract rfl rfl) (Lq rfl (pu_extract rfl rfl) (Las rfl rfl (Las rfl rfl (Lnt (Gs.ret ?_)))))
  exact Gs.fin2 Tryz.results89 rfl rfl _ (⟨fa, fc, rfl, rfl⟩) (by repeat constructor)
 have k3 : e.kind ≠ 3 := of_decide_eq_false hc3
 obtain ⟨hrb, hb⟩ := h2 k1 k3
 refine Gs.reg (Lq rfl (pu_fa fa_106_3 rfl) (Lr rfl (rd_lda ag_50 rfl (Rdc.cl 5 (by repeat constructor) rfl) rfl) ?_))
 refine La rfl (asC (hR.lay e.r hrb)) ?_
 rintro _ _ ⟨_, ⟨za, zc, rfl, rfl⟩, rfl⟩
 rw [hb]
 refine Lmv rfl rfl (Lq rfl (pu_extract rfl rfl) (Lq rfl (pu_extract rfl rfl) (Las rfl rfl (Lnil (Gs.blk_n (Gn (Gsr (Lq rfl (pu_fa fa_106_0 rfl) (Lr rfl (rd_ld na_3 rfl (Rdc.cl1 (by repeat constructor) rfl)) ?_)))))))))
 refine Lmv rfl rfl (La rfl (asC (hfl (a := za) (c := zc))) ?_)
 rintro _ _ ⟨_, ⟨fa, fc, rfl, rfl⟩, rfl⟩
 refine Lq rfl (pu_extract rfl rfl) (Lq rfl (pu_extract rfl rfl) (Las rfl rfl (Las rfl rfl (Lnt (Gs.ret ?_)))))
 exact Gs.fin2 Tryz.results89 rfl rfl _ (⟨fa, fc, rfl, rfl⟩) (by repeat constructor)
end Go.Proofs.YtflfhpokmidnmaaGreatDoor
namespace Go.Proofs.YtflfhpokmidnmaaGreatDoor
open Go Go.Sl Go.Gv
set_option maxRecDepth 100000
abbrev bodyC (a : Option Addr) (l c : Nat) (bad : Bool) : List Value := [.slice a l c, .bool bad]
def numAt (bs : List UInt8) (i : Nat) : Int := (((bs.getD (1 + 2 * i) 0).toNat * 256 + (bs.getD (2 + 2 * i) 0).toNat : Nat) : Int)
theorem readV_none {bs : List UInt8} (h : readV bs = none) : bs = [] ∨ (bs.length - 1) / 2 < (bs.getD 0 0).toNat := by
 unfold readV at h
 split at h
 · assumption
 · cases h
theorem readV_some {bs rest : List UInt8} {v : List Int} (h : readV bs = some (v, rest)) : 0 < bs.length ∧ (bs.getD 0 0).toNat ≤ (bs.length - 1) / 2 ∧ v = (List.range (bs.getD 0 0).toNat).map (numAt bs) ∧ rest = bs.drop (1 + 2 * (bs.getD 0 0).toNat) := by
 unfold readV at h
 split at h
 · cases h
 · rename_i h0
   cases h
   refine ⟨?_, ?_, rfl, rfl⟩
   · exact List.length_pos_iff.2 fun e => h0 (.inl e)
   · exact Nat.le_of_not_lt fun e => h0 (.inr e)
theorem vecB_none {p : Nat} {S : HProp} {a : Option Addr} {c : Nat} {bs : List UInt8} (hS : Srd S 1 byteC a bs) (hl : bs.length ≤ 1048576) (h : readV bs = none) :
   Ct Tryz.prog 197 [ptr p] [cl p 243 (bodyC a bs.length c false), S] (fun v hs => v = .slice none 0 0 ∧ hs = [cl p 243 (bodyC a bs.length c true), S]) := by
 have hno := readV_none h
 refine Cti Tryz.func197 (by kernel_rfl) 81 Tryz.ntmps197 rfl rfl fun w0 R => ?_
 refine Gs.slAddr (hS.h (by repeat constructor)) fun xb xo hxa => ?_
 refine Gsr (Las rfl rfl (Lnt (Gs.seq (Gs.seq (Gs.regD mixed (by kernel_rfl) (Rmv 0 rfl (by kernel_rfl) rfl (Rq 1 rfl (by kernel_rfl) (by first | exact pu_nil rfl | exact pu_nilF rfl) ?_)))))))
 refine Rq 2 rfl (by kernel_rfl) (pu_fa fa_243_0 rfl) (Rr 3 rfl (by kernel_rfl) (rd_ld na_83 rfl (Rdc.cl1 (by repeat constructor) rfl)) ?_)
 refine Rq 4 rfl (by kernel_rfl) (pu_len Tryz.underlying83 rfl) (Rq 5 rfl (by kernel_rfl) (pu_eq rfl rfl) (Rg.puB 6 rfl rfl (by kernel_rfl) trivial (pu_move rfl) (fun hg6 => ?_) (fun hg6 => ?_)))
 ·
  refine Rof 7 rfl (by kernel_rfl) rfl (Rof 8 rfl (by kernel_rfl) rfl (Rof 9 rfl (by kernel_rfl) rfl (Rof 10 rfl (by kernel_rfl) rfl (Rof 11 rfl (by kernel_rfl) rfl (Rof 12 rfl (by kernel_rfl) rfl (Rof 13 rfl (by kernel_rfl) rfl (Rof 14 rfl (by kernel_rfl) rfl (Rof 15 rfl (by kernel_rfl) rfl (Rof 16 rfl (by kernel_rfl) rfl (Rof 17 rfl (by kernel_rfl) rfl (Rof 18 rfl (by kernel_rfl) rfl ?_)))))))))))
  refine Rof 19 rfl (by kernel_rfl) rfl (Rof 20 rfl (by kernel_rfl) rfl (Rof 21 rfl (by kernel_rfl) rfl (Rpk 22 rfl (by kernel_rfl) rfl rfl (Rg.end (by kernel_rfl) (Gn (Gs.cond_t rfl (Gsr (Lmv rfl rfl (Lq rfl (by first | exact pu_nil rfl | exact pu_nilF rfl) ?_)))))))))
  refine Lq rfl (pu_fa fa_243_1 rfl) (Lac0 rfl trivial (ac_st sz_4 rfl rfl (by repeat constructor) rfl rfl rfl rfl) ?_)
  rintro _ _ rfl
  refine Lnt (Gsr (Las rfl rfl (Lnt (Gs.ret (Gr ?_)))))
  exact Gs.fin1 Tryz.results197 rfl _ (⟨rfl, rfl⟩) (by repeat constructor)
 have hne : 0 < bs.length := by have := of_decide_eq_false hg6; omega
 obtain rfl := hxa (by rintro rfl; simp at hne)
 have hlt : (bs.length - 1) / 2 < (bs.getD 0 0).toNat := hno.resolve_left (by rintro rfl; simp at hne)
 have hb8 := (bs.getD 0 0).toNat_lt
 have hat : bs[0]? = some (bs.getD 0 0) := by simp [List.getD, hne]
 refine Rg.pu 7 rfl rfl (by kernel_rfl) ⟨_, rfl, rfl⟩ (pu_move rfl) (Rg.pu 8 rfl rfl (by kernel_rfl) ⟨_, rfl, rfl⟩ (by first | exact pu_nil rfl | exact pu_nilF rfl) ?_)
 refine Rg.pu 9 rfl rfl (by kernel_rfl) ⟨_, rfl, rfl⟩ (pu_fa fa_243_0 rfl) (Rg.rd 10 rfl rfl (by kernel_rfl) ⟨_, rfl, rfl⟩ (rd_ld na_83 rfl (Rdc.cl1 (by repeat constructor) rfl)) ?_)
 refine Rg.pu 11 rfl rfl (by kernel_rfl) ⟨_, rfl, rfl⟩ (pu_len Tryz.underlying83 rfl) (Rg.pu 12 rfl rfl (by kernel_rfl) ⟨_, rfl, rfl⟩ (pu_subI (z := ((bs.length - 1 : Nat) : Int)) rfl rfl (by omega) (by omega) (by omega)) ?_)
 refine Rg.pu 13 rfl rfl (by kernel_rfl) ⟨_, rfl, rfl⟩ (pu_quo rfl rfl (by omega)) ?_
 rw [show IntKind.i64.wrap (((bs.length - 1 : Nat) : Int).tdiv 2) = (((bs.length - 1) / 2 : Nat) : Int) from wrap_in (z := (((bs.length - 1) / 2 : Nat) : Int)) (by omega) (by omega)]
 refine Rg.pu 14 rfl rfl (by kernel_rfl) ⟨_, rfl, rfl⟩ (pu_move rfl) (Rg.pu 15 rfl rfl (by kernel_rfl) ⟨_, rfl, rfl⟩ (by first | exact pu_nil rfl | exact pu_nilF rfl) ?_)
 refine Rg.pu 16 rfl rfl (by kernel_rfl) ⟨_, rfl, rfl⟩ (pu_fa fa_243_0 rfl) (Rg.rd 17 rfl rfl (by kernel_rfl) ⟨_, rfl, rfl⟩ (rd_ld na_83 rfl (Rdc.cl1 (by repeat constructor) rfl)) ?_)
 refine Rg.pu 18 rfl rfl (by kernel_rfl) ⟨_, rfl, rfl⟩ (pu_ia se_83 rfl rfl (by omega) (by omega)) (Rg.rd 19 rfl rfl (by kernel_rfl) ⟨_, rfl, rfl⟩ (rd_ld na_5 rfl (Rdc.el0 (hS.h (by repeat constructor)) hat rfl rfl)) ?_)
 refine Rg.pu 20 rfl rfl (by kernel_rfl) ⟨_, rfl, rfl⟩ (pu_conv Tryz.underlying5 Tryz.underlying3 rfl) ?_
 rw [wrap_in (z := ((bs.getD 0 0).toNat : Int)) (by omega) (by omega)]
 refine Rg.pu 21 rfl rfl (by kernel_rfl) ⟨_, rfl, rfl⟩ (pu_lt rfl rfl) (Rpk 22 rfl (by kernel_rfl) rfl rfl (Rg.end (by kernel_rfl) (Gn (Gs.cond_tt rfl (decide_eq_true (by omega)) (Gsr (Lmv rfl rfl (Lq rfl (by first | exact pu_nil rfl | exact pu_nilF rfl) ?_)))))))
 refine Lq rfl (pu_fa fa_243_1 rfl) (Lac0 rfl trivial (ac_st sz_4 rfl rfl (by repeat constructor) rfl rfl rfl rfl) ?_)
 rintro _ _ rfl
 refine Lnt (Gsr (Las rfl rfl (Lnt (Gs.ret (Gr ?_)))))
 exact Gs.fin1 Tryz.results197 rfl _ (⟨rfl, rfl⟩) (by repeat constructor)
theorem vecB_some {p : Nat} {S : HProp} {a : Option Addr} {c : Nat} {bs rest : List UInt8} {v : List Int} (hS : Srd S 1 byteC a bs) (hl : bs.length ≤ 1048576) (hc : bs.length ≤ c) (h : readV bs = some (v, rest)) :
   Ct Tryz.prog 197 [ptr p] [cl p 243 (bodyC a bs.length c false), S] (fun r hs => ∃ a' c' ra rc, r = .slice a' v.length c' ∧ (Srd S 1 byteC ra rest ∧ rest.length ≤ rc) ∧ hs = [cl p 243 (bodyC ra rest.length rc false), S, sl 3 1 intC a' c' v]) := by
 obtain ⟨hne, hcn, hv, hr⟩ := readV_some h
 obtain ⟨n, hn⟩ : ∃ n, n = (bs.getD 0 0).toNat := ⟨_, rfl⟩
 rw [← hn] at hcn hv hr
 have hn8 : n < 256 := by rw [hn]; exact (bs.getD 0 0).toNat_lt
 have hat : ∀ i, i < bs.length → bs[i]? = some (bs.getD i 0) := fun i hi => by simp [List.getD, hi]
 have hvl : v.length = n := by rw [hv]; simp
 have hrl : rest.length = bs.length - (1 + 2 * n) := by rw [hr, List.length_drop]
 refine Cti Tryz.func197 (by kernel_rfl) 81 Tryz.ntmps197 rfl rfl fun w0 R => ?_
 refine Gs.slAddr (hS.h (by repeat constructor)) fun xb xo hxa => ?_
 obtain rfl := hxa (by rintro rfl; simp at hne)
 refine Gsr (Las rfl rfl (Lnt (Gs.seq (Gs.seq (Gs.regD mixed (by kernel_rfl) (Rmv 0 rfl (by kernel_rfl) rfl (Rq 1 rfl (by kernel_rfl) (by first | exact pu_nil rfl | exact pu_nilF rfl) ?_)))))))
 refine Rq 2 rfl (by kernel_rfl) (pu_fa fa_243_0 rfl) (Rr 3 rfl (by kernel_rfl) (rd_ld na_83 rfl (Rdc.cl1 (by repeat constructor) rfl)) ?_)
 refine Rq 4 rfl (by kernel_rfl) (pu_len Tryz.underlying83 rfl) (Rq 5 rfl (by kernel_rfl) (pu_eq rfl rfl) (Rg.puBf 6 rfl rfl (by kernel_rfl) trivial (pu_move rfl) (decide_eq_false (by omega)) (Rg.pu 7 rfl rfl (by kernel_rfl) ⟨_, rfl, rfl⟩ (pu_move rfl) (Rg.pu 8 rfl rfl (by kernel_rfl) ⟨_, rfl, rfl⟩ (by first | exact pu_nil rfl | exact pu_nilF rfl) ?_))))
 refine Rg.pu 9 rfl rfl (by kernel_rfl) ⟨_, rfl, rfl⟩ (pu_fa fa_243_0 rfl) (Rg.rd 10 rfl rfl (by kernel_rfl) ⟨_, rfl, rfl⟩ (rd_ld na_83 rfl (Rdc.cl1 (by repeat constructor) rfl)) ?_)
 refine Rg.pu 11 rfl rfl (by kernel_rfl) ⟨_, rfl, rfl⟩ (pu_len Tryz.underlying83 rfl) (Rg.pu 12 rfl rfl (by kernel_rfl) ⟨_, rfl, rfl⟩ (pu_subI (z := ((bs.length - 1 : Nat) : Int)) rfl rfl (by omega) (by omega) (by omega)) ?_)
 refine Rg.pu 13 rfl rfl (by kernel_rfl) ⟨_, rfl, rfl⟩ (pu_quo rfl rfl (by omega)) ?_
 rw [show IntKind.i64.wrap (((bs.length - 1 : Nat) : Int).tdiv 2) = (((bs.length - 1) / 2 : Nat) : Int) from wrap_in (z := (((bs.length - 1) / 2 : Nat) : Int)) (by omega) (by omega)]
 refine Rg.pu 14 rfl rfl (by kernel_rfl) ⟨_, rfl, rfl⟩ (pu_move rfl) (Rg.pu 15 rfl rfl (by kernel_rfl) ⟨_, rfl, rfl⟩ (by first | exact pu_nil rfl | exact pu_nilF rfl) ?_)
 refine Rg.pu 16 rfl rfl (by kernel_rfl) ⟨_, rfl, rfl⟩ (pu_fa fa_243_0 rfl) (Rg.rd 17 rfl rfl (by kernel_rfl) ⟨_, rfl, rfl⟩ (rd_ld na_83 rfl (Rdc.cl1 (by repeat constructor) rfl)) ?_)
 refine Rg.pu 18 rfl rfl (by kernel_rfl) ⟨_, rfl, rfl⟩ (pu_ia se_83 rfl rfl (by omega) (by omega)) (Rg.rd 19 rfl rfl (by kernel_rfl) ⟨_, rfl, rfl⟩ (rd_ld na_5 rfl (Rdc.el0 (hS.h (by repeat constructor)) (hat 0 hne) rfl rfl)) ?_)
 refine Rg.pu 20 rfl rfl (by kernel_rfl) ⟨_, rfl, rfl⟩ (pu_conv Tryz.underlying5 Tryz.underlying3 rfl) ?_
 rw [wrap_in (z := ((bs.getD 0 0).toNat : Int)) (by omega) (by omega), ← hn]
 refine Rg.pu 21 rfl rfl (by kernel_rfl) ⟨_, rfl, rfl⟩ (pu_lt rfl rfl) (Rpk 22 rfl (by kernel_rfl) rfl rfl (Rg.end (by kernel_rfl) (Gn (Gs.cond_ff rfl (decide_eq_false (by omega)) (Gs.skip (Gn (Gsr (Lmv rfl rfl (Lq rfl (by first | exact pu_nil rfl | exact pu_nilF rfl) ?_)))))))))
 refine Lq rfl (pu_fa fa_243_0 rfl) (Lr rfl (rd_ld na_83 rfl (Rdc.cl1 (by repeat constructor) rfl)) ?_)
 refine Lq rfl (pu_ia se_83 rfl rfl (by omega) (by omega)) (Lr rfl (rd_ld na_5 rfl (Rdc.el0 (hS.h (by repeat constructor)) (hat 0 hne) rfl rfl)) ?_)
 refine Lq rfl (pu_conv Tryz.underlying5 Tryz.underlying3 rfl) ?_
 rw [wrap_in (z := ((bs.getD 0 0).toNat : Int)) (by omega) (by omega), ← hn]
 refine Las rfl rfl (Lnt (Gsr (Las rfl rfl (Lnil (Gs.slNil 3 1 intC (Gn (Gs.seq (Gsr (Lmv rfl rfl (Lmv rfl rfl (Lnt ?_)))))))))))
 refine Gs.block (Gs.loop1 (fun s : Nat × Option Addr × Nat × List Int => s.1 ≤ n ∧ s.2.2.2 = (List.range s.1).map (numAt bs)) (fun s => [(0, ptr p), (3, int n), (4, .slice s.2.1 s.2.2.2.length s.2.2.1), (39, int n), (40, int s.1)]) (fun s => [cl p 243 (bodyC (some ⟨xb, xo, none⟩) bs.length c false), S, sl 3 1 intC s.2.1 s.2.2.1 s.2.2.2] ++ R) (fun s => n - s.1) (0, none, 0, []) (⟨Nat.zero_le _, rfl⟩) (by repeat constructor) (by repeat constructor) (fun s hs => ?_))
 obtain ⟨i, ca, cc, l⟩ := s
 obtain ⟨hi, hl1⟩ := hs
 dsimp only at hi hl1 ⊢
 have hll : l.length = i := by rw [hl1]; simp
 refine Gsr (Lq rfl (pu_lt rfl rfl) (Lnt (Gs.seq (Gs.cond rfl (fun hc1 => ?_) (fun hc1 => ?_)))))
 ·
  have hlt : i < n := by have := of_decide_eq_true hc1; omega
  have b1 := (bs.getD (1 + 2 * i) 0).toNat_lt
  have b2 := (bs.getD (2 + 2 * i) 0).toNat_lt
  have hst : l ++ [numAt bs i] = (List.range (i + 1)).map (numAt bs) := by rw [hl1, List.range_succ, List.map_append]; rfl
  refine Gs.skip (Gn (Gs.seq (Gs.block (Gsr (Lmv rfl rfl (Las rfl rfl (Lnt (Gs.regD mixed (by kernel_rfl) (Rmv 0 rfl (by kernel_rfl) rfl (Rmv 1 rfl (by kernel_rfl) rfl (Rq 2 rfl (by kernel_rfl) (by first | exact pu_nil rfl | exact pu_nilF rfl) ?_)))))))))))
  refine Rq 3 rfl (by kernel_rfl) (pu_fa fa_243_0 rfl) (Rr 4 rfl (by kernel_rfl) (rd_ld na_83 rfl (Rdc.cl1 (by repeat constructor) rfl)) ?_)
  refine Rmv 5 rfl (by kernel_rfl) rfl (Rq 6 rfl (by kernel_rfl) (by first | exact pu_mulI rfl rfl rfl (by omega) (by omega) | exact pu_mul rfl rfl) ?_)
  refine Rq 7 rfl (by kernel_rfl) (pu_addI (z := ((1 + 2 * i : Nat) : Int)) rfl rfl (by omega) (by omega) (by omega)) ?_
  refine Rq 8 rfl (by kernel_rfl) (pu_ia se_83 rfl rfl (by omega) (by omega)) (Rr 9 rfl (by kernel_rfl) (rd_ld na_5 rfl (Rdc.el0 (hS.h (by repeat constructor)) (hat (1 + 2 * i) (by omega)) rfl rfl)) ?_)
  refine Rq 10 rfl (by kernel_rfl) (pu_conv Tryz.underlying5 Tryz.underlying3 rfl) ?_
  rw [wrap_in (z := ((bs.getD (1 + 2 * i) 0).toNat : Int)) (by omega) (by omega)]
  refine Rq 11 rfl (by kernel_rfl) (pu_shl rfl rfl (by decide)) ?_
  rw [show IntKind.i64.wrap (((bs.getD (1 + 2 * i) 0).toNat : Int) * 2 ^ (min (8 : Int).toNat IntKind.i64.bits)) = (((bs.getD (1 + 2 * i) 0).toNat * 256 : Nat) : Int) by
    rw [show (2 : Int) ^ (min (8 : Int).toNat IntKind.i64.bits) = 256 from rfl, wrap_in (by omega) (by omega)]; omega]
  refine Rmv 12 rfl (by kernel_rfl) rfl (Rq 13 rfl (by kernel_rfl) (by first | exact pu_nil rfl | exact pu_nilF rfl) ?_)
  refine Rq 14 rfl (by kernel_rfl) (pu_fa fa_243_0 rfl) (Rr 15 rfl (by kernel_rfl) (rd_ld na_83 rfl (Rdc.cl1 (by repeat constructor) rfl)) ?_)
  refine Rmv 16 rfl (by kernel_rfl) rfl (Rq 17 rfl (by kernel_rfl) (by first | exact pu_mulI rfl rfl rfl (by omega) (by omega) | exact pu_mul rfl rfl) ?_)
  refine Rq 18 rfl (by kernel_rfl) (pu_addI (z := ((2 + 2 * i : Nat) : Int)) rfl rfl (by omega) (by omega) (by omega)) ?_
  refine Rq 19 rfl (by kernel_rfl) (pu_ia se_83 rfl rfl (by omega) (by omega)) (Rr 20 rfl (by kernel_rfl) (rd_ld na_5 rfl (Rdc.el0 (hS.h (by repeat constructor)) (hat (2 + 2 * i) (by omega)) rfl rfl)) ?_)
  refine Rq 21 rfl (by kernel_rfl) (pu_conv Tryz.underlying5 Tryz.underlying3 rfl) ?_
  rw [wrap_in (z := ((bs.getD (2 + 2 * i) 0).toNat : Int)) (by omega) (by omega)]
  refine Rq 22 rfl (by kernel_rfl) (pu_or rfl rfl) ?_
  rw [orK_small b1 b2, show ((((bs.getD (1 + 2 * i) 0).toNat * 256 + (bs.getD (2 + 2 * i) 0).toNat : Nat)) : Int) = numAt bs i from rfl]
  refine Rg.one (by kernel_rfl) (Stp.ac 23 rfl rfl (by kernel_rfl) trivial (ac_lit encC_3 ([numAt bs i]) et_30 ek_3 rfl (by repeat constructor) rfl rfl (by decide))  ?_)
  rintro _ _ ⟨a66, rfl, rfl⟩
  refine Rg.one (by kernel_rfl) (Stp.ac 24 rfl rfl (by kernel_rfl) trivial (ac_append (xs := l) (ys := [numAt bs i]) et_30 ek_3 rfl rfl (by repeat constructor) (SrcH.sl Tryz.underlying30 ek_3 (SlH.own (by repeat constructor))) (by first | omega | (simp; omega)) (by first | omega | (simp; omega)))  ?_)
  rintro _ _ ⟨a67, c67, rfl, rfl⟩
  refine Rq 25 rfl (by kernel_rfl) (pu_assign rfl) (Rg.end (by kernel_rfl) (Gs.blk_n (Gn (Gs.reg (Lq rfl (by first | exact pu_addI rfl rfl rfl (by omega) (by omega) | exact pu_add rfl rfl) ?_)))))
  refine Lmv rfl rfl (Lnt ?_)
  exact Ag (i + 1, a67, c67, l ++ [numAt bs i]) ⟨hlt, hst⟩ (by show n - (i + 1) < n - i; omega)
 have hge : i = n := by have := of_decide_eq_false hc1; omega
 have hfin : l = v := by rw [hl1, hge, hv]
 rw [hfin]
 refine Gs.exit (Gx (Gx (Gs.blk_hit (Gn (Gsr (Lmv rfl rfl (Lmv rfl rfl (Lq rfl (by first | exact pu_nil rfl | exact pu_nilF rfl) ?_))))))))
 refine Lq rfl (pu_fa fa_243_0 rfl) (Lr rfl (rd_ld na_83 rfl (Rdc.cl1 (by repeat constructor) rfl)) ?_)
 refine Lmv rfl rfl (Lq rfl (by first | exact pu_mulI rfl rfl rfl (by omega) (by omega) | exact pu_mul rfl rfl) ?_)
 refine Lq rfl (pu_addI (z := ((1 + 2 * n : Nat) : Int)) rfl rfl (by omega) (by omega) (by omega)) ?_
 refine Lq rfl (pu_sliceL et_83 rfl rfl (by omega) (by omega)) (Lq rfl (by first | exact pu_nil rfl | exact pu_nilF rfl) ?_)
 refine Lq rfl (pu_fa fa_243_0 rfl) (Lac0 rfl trivial (ac_st sz_83 rfl rfl (by repeat constructor) rfl rfl rfl rfl) ?_)
 rintro _ _ rfl
 refine Lnt (Gsr (Lmv rfl rfl (Las rfl rfl (Lnt (Gs.ret ?_)))))
 exact Gs.fin1 Tryz.results197 rfl _ (⟨ca, cc, suba (some ⟨xb, xo, none⟩) (1 + 2 * n) c 1, c - (1 + 2 * n), rfl, ⟨by rw [hr]; exact hS.cutL _ _ hc, by omega⟩, by rw [hrl]⟩) (by repeat constructor)
end Go.Proofs.YtflfhpokmidnmaaGreatDoor
