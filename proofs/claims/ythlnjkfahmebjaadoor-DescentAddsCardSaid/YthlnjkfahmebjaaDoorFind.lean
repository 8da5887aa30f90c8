/- Walks: descent.Find. -/
import Derived.Test.YthlnjkfahmebjaaDoorFp
import Derived.Test.YthlnjkfahmebjaaDoorSortD
import Derived.Test.YthlnjkfahmebjaaDoorOp2
namespace Go.Sl
open Go
theorem sl_tail {α : Type} {E sz : Nat} {enc : α → List Value} {a : Option Addr} {c : Nat} {x : α} {xs : List α} : ∀ h, sl E sz enc a c (x :: xs) h → sl E sz enc (suba a 1 c sz) (c - 1) xs h := fun h s => by
  rcases s with ⟨-, h0, -⟩ | ⟨b, off, cells, rfl, hp, hl, hr, hx⟩
  · cases h0
  · rw [List.length_cons] at hl
    have hm : c * sz = (c - 1) * sz + sz := by rw [← Nat.succ_mul]; congr 1; omega
    by_cases hc : c = 1
    · subst hc
      have : xs = [] := List.length_eq_zero_iff.1 (by omega)
      subst this
      exact .inr ⟨b, off, cells, by simp [suba], hp, by simp, by omega, fun i x hi => by simp at hi⟩
    · refine .inr ⟨b, off + sz, cells, by rw [suba_some hc, Nat.one_mul], hp, by omega, by omega, fun i y hi j v hv => ?_⟩
      have := hx (i + 1) y (by simpa using hi) j v hv
      rw [Nat.succ_mul] at this
      rw [show off + sz + (i * sz + j) = off + (i * sz + sz + j) by omega]; exact this
theorem pu_maxI {P : Program} {env : Env} {d : Option Tmp} {x y : Operand} {ty : TypeId} {pos : String} {af : Array Edge} {g : Option (Nat × Bool)} {k k' : IntKind} {i j z : Int} {ts : Array TypeId} (h : ev env x = some (.int k i)) (h' : ev env y = some (.int k' j)) (hz : max i j = z) : Pu P ⟨d, .call ⟨.builtin .max, #[x, y], ts⟩, ty, pos, af, g⟩ env (.int k z) := hz ▸ pu_max h h'
theorem pu_minI {P : Program} {env : Env} {d : Option Tmp} {x y : Operand} {ty : TypeId} {pos : String} {af : Array Edge} {g : Option (Nat × Bool)} {k k' : IntKind} {i j z : Int} {ts : Array TypeId} (h : ev env x = some (.int k i)) (h' : ev env y = some (.int k' j)) (hz : min i j = z) : Pu P ⟨d, .call ⟨.builtin .min, #[x, y], ts⟩, ty, pos, af, g⟩ env (.int k z) := hz ▸ pu_min h h'
end Go.Sl
namespace Go.Proofs.YthlnjkfahmebjaaDoor
open Go Go.Sl Go.Gv Go.Kv
set_option maxRecDepth 100000
theorem find_spec {S : HProp} {a b : Nat} {A B : List Rec} (hA : TrR S a A) (hB : TrR S b B) (n : Nat) (hn : n ≤ 8) :
    Ct Tryd.prog 12 [ptr a, ptr b, int n] [S] (fun v hs => ∃ a' c', v = .tuple #[.slice a' (sortK (findK A B n)).length c', int (askN A B n)] ∧ hs = [sl 38 2 keyC a' c' (sortK (findK A B n)), S]) := by
  refine Ct.intro Tryd.func12 rfl (by kernel_rfl) 70 Tryd.ntmps12 (Nat.le_of_ble_eq_true rfl) fun w0 R => ?_
  refine Gs.seq ?_
  refine Gs.reg ?_
  refine Go.Sl.L.pu rfl rfl trivial (pu_assign rfl) ?_
  refine Go.Sl.L.pu rfl rfl trivial (pu_assign rfl) ?_
  refine Go.Sl.L.nil ?_
  refine Gs.then_n ?_
  refine Gs.seq ?_
  refine Gs.seq ?_
  refine Gs.reg ?_
  refine Go.Sl.L.pu rfl rfl trivial (pu_move rfl) ?_
  refine Go.Sl.L.pu rfl rfl trivial (pu_eqN Tryd.underlying25 rfl rfl) ?_
  refine Go.Sl.L.puBf rfl rfl trivial (pu_move rfl) rfl ?_
  refine Go.Sl.L.pu rfl rfl ⟨_, rfl, rfl⟩ (pu_move rfl) ?_
  refine Go.Sl.L.pu rfl rfl ⟨_, rfl, rfl⟩ (pu_eqN Tryd.underlying25 rfl rfl) ?_
  refine Go.Sl.L.pu rfl rfl trivial (by first | exact pu_pick_t rfl rfl | exact pu_pick_f rfl rfl) ?_
  refine Go.Sl.L.nil ?_
  refine Gs.then_n ?_
  refine Gs.cond_f rfl ?_
  refine Gs.skip ?_
  refine Gs.then_n ?_
  refine Gs.seq ?_
  refine Gs.reg ?_
  refine Go.Sl.L.pu rfl rfl trivial (pu_assign rfl) ?_
  refine Go.Sl.L.nil ?_
  refine Gs.slNil 38 2 keyC ?_
  refine Gs.then_n ?_
  refine Gs.seq ?_
  refine Gs.reg ?_
  refine Go.Sl.L.pu rfl rfl trivial (pu_assign rfl) ?_
  refine Go.Sl.L.nil ?_
  refine Gs.slNil 49 3 partC ?_
  refine Gs.then_n ?_
  refine Gs.seq ?_
  refine Gs.reg ?_
  refine Go.Sl.L.pu rfl rfl trivial (pu_assign rfl) ?_
  refine Go.Sl.L.nil ?_
  refine Gs.then_n ?_
  refine Gs.seq ?_
  refine Gs.seq ?_
  refine Gs.reg ?_
  refine Go.Sl.L.pu rfl rfl trivial (pu_move rfl) ?_
  refine Go.Sl.L.pu rfl rfl trivial (pu_maxI (z := (n : Int)) rfl rfl (by omega)) ?_
  refine Go.Sl.L.pu rfl rfl trivial (pu_minI (z := (n : Int)) rfl rfl (by omega)) ?_
  refine Go.Sl.L.pu rfl rfl trivial (pu_move rfl) ?_
  refine Go.Sl.L.nil ?_
  refine Gs.then_n ?_
  refine Gs.block ?_
  refine Gs.loop1 (fun s : Nat × Option Addr × Nat => s.1 ≤ n) (fun s => [(0, ptr a), (1, ptr b), (8, .slice none 0 0), (9, .slice s.2.1 (topP A B s.1).length s.2.2), (10, int s.1), (22, int n), (23, int s.1)]) (fun s => [sl 49 3 partC s.2.1 s.2.2 (topP A B s.1), sl 38 2 keyC none 0 ([] : List Key), S] ++ R) (fun s => n - s.1) (0, none, 0) (Nat.zero_le _) (by repeat constructor) (by repeat constructor) (fun s hs => ?_)
  obtain ⟨j, wa, wc⟩ := s
  dsimp only at hs ⊢
  have hwl := topP_length A B j
  refine Gs.seq ?_
  refine Gs.reg ?_
  refine Go.Sl.L.pu rfl rfl trivial (pu_lt rfl rfl) ?_
  refine Go.Sl.L.nil ?_
  refine Gs.then_n ?_
  refine Gs.seq ?_
  refine Gs.cond rfl (fun hc1 => ?_) (fun hc1 => ?_)
  · skip
    have hlt : j < n := by have := of_decide_eq_true hc1; omega
    refine Gs.skip ?_
    refine Gs.then_n ?_
    refine Gs.seq ?_
    refine Gs.block ?_
    refine Gs.seq ?_
    refine Gs.reg ?_
    refine Go.Sl.L.pu rfl rfl trivial (pu_move rfl) ?_
    refine Go.Sl.L.pu rfl rfl trivial (pu_assign rfl) ?_
    refine Go.Sl.L.nil ?_
    refine Gs.then_n ?_
    refine Gs.seq ?_
    refine Gs.reg ?_
    refine Go.Sl.L.pu rfl rfl trivial (pu_move rfl) ?_
    refine Go.Sl.L.pu rfl rfl trivial (by first | exact pu_addI rfl rfl rfl (by omega) (by omega) | exact pu_add rfl rfl) ?_
    refine Go.Sl.L.pu rfl rfl trivial (pu_assign rfl) ?_
    refine Go.Sl.L.nil ?_
    refine Gs.then_n ?_
    refine Gs.seq ?_
    refine Gs.reg ?_
    refine Go.Sl.L.pu rfl rfl trivial (pu_move rfl) ?_
    refine Go.Sl.L.pu rfl rfl trivial (pu_build bd_49 (by repeat constructor) rfl) ?_
    refine Go.Sl.L.ac rfl rfl trivial (ac_alloc zv_49 rfl) ?_
    rintro _ _ ⟨rb, rfl, rfl⟩
    refine Go.Sl.L.ac0 rfl trivial (ac_st sz_49 rfl rfl (by repeat constructor) rfl rfl rfl rfl) ?_
    rintro _ _ rfl
    refine Go.Sl.L.nil ?_
    refine Gs.then_n ?_
    refine Gs.seq ?_
    refine Gs.reg ?_
    refine Go.Sl.L.pu rfl rfl trivial (pu_move rfl) ?_
    refine Go.Sl.L.pu rfl rfl trivial (pu_move rfl) ?_
    refine Go.Sl.L.rd rfl rfl trivial (rd_lda ag_49 rfl (Rdc.cl 3 (by repeat constructor) rfl) rfl) ?_
    refine Go.Sl.L.ac rfl rfl trivial (as_call (unlike_spec hA hB ⟨j, 0, 0⟩) (by repeat constructor) (by repeat constructor)) ?_
    rintro _ _ ⟨_, ⟨rfl, rfl⟩, rfl⟩
    refine Go.Sl.L.nil ?_
    refine Gs.then_n ?_
    refine Gs.cond rfl (fun hc2 => ?_) (fun hc2 => ?_)
    · skip
      have hup : topP A B (j + 1) = topP A B j ++ [⟨j, 0, 0⟩] := by rw [topP_succ, if_pos hc2]
      refine Gs.reg ?_
      refine Go.Sl.L.pu rfl rfl trivial (pu_move rfl) ?_
      refine Go.Sl.L.rd rfl rfl trivial (rd_lda ag_49 rfl (Rdc.cl 3 (by repeat constructor) rfl) rfl) ?_
      refine Go.Sl.L.ac rfl rfl trivial (ac_lit encC_49 ([⟨j, 0, 0⟩]) et_50 ek_49 rfl (by repeat constructor) rfl rfl (by decide)) ?_
      rintro _ _ ⟨a36, rfl, rfl⟩
      refine Go.Sl.L.ac rfl rfl trivial (ac_append et_50 ek_49 rfl rfl (by repeat constructor) (SrcH.sl Tryd.underlying50 ek_49 (SlH.own (by repeat constructor))) (by first | omega | (simp; omega)) (by first | omega | (simp; omega))) ?_
      rintro _ _ ⟨a37, c37, rfl, rfl⟩
      refine Go.Sl.L.pu rfl rfl trivial (pu_assign rfl) ?_
      refine Go.Sl.L.nil ?_
      rw [← hup]
      refine Gs.blk_n ?_
      refine Gs.then_n ?_
      refine Gs.reg ?_
      refine Go.Sl.L.pu rfl rfl trivial (by first | exact pu_addI rfl rfl rfl (by omega) (by omega) | exact pu_add rfl rfl) ?_
      refine Go.Sl.L.pu rfl rfl trivial (pu_move rfl) ?_
      refine Go.Sl.L.nil ?_
      refine Gs.then_n ?_
      first | exact Gs.again1 (j + 1, a37, c37) (by show j + 1 ≤ n; omega) (by show n - (j + 1) < n - j; omega) (by repeat constructor) (by repeat constructor) | (rw [← hup]; exact Gs.again1 (j + 1, wa, wc) (by show j + 1 ≤ n; omega) (by show n - (j + 1) < n - j; omega) (by repeat constructor) (by repeat constructor))
    · skip
      have hup : topP A B (j + 1) = topP A B j := by rw [topP_succ, if_neg (by rw [hc2]; simp), List.append_nil]
      refine Gs.skip ?_
      refine Gs.blk_n ?_
      refine Gs.then_n ?_
      refine Gs.reg ?_
      refine Go.Sl.L.pu rfl rfl trivial (by first | exact pu_addI rfl rfl rfl (by omega) (by omega) | exact pu_add rfl rfl) ?_
      refine Go.Sl.L.pu rfl rfl trivial (pu_move rfl) ?_
      refine Go.Sl.L.nil ?_
      refine Gs.then_n ?_
      first | exact Gs.again1 (j + 1, a37, c37) (by show j + 1 ≤ n; omega) (by show n - (j + 1) < n - j; omega) (by repeat constructor) (by repeat constructor) | (rw [← hup]; exact Gs.again1 (j + 1, wa, wc) (by show j + 1 ≤ n; omega) (by show n - (j + 1) < n - j; omega) (by repeat constructor) (by repeat constructor))
  · skip
    have hge : j = n := by have := of_decide_eq_false hc1; omega
    subst hge
    refine Gs.exit ?_
    refine Gs.then_x ?_
    refine Gs.then_x ?_
    refine Gs.blk_hit ?_
    refine Gs.then_n ?_
    refine Gs.seq ?_
    refine Gs.block ?_
    refine Gs.loop1 (fun s : List Part × (Option Addr × Nat) × List Key × (Option Addr × Nat) × Nat => (∀ p ∈ s.1, Wok A B p) ∧ wts s.1 ≤ 10920 ∧ (s.2.2.1 ++ keysW A B s.1).Perm (findK A B j) ∧ s.2.2.2.2 + askW A B s.1 = askN A B j) (fun s => [(0, ptr a), (1, ptr b), (8, .slice s.2.2.2.1.1 s.2.2.1.length s.2.2.2.1.2), (9, .slice s.2.1.1 s.1.length s.2.1.2), (10, int s.2.2.2.2)]) (fun s => [sl 38 2 keyC s.2.2.2.1.1 s.2.2.2.1.2 s.2.2.1, sl 49 3 partC s.2.1.1 s.2.1.2 s.1, S] ++ R) (fun s => wts s.1) (topP A B j, (wa, wc), [], (none, 0), j) (⟨fun p hp => (top_ok hp).1, by have := wts_top A B j; show wts (topP A B j) ≤ 10920; omega, by rw [← keysW_top]; exact List.Perm.refl _, askW_top A B j⟩) (by repeat constructor) (by repeat constructor) (fun s hs => ?_)
    obtain ⟨W, ⟨wa, wc⟩, K, ⟨ka, kc⟩, m⟩ := s
    obtain ⟨hW, hw, hK, hm⟩ := hs
    dsimp only at hW hw hK hm ⊢
    have hKl : K.length ≤ 8192 := by have h1 := hK.length_eq; rw [List.length_append] at h1; have := findK_le A B j; omega
    have hml : m ≤ 10920 := by have := askN_le A B j; omega
    have hWl := length_wts W
    refine Gs.seq ?_
    refine Gs.seq ?_
    refine Gs.reg ?_
    refine Go.Sl.L.pu rfl rfl trivial (pu_move rfl) ?_
    refine Go.Sl.L.pu rfl rfl trivial (pu_len Tryd.underlying50 rfl) ?_
    refine Go.Sl.L.pu rfl rfl trivial (pu_gt rfl rfl) ?_
    refine Go.Sl.L.nil ?_
    refine Gs.then_n ?_
    refine Gs.cond rfl (fun hc3 => ?_) (fun hc3 => ?_)
    · skip
      obtain ⟨p, V, rfl⟩ : ∃ p V, W = p :: V := by cases W with
        | nil => exact absurd (of_decide_eq_true hc3) (by simp)
        | cons p V => exact ⟨p, V, rfl⟩
      refine Gs.slAddr (xs := p :: V) (SlH.own (E := 49) (enc := partC) (by repeat constructor)) fun ab ao ha => Gs.slLen (xs := p :: V) (by repeat constructor) fun hlc => ?_
      obtain rfl := ha (by simp)
      have hp := hW p (by simp)
      have hV : ∀ q ∈ V, Wok A B q := fun q hq => hW q (by simp [hq])
      have hw2 := wts_cons p V
      have hwp := wt_pos (lv p)
      rw [List.length_cons] at hlc hWl
      have e1 : keysW A B (p :: V) = keysP A B (lv p) p ++ keysW A B V := rfl
      have e2 : askW A B (p :: V) = askP A B (lv p) p + askW A B V := by simp [askW]
      rw [e1] at hK
      rw [e2] at hm
      refine Gs.skip ?_
      refine Gs.then_n ?_
      refine Gs.block ?_
      refine Gs.seq ?_
      refine Gs.reg ?_
      refine Go.Sl.L.pu rfl rfl trivial (pu_move rfl) ?_
      refine Go.Sl.L.pu rfl rfl trivial (pu_ia se_50 rfl rfl (by omega) (by rw [List.length_cons]; omega)) ?_
      refine Go.Sl.L.rd rfl rfl trivial (rd_lda ag_49 rfl (Rdc.el0 (i := 0) (x := p) (xs := p :: V) (enc := partC) (sz := 3) (SlH.own (E := 49) (c := wc) (by repeat constructor)) rfl rfl rfl) rfl) ?_
      refine Go.Sl.L.ac rfl rfl trivial (ac_alloc zv_49 rfl) ?_
      rintro _ _ ⟨rb, rfl, rfl⟩
      refine Go.Sl.L.ac0 rfl trivial (ac_st sz_49 rfl rfl (by repeat constructor) rfl rfl rfl rfl) ?_
      rintro _ _ rfl
      refine Go.Sl.L.nil ?_
      refine Gs.then_n ?_
      refine Gs.seq ?_
      refine Gs.reg ?_
      refine Go.Sl.L.pu rfl rfl trivial (pu_move rfl) ?_
      refine Go.Sl.L.pu rfl rfl trivial (pu_sliceL et_50 rfl rfl (by omega) (by rw [List.length_cons]; omega)) ?_
      refine Go.Sl.L.pu rfl rfl trivial (pu_assign rfl) ?_
      refine Go.Sl.L.nil ?_
      refine Gs.take (A := sl 49 3 partC (some ⟨ab, ao, none⟩) wc (p :: V)) (by repeat constructor) (Gs.ent sl_tail ?_)
      refine Gs.then_n ?_
      refine Gs.seq ?_
      refine Gs.seq ?_
      refine Gs.reg ?_
      refine Go.Sl.L.pu rfl rfl trivial (pu_fa fa_49_1 rfl) ?_
      refine Go.Sl.L.rd rfl rfl trivial (rd_ld na_3 rfl (Rdc.cl1 (by repeat constructor) rfl)) ?_
      refine Go.Sl.L.pu rfl rfl trivial (pu_eq rfl rfl) ?_
      refine Go.Sl.L.nil ?_
      refine Gs.then_n ?_
      refine Gs.cond rfl (fun hc4 => ?_) (fun hc4 => ?_)
      · skip
        have h5 : p.l = 5 := of_decide_eq_true hc4
        have hl0 : lv p = 0 := by show (5 - p.l).toNat = 0; omega
        rw [hl0] at hK hm
        have k1 : ((K ++ [(⟨p.o, p.i⟩ : Key)]) ++ keysW A B V).Perm (findK A B j) := by rw [List.append_assoc]; exact hK
        have k2 : m + askW A B V = askN A B j := by rw [← hm]; simp [askP]
        refine Gs.seq ?_
        refine Gs.reg ?_
        refine Go.Sl.L.pu rfl rfl trivial (pu_move rfl) ?_
        refine Go.Sl.L.pu rfl rfl trivial (pu_fa fa_49_0 rfl) ?_
        refine Go.Sl.L.rd rfl rfl trivial (rd_ld na_3 rfl (Rdc.cl1 (by repeat constructor) rfl)) ?_
        refine Go.Sl.L.pu rfl rfl trivial (pu_fa fa_49_2 rfl) ?_
        refine Go.Sl.L.rd rfl rfl trivial (rd_ld na_3 rfl (Rdc.cl1 (by repeat constructor) rfl)) ?_
        refine Go.Sl.L.pu rfl rfl trivial (pu_build bd_38 (by repeat constructor) rfl) ?_
        refine Go.Sl.L.ac rfl rfl trivial (ac_lit encC_38 ([(⟨p.o, p.i⟩ : Key)]) et_30 ek_38 rfl (by repeat constructor) rfl rfl (by decide)) ?_
        rintro _ _ ⟨a56, rfl, rfl⟩
        refine Go.Sl.L.ac rfl rfl trivial (ac_append et_30 ek_38 rfl rfl (by repeat constructor) (SrcH.sl Tryd.underlying30 ek_38 (SlH.own (by repeat constructor))) (by first | omega | (simp; omega)) (by first | omega | (simp; omega))) ?_
        rintro _ _ ⟨a57, c57, rfl, rfl⟩
        refine Go.Sl.L.pu rfl rfl trivial (pu_assign rfl) ?_
        refine Go.Sl.L.nil ?_
        refine Gs.then_n ?_
        refine Gs.exit ?_
        refine Gs.then_x ?_
        refine Gs.blk_hit ?_
        refine Gs.then_n ?_
        first | (have hX := hl0; exact Gs.again1 (V, (suba (some ⟨ab, ao, none⟩) 1 wc 3, wc - 1), K ++ [⟨p.o, p.i⟩], (a57, c57), m) ⟨hV, by show wts V ≤ 10920; omega, k1, k2⟩ (by show wts V < wts (p :: V); omega) (by repeat constructor) (by repeat constructor)) | (have hX := k3; exact Gs.again1 (V ++ stepP A B p, (a65, c65), K, (ka, kc), m + 4) ⟨k3, by show wts (V ++ stepP A B p) ≤ 10920; omega, k1, k2⟩ (by show wts (V ++ stepP A B p) < wts (p :: V); omega) (by repeat constructor) (by repeat constructor))
      · skip
        have h5 : p.l < 5 := by have := of_decide_eq_false hc4; have := hp.2.1; omega
        have k0 := wts_step hp h5 V
        have k3 : ∀ q ∈ V ++ stepP A B p, Wok A B q := fun q hq => by rcases List.mem_append.1 hq with hq | hq; exact hV q hq; exact (stepP_ok hp hq).1
        have k1 : (K ++ keysW A B (V ++ stepP A B p)).Perm (findK A B j) := by rw [keysW_app, keysW_step hp h5]; exact (List.Perm.append_left _ List.perm_append_comm).trans hK
        have k2 : m + 4 + askW A B (V ++ stepP A B p) = askN A B j := by rw [askW_app, ← hm, ← askW_step hp h5]; omega
        have hsl := stepP_length A B p
        refine Gs.skip ?_
        refine Gs.then_n ?_
        refine Gs.seq ?_
        refine Gs.reg ?_
        refine Go.Sl.L.pu rfl rfl trivial (pu_move rfl) ?_
        refine Go.Sl.L.pu rfl rfl trivial (pu_addI (z := ((m + 4 : Nat) : Int)) rfl rfl (by omega) (by omega) (by omega)) ?_
        refine Go.Sl.L.pu rfl rfl trivial (pu_assign rfl) ?_
        refine Go.Sl.L.nil ?_
        refine Gs.then_n ?_
        refine Gs.reg ?_
        refine Go.Sl.L.pu rfl rfl trivial (pu_move rfl) ?_
        refine Go.Sl.L.pu rfl rfl trivial (pu_move rfl) ?_
        refine Go.Sl.L.pu rfl rfl trivial (pu_move rfl) ?_
        refine Go.Sl.L.rd rfl rfl trivial (rd_lda ag_49 rfl (Rdc.cl 3 (by repeat constructor) rfl) rfl) ?_
        refine Go.Sl.L.ac rfl rfl trivial (as_call (step_spec hA hB p) (by repeat constructor) (by repeat constructor)) ?_
        rintro _ _ ⟨_, ⟨sa, sc, rfl, rfl⟩, rfl⟩
        refine Go.Sl.L.ac rfl rfl trivial (ac_append (xs := V) (ys := stepP A B p) et_50 ek_49 rfl rfl (by repeat constructor) (SrcH.sl Tryd.underlying50 ek_49 (SlH.own (by repeat constructor))) (by first | omega | (simp; omega)) (by first | omega | (simp; omega))) ?_
        rintro _ _ ⟨a65, c65, rfl, rfl⟩
        refine Go.Sl.L.pu rfl rfl trivial (pu_assign rfl) ?_
        refine Go.Sl.L.nil ?_
        refine Gs.blk_n ?_
        refine Gs.then_n ?_
        first | (have hX := hl0; exact Gs.again1 (V, (suba (some ⟨ab, ao, none⟩) 1 wc 3, wc - 1), K ++ [⟨p.o, p.i⟩], (a57, c57), m) ⟨hV, by show wts V ≤ 10920; omega, k1, k2⟩ (by show wts V < wts (p :: V); omega) (by repeat constructor) (by repeat constructor)) | (have hX := k3; exact Gs.again1 (V ++ stepP A B p, (a65, c65), K, (ka, kc), m + 4) ⟨k3, by show wts (V ++ stepP A B p) ≤ 10920; omega, k1, k2⟩ (by show wts (V ++ stepP A B p) < wts (p :: V); omega) (by repeat constructor) (by repeat constructor))
    · skip
      have hW0 : W = [] := List.length_eq_zero_iff.1 (by have := of_decide_eq_false hc3; omega)
      subst hW0
      rw [show keysW A B [] = [] from rfl, List.append_nil] at hK
      have hnd : K.Nodup := hK.nodup_iff.2 (findK_nodup A B j)
      have hsk : sortK K = sortK (findK A B j) := asc_uniq (sortK_asc hnd) (sortK_asc (findK_nodup A B j)) (((sortK_perm K).trans hK).trans (sortK_perm _).symm)
      have hm2 : m = askN A B j := by rw [← hm]; rfl
      refine Gs.exit ?_
      refine Gs.then_x ?_
      refine Gs.then_x ?_
      refine Gs.blk_hit ?_
      refine Gs.then_n ?_
      refine Gs.seq ?_
      refine Gs.reg ?_
      refine Go.Sl.L.pu rfl rfl trivial (pu_move rfl) ?_
      refine Go.Sl.L.ac rfl rfl trivial (as_call (sort_spec ka kc K hnd (by omega)) (by repeat constructor) (by repeat constructor)) ?_
      rintro _ _ ⟨_, ⟨rfl, rfl⟩, rfl⟩
      refine Go.Sl.L.nil ?_
      refine Gs.then_n ?_
      refine Gs.seq ?_
      refine Gs.reg ?_
      refine Go.Sl.L.pu rfl rfl trivial (pu_move rfl) ?_
      refine Go.Sl.L.pu rfl rfl trivial (pu_move rfl) ?_
      refine Go.Sl.L.pu rfl rfl trivial (pu_assign rfl) ?_
      refine Go.Sl.L.pu rfl rfl trivial (pu_assign rfl) ?_
      refine Go.Sl.L.nil ?_
      refine Gs.then_n ?_
      refine Gs.ret ?_
      exact Gs.fin2 Tryd.results12 rfl rfl _ (⟨_, _, by rw [← hsk, ← hm2, sortK_length], by rw [← hsk]⟩) (by repeat constructor)
end Go.Proofs.YthlnjkfahmebjaaDoor
