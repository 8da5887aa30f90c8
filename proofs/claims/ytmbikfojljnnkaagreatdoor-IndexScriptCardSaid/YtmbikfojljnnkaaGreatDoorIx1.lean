/- Walk: IndexWords (grapevinelaw11). -/
import Derived.Test.YtmbikfojljnnkaaGreatDoorIxW
import Derived.Test.YtmbikfojljnnkaaGreatDoorIxQ
namespace Go.Sl
open Go
section
variable {P : Program} {env : Env} {d : Option Tmp} {x y : Operand} {T T' ty : TypeId} {pos : String} {af : Array Edge} {g : Option (Nat × Bool)}
def leqB (s t : ByteArray) : Bool := Op.bytesLess s.toList t.toList || s.toList == t.toList
theorem pu_leS {s t : ByteArray} (h : ev env x = some (.string s)) (h' : ev env y = some (.string t)) : Pu P ⟨d, .binOp .leq T x y T', ty, pos, af, g⟩ env (.bool (leqB s t)) :=
  fun ρ w e => by simp [execOp, e.eval h, e.eval h', eqGuard, binOp, Op.stringOp, go_sem, leqB]
end
theorem bytesLess_lt : ∀ a b : List UInt8, Op.bytesLess a b = decide (a < b)
  | [], [] => rfl
  | _ :: _, [] => rfl
  | [], _ :: _ => rfl
  | a :: x, b :: y => by
    unfold Op.bytesLess
    rw [bytesLess_lt x y]
    by_cases h1 : a < b
    · rw [decide_eq_true h1, Bool.true_or]; exact (decide_eq_true (List.cons_lt_cons_iff.2 (.inl h1))).symm
    · rw [decide_eq_false h1, Bool.false_or]
      by_cases h2 : a = b
      · subst h2
        simp [List.cons_lt_cons_iff, h1]
      · simp [List.cons_lt_cons_iff, h1, h2]
theorem leqB_no {s t : ByteArray} (h : t.data.toList < s.data.toList) : leqB s t = false := by
  unfold leqB
  rw [Lib.toList_data, Lib.toList_data, bytesLess_lt]
  rw [decide_eq_false (fun e => List.lt_irrefl _ (List.lt_trans e h)), Bool.false_or]
  exact beq_eq_false_iff_ne.2 fun e => by rw [e] at h; exact List.lt_irrefl _ h
end Go.Sl
namespace Go.Bst
theorem sortB_lt {l : List ByteArray} (hn : l.Nodup) : (sortB l).Pairwise fun a b => a.data.toList < b.data.toList := by
  have h1 : (sortB l).Pairwise fun a b => a.data.toList ≤ b.data.toList := by
    unfold sortB
    rw [List.pairwise_map]
    have := List.pairwise_mergeSort (le := fun x y : List UInt8 => decide (x ≤ y)) (fun a b c h1 h2 => by simp only [decide_eq_true_eq] at *; exact List.le_trans h1 h2) (fun a b => by rcases List.le_total a b with h | h <;> simp [h]) (l.map fun s => s.data.toList)
    exact this.imp fun {a b} h => by simpa using h
  have h2 : (sortB l).Nodup := (sortB_perm l).nodup_iff.2 hn
  refine (h1.and h2).imp fun {a b} h => ?_
  have hne : a.data.toList ≠ b.data.toList := fun e => h.2 (by cases a; cases b; simp at e ⊢; exact Array.toList_inj.1 (by simpa using e))
  exact Classical.byContradiction fun hc => hne (List.le_antisymm h.1 (List.not_lt.1 hc))
end Go.Bst
namespace Go.Proofs.YtmbikfojljnnkaaGreatDoor
open Go Go.Sl Go.Gv Go.Kv Go.Po Go.Ix Go.Bst
set_option maxRecDepth 100000
theorem foldR_len : ∀ (l rs : List Rec), (l.foldl putR rs).length ≤ rs.length + l.length
  | [], _ => Nat.le_refl _
  | r :: l, rs => by
    have h1 := foldR_len l (putR rs r)
    have h2 := putR_len rs r
    rw [List.foldl_cons, List.length_cons]; omega
theorem ats_len (r : Rec) {w : ByteArray} {l : List Int} (h : mget (tok r) w = some l) : l.length ≤ 121 := by
  rw [posL_get] at h
  split at h
  · cases h
  · cases h
    unfold atsOf
    rw [List.length_map]
    refine Nat.le_trans (List.length_filter_le ..) ?_
    rw [toksV, toks_length]; exact words_len _
theorem IxIs.pos {rs : List Rec} {s : PL × PW} (h : IxIs rs s) (w : ByteArray) : ∀ p ∈ (mget s.1 w).getD [], p.2.length ≤ 1000 := fun p hp => by
  obtain ⟨r, -, -, h5⟩ := ((h.getD w).2 p).1 hp
  exact Nat.le_trans (ats_len r h5) (by decide)
/-- A word of an index's words, and its list. -/
theorem IxIs.at {rs : List Rec} {L : List (ByteArray × SlV PostV)} {W : List (Key × SlV ByteArray)} (h : IxIs rs (plL L, plW W)) {i : Nat} {w : ByteArray} (hw : (sortB (mkeys L))[i]? = some w) {qs : List PostV} (hq : plain1 qs = plain1 (lisT L w).xs) :
    qs.length ≠ 0 ∧ mayB (plain1 qs) = true ∧ (∀ q ∈ qs, q.t.xs.length ≤ 1000) ∧ qs.length ≤ rs.length := by
  have hwm : w ∈ mkeys (plL L) := by rw [mkeys_plL]; exact sortB_mem.1 (List.mem_of_getElem? hw)
  rw [← plL_get] at hq
  have hp := h.pos w
  cases hm : mget (plL L) w with
  | none => exact (mget_none.1 hm hwm).elim
  | some l =>
    obtain ⟨h1, h2, -⟩ := h.mem w l hm
    have h4 := h.lists (w := w) hm
    have hp' : ∀ p ∈ (mget (plL L) w).getD [], p.2.length ≤ 1000 := hp
    rw [hm] at hq hp'
    have hq' : plain1 qs = l := hq
    have hlen : qs.length = l.length := by rw [← hq']; simp
    refine ⟨fun e => h1 (List.length_eq_zero_iff.1 (by omega)), by rw [hq']; exact h2, plain_len1 hq' hp', by omega⟩
theorem putNil_spec (r : Rec) : Ct Tryz.prog 14 [.pointer none, recV r] [] (fun v hs => v = int 1 ∧ hs = []) := by
  refine Ct.intro Tryz.func14 rfl (by kernel_rfl) 81 Tryz.ntmps14 (Nat.le_of_ble_eq_true rfl) fun w0 R => ?_
  refine Gs.seq ?_
  refine Gs.reg ?_
  refine Go.Sl.L.ac rfl rfl trivial (ac_box rfl rfl) ?_
  rintro _ _ ⟨rb, rfl, rfl⟩
  refine Go.Sl.L.pu rfl rfl trivial (pu_assign rfl) ?_
  refine Go.Sl.L.nil ?_
  refine Gs.then_n ?_
  refine Gs.seq ?_
  refine Gs.seq ?_
  refine Gs.reg ?_
  refine Go.Sl.L.pu rfl rfl trivial (pu_move rfl) ?_
  refine Go.Sl.L.pu rfl rfl trivial (pu_eqN Tryz.underlying25 rfl rfl) ?_
  refine Go.Sl.L.nil ?_
  refine Gs.then_n ?_
  refine Gs.cond_tt rfl rfl ?_
  refine Gs.seq ?_
  refine Gs.reg ?_
  refine Go.Sl.L.pu rfl rfl trivial (pu_assign rfl) ?_
  refine Go.Sl.L.nil ?_
  refine Gs.then_n ?_
  refine Gs.ret ?_
  refine Gs.then_r ?_
  exact Gs.fin1 Tryz.results14 rfl _ (⟨rfl, rfl⟩) (by repeat constructor)
theorem words_spec11 {h0 : Hp} (T : TabX h0) {a : Option Addr} {c : Nat} {xs : List Rec} (hx : slR h0 5 recC a xs) (hxl : xs.length ≤ 9223372036854775807) :
    Ct Tryz.prog 5 [.slice a xs.length c] [ro h0] (fun v hs => v = .bool true ∧ hs = [ro h0]) := by
  refine Ct.intro Tryz.func5 rfl (by kernel_rfl) 107 Tryz.ntmps5 (Nat.le_of_ble_eq_true rfl) fun w0 R => ?_
  refine Gs.slAddr ((Srd.ro hx).h (by repeat constructor)) fun ab ao ha => ?_
  refine Gs.seq ?_
  refine Gs.reg ?_
  refine Go.Sl.L.pu rfl rfl trivial (pu_assign rfl) ?_
  refine Go.Sl.L.nil ?_
  refine Gs.then_n ?_
  refine Gs.seq ?_
  refine Gs.seq ?_
  refine Gs.reg ?_
  refine Go.Sl.L.pu rfl rfl trivial (pu_move rfl) ?_
  refine Go.Sl.L.ac rfl rfl trivial (as_call (greatRecords_spec (Srd.ro hx) hxl 30) (by repeat constructor) (by repeat constructor)) ?_
  rintro _ _ ⟨_, ⟨⟨g, rfl, hg⟩, rfl⟩, rfl⟩
  refine Go.Sl.L.nil ?_
  refine Gs.then_n ?_
  refine Gs.cond rfl (fun hc0 => ?_) (fun hc0 => ?_)
  · skip
    refine Gs.seq ?_
    refine Gs.reg ?_
    refine Go.Sl.L.ac rfl rfl trivial (as_call (awake_spec T) (by repeat constructor) (by repeat constructor)) ?_
    rintro _ _ ⟨_, ⟨rfl, rfl⟩, rfl⟩
    refine Go.Sl.L.pu rfl rfl trivial (pu_assign rfl) ?_
    refine Go.Sl.L.nil ?_
    refine Gs.then_n ?_
    refine Gs.ret ?_
    refine Gs.then_r ?_
    exact Gs.fin1 Tryz.results5 rfl _ (⟨rfl, rfl⟩) (by repeat constructor)
  · skip
    have hxs : xs.length ≤ 30 := by have := hg hc0; omega
    refine Gs.skip ?_
    refine Gs.then_n ?_
    refine Gs.seq ?_
    refine Gs.reg ?_
    refine Go.Sl.L.ac rfl rfl trivial (as_call (new_spec) (by repeat constructor) (by repeat constructor)) ?_
    rintro _ _ ⟨_, ⟨x, rfl, rfl⟩, rfl⟩
    refine Go.Sl.L.pu rfl rfl trivial (pu_assign rfl) ?_
    refine Go.Sl.L.nil ?_
    refine Gs.then_n ?_
    refine Gs.seq ?_
    refine Gs.seq ?_
    refine Gs.reg ?_
    refine Go.Sl.L.pu rfl rfl trivial (pu_move rfl) ?_
    refine Go.Sl.L.pu rfl rfl trivial (pu_eqN Tryz.underlying25 rfl rfl) ?_
    refine Go.Sl.L.nil ?_
    refine Gs.then_n ?_
    refine Gs.cond_ff rfl rfl ?_
    refine Gs.skip ?_
    refine Gs.then_n ?_
    refine Gs.seq ?_
    refine Gs.seq ?_
    refine Gs.reg ?_
    refine Go.Sl.L.pu rfl rfl trivial (pu_assign rfl) ?_
    refine Go.Sl.L.nil ?_
    refine Gs.then_n ?_
    refine Gs.block ?_
    refine Gs.loop1 (fun s : Nat × List (ByteArray × SlV PostV) × List (Key × SlV ByteArray) => s.1 ≤ xs.length ∧ IxIs ((xs.take s.1).foldl putR []) (plL s.2.1, plW s.2.2)) (fun s => [(0, .slice a xs.length c), (3, ptr x), (4, int s.1)]) (fun s => [ixA x s.2.1 s.2.2, ro h0] ++ R) (fun s => xs.length - s.1) (0, [], []) (⟨Nat.zero_le _, IxIs.nil⟩) (by repeat constructor) (by repeat constructor) (fun s hs => ?_)
    obtain ⟨i, L, W⟩ := s
    obtain ⟨hi, hL⟩ := hs
    dsimp only at hi hL ⊢
    have hrl := foldR_len (xs.take i) []
    rw [List.length_take, List.length_nil] at hrl
    have hsh := hL.short
    have hll := hL.llen
    have hwl := hL.rlen
    refine Gs.seq ?_
    refine Gs.seq ?_
    refine Gs.reg ?_
    refine Go.Sl.L.pu rfl rfl trivial (pu_move rfl) ?_
    refine Go.Sl.L.pu rfl rfl trivial (pu_move rfl) ?_
    refine Go.Sl.L.pu rfl rfl trivial (pu_len Tryz.underlying27 rfl) ?_
    refine Go.Sl.L.pu rfl rfl trivial (pu_lt rfl rfl) ?_
    refine Go.Sl.L.nil ?_
    refine Gs.then_n ?_
    refine Gs.cond rfl (fun hc2 => ?_) (fun hc2 => ?_)
    · skip
      have hlt : i < xs.length := by have := of_decide_eq_true hc2; omega
      obtain ⟨r, hr⟩ : ∃ z, xs[i]? = some z := ⟨xs[i], by simp [hlt]⟩
      obtain rfl := ha (by rintro rfl; simp at hlt)
      have hnx := fold_take putR [] hr
      refine Gs.skip ?_
      refine Gs.then_n ?_
      refine Gs.seq ?_
      refine Gs.block ?_
      refine Gs.reg ?_
      refine Go.Sl.L.pu rfl rfl trivial (pu_move rfl) ?_
      refine Go.Sl.L.pu rfl rfl trivial (pu_move rfl) ?_
      refine Go.Sl.L.pu rfl rfl trivial (pu_move rfl) ?_
      refine Go.Sl.L.pu rfl rfl trivial (pu_ia se_27 rfl rfl (by omega) (by omega)) ?_
      refine Go.Sl.L.rd rfl rfl trivial (rd_lda ag_35 rfl (Rdc.el0 ((Srd.ro hx).h (by repeat constructor)) hr rfl rfl) rfl) ?_
      refine Go.Sl.L.ac rfl rfl trivial (as_call (put_spec T x L W r (fun p hp => by have := hsh p hp; omega)) (by repeat constructor) (by repeat constructor)) ?_
      rintro _ _ ⟨_, ⟨L2, W2, rfl, hp, rfl⟩, rfl⟩
      refine Go.Sl.L.nil ?_
      have hL2 : IxIs ((xs.take (i + 1)).foldl putR []) (plL L2, plW W2) := hnx ▸ hL.putI hp
      refine Gs.blk_n ?_
      refine Gs.then_n ?_
      refine Gs.reg ?_
      refine Go.Sl.L.pu rfl rfl trivial (pu_move rfl) ?_
      refine Go.Sl.L.pu rfl rfl trivial (by first | exact pu_addI rfl rfl rfl (by omega) (by omega) | exact pu_add rfl rfl) ?_
      refine Go.Sl.L.pu rfl rfl trivial (pu_assign rfl) ?_
      refine Go.Sl.L.nil ?_
      refine Gs.then_n ?_
      exact Gs.again1 (i + 1, L2, W2) ⟨hlt, hL2⟩ (by show xs.length - (i + 1) < xs.length - i; omega) (by repeat constructor) (by repeat constructor)
    · skip
      have hge : i = xs.length := by have := of_decide_eq_false hc2; omega
      refine Gs.exit ?_
      refine Gs.then_x ?_
      refine Gs.then_x ?_
      refine Gs.blk_hit ?_
      refine Gs.then_n ?_
      refine Gs.seq ?_
      refine Gs.reg ?_
      refine Go.Sl.L.pu rfl rfl trivial (pu_move rfl) ?_
      refine Go.Sl.L.ac rfl rfl trivial (as_call (words_spec x L W (by omega)) (by repeat constructor) (by repeat constructor)) ?_
      rintro _ _ ⟨_, ⟨wa, wc, rfl, rfl⟩, rfl⟩
      refine Go.Sl.L.pu rfl rfl trivial (pu_assign rfl) ?_
      refine Go.Sl.L.nil ?_
      obtain ⟨ws, hws⟩ : ∃ ws, ws = sortB (mkeys L) := ⟨_, rfl⟩
      have hup : ws.Pairwise fun a b => a.data.toList < b.data.toList := by rw [hws]; exact sortB_lt (by rw [← mkeys_plL]; exact hL.ln)
      have hwsl : ws.length ≤ 100000 := by rw [hws, sortB_length, List.length_map]; omega
      rw [← hws]
      refine Gs.slAddr (xs := ws) (SlH.own (E := 9) (enc := strC) (a := wa) (c := wc) (by repeat constructor)) fun wb wo hwa => ?_
      refine Gs.then_n ?_
      refine Gs.seq ?_
      refine Gs.seq ?_
      refine Gs.reg ?_
      refine Go.Sl.L.pu rfl rfl trivial (pu_assign rfl) ?_
      refine Go.Sl.L.nil ?_
      refine Gs.then_n ?_
      refine Gs.block ?_
      refine Gs.loop1 (fun i : Nat => i ≤ ws.length) (fun i => [(0, .slice a xs.length c), (3, ptr x), (5, .slice wa ws.length wc), (6, int i)]) (fun i => [ixA x L W, sl 9 1 strC wa wc ws, ro h0] ++ R) (fun i => ws.length - i) 0 (Nat.zero_le _) (by repeat constructor) (by repeat constructor) (fun j hj => ?_)
      refine Gs.seq ?_
      refine Gs.seq ?_
      refine Gs.reg ?_
      refine Go.Sl.L.pu rfl rfl trivial (pu_move rfl) ?_
      refine Go.Sl.L.pu rfl rfl trivial (pu_move rfl) ?_
      refine Go.Sl.L.pu rfl rfl trivial (pu_len Tryz.underlying58 rfl) ?_
      refine Go.Sl.L.pu rfl rfl trivial (pu_lt rfl rfl) ?_
      refine Go.Sl.L.nil ?_
      refine Gs.then_n ?_
      refine Gs.cond rfl (fun hc3 => ?_) (fun hc3 => ?_)
      · skip
        have hlt3 : j < ws.length := by have := of_decide_eq_true hc3; omega
        obtain ⟨w, hw⟩ : ∃ z, ws[j]? = some z := ⟨ws[j], by simp [hlt3]⟩
        obtain rfl := hwa (by rintro h; rw [h] at hlt3; simp at hlt3)
        refine Gs.skip ?_
        refine Gs.then_n ?_
        refine Gs.seq ?_
        refine Gs.block ?_
        refine Gs.seq ?_
        refine Gs.reg ?_
        refine Go.Sl.L.pu rfl rfl trivial (pu_move rfl) ?_
        refine Go.Sl.L.pu rfl rfl trivial (pu_move rfl) ?_
        refine Go.Sl.L.pu rfl rfl trivial (pu_move rfl) ?_
        refine Go.Sl.L.pu rfl rfl trivial (pu_ia se_58 rfl rfl (by omega) (by omega)) ?_
        refine Go.Sl.L.rd rfl rfl trivial (rd_ld na_9 rfl (Rdc.el0 (SlH.own (xs := ws) (E := 9) (enc := strC) (sz := 1) (by repeat constructor)) hw rfl rfl)) ?_
        refine Go.Sl.L.ac rfl rfl trivial (as_call (word_spec x L W w) (by repeat constructor) (by repeat constructor)) ?_
        rintro _ _ ⟨_, ⟨qa, qc, qs, rfl, hq, rfl⟩, rfl⟩
        obtain ⟨hq1, hq2, hq3, hq4⟩ := hL.at (by rw [← hws]; exact hw) hq
        refine Go.Sl.L.pu rfl rfl trivial (pu_assign rfl) ?_
        refine Go.Sl.L.nil ?_
        refine Gs.then_n ?_
        refine Gs.seq ?_
        refine Gs.regD mixed (by kernel_rfl) ?_
        refine Rg.pu 0 rfl rfl (by kernel_rfl) trivial (pu_move rfl) ?_
        refine Rg.pu 1 rfl rfl (by kernel_rfl) trivial (pu_len Tryz.underlying42 rfl) ?_
        refine Rg.pu 2 rfl rfl (by kernel_rfl) trivial (pu_eq rfl rfl) ?_
        refine Rg.puBf 3 rfl rfl (by kernel_rfl) trivial (pu_move rfl) (decide_eq_false (fun e => hq1 (by omega))) ?_
        refine Rg.pu 4 rfl rfl (by kernel_rfl) ⟨_, rfl, rfl⟩ (pu_move rfl) ?_
        refine Rg.one (by kernel_rfl) (Stp.ac 5 rfl rfl (by kernel_rfl) ⟨_, rfl, rfl⟩ (as_call (may10_spec (prd_plO hq3) (by omega)) (by repeat constructor) (by repeat constructor))  ?_)
        rintro _ _ ⟨_, ⟨rfl, rfl⟩, rfl⟩
        rw [hq2]
        refine Rg.pu 6 rfl rfl (by kernel_rfl) ⟨_, rfl, rfl⟩ (pu_not rfl) ?_
        refine Rg.pu 7 rfl rfl (by kernel_rfl) trivial (by first | exact pu_pick_t rfl rfl | exact pu_pick_f rfl rfl) ?_
        refine Rg.puBf 8 rfl rfl (by kernel_rfl) trivial (pu_move rfl) rfl ?_
        refine Rg.pu 9 rfl rfl (by kernel_rfl) ⟨_, rfl, rfl⟩ (pu_move rfl) ?_
        refine Rg.pu 10 rfl rfl (by kernel_rfl) ⟨_, rfl, rfl⟩ (pu_gt rfl rfl) ?_
        refine Rg.puB 11 rfl rfl (by kernel_rfl) ⟨_, rfl, rfl⟩ (pu_move rfl) (fun hg11 => ?_) (fun hg11 => ?_)
        · skip
          have hj0 : 0 < j := by have := of_decide_eq_true hg11; omega
          obtain ⟨u, hu⟩ : ∃ z, ws[j - 1]? = some z := ⟨ws[j - 1]'(by omega), by first | (simp; omega) | simp⟩
          have huw : u.data.toList < w.data.toList := by
            obtain ⟨h1, rfl⟩ := List.getElem?_eq_some_iff.1 hu
            obtain ⟨h2, rfl⟩ := List.getElem?_eq_some_iff.1 hw
            exact List.pairwise_iff_getElem.1 hup _ _ h1 h2 (by omega)
          have hlq := leqB_no huw
          refine Rg.pu 12 rfl rfl (by kernel_rfl) ⟨_, rfl, rfl⟩ (pu_move rfl) ?_
          refine Rg.pu 13 rfl rfl (by kernel_rfl) ⟨_, rfl, rfl⟩ (pu_move rfl) ?_
          refine Rg.pu 14 rfl rfl (by kernel_rfl) ⟨_, rfl, rfl⟩ (pu_ia se_58 rfl rfl (by omega) (by omega)) ?_
          refine Rg.rd 15 rfl rfl (by kernel_rfl) ⟨_, rfl, rfl⟩ (rd_ld na_9 rfl (Rdc.el0 (SlH.own (xs := ws) (E := 9) (enc := strC) (sz := 1) (by repeat constructor)) hw rfl rfl)) ?_
          refine Rg.pu 16 rfl rfl (by kernel_rfl) ⟨_, rfl, rfl⟩ (pu_move rfl) ?_
          refine Rg.pu 17 rfl rfl (by kernel_rfl) ⟨_, rfl, rfl⟩ (pu_move rfl) ?_
          refine Rg.pu 18 rfl rfl (by kernel_rfl) ⟨_, rfl, rfl⟩ (pu_subI (z := ((j - 1 : Nat) : Int)) rfl rfl (by omega) (by omega) (by omega)) ?_
          refine Rg.pu 19 rfl rfl (by kernel_rfl) ⟨_, rfl, rfl⟩ (pu_ia se_58 rfl rfl (by omega) (by omega)) ?_
          refine Rg.rd 20 rfl rfl (by kernel_rfl) ⟨_, rfl, rfl⟩ (rd_ld na_9 rfl (Rdc.el0 (SlH.own (xs := ws) (E := 9) (enc := strC) (sz := 1) (by repeat constructor)) hu rfl rfl)) ?_
          refine Rg.pu 21 rfl rfl (by kernel_rfl) ⟨_, rfl, rfl⟩ (pu_leS rfl rfl) ?_
          rw [hlq]
          refine Rg.pu 22 rfl rfl (by kernel_rfl) ⟨_, rfl, rfl⟩ (by first | exact pu_pick_t rfl rfl | exact pu_pick_f rfl rfl) ?_
          refine Rg.pu 23 rfl rfl (by kernel_rfl) trivial (by first | exact pu_pick_t rfl rfl | exact pu_pick_f rfl rfl) ?_
          refine Rg.end (by kernel_rfl) ?_
          refine Gs.then_n ?_
          refine Gs.cond_ff rfl rfl ?_
          refine Gs.skip ?_
          refine Gs.blk_n ?_
          refine Gs.then_n ?_
          refine Gs.reg ?_
          refine Go.Sl.L.pu rfl rfl trivial (pu_move rfl) ?_
          refine Go.Sl.L.pu rfl rfl trivial (by first | exact pu_addI rfl rfl rfl (by omega) (by omega) | exact pu_add rfl rfl) ?_
          refine Go.Sl.L.pu rfl rfl trivial (pu_assign rfl) ?_
          refine Go.Sl.L.nil ?_
          refine Gs.then_n ?_
          exact Gs.again1 (j + 1) hlt3 (by omega) (by repeat constructor) (by repeat constructor)
        · skip
          refine Rg.off 12 rfl rfl (by kernel_rfl) rfl rfl rfl rfl ?_
          refine Rg.off 13 rfl rfl (by kernel_rfl) rfl rfl rfl rfl ?_
          refine Rg.off 14 rfl rfl (by kernel_rfl) rfl rfl rfl rfl ?_
          refine Rg.off 15 rfl rfl (by kernel_rfl) rfl rfl rfl rfl ?_
          refine Rg.off 16 rfl rfl (by kernel_rfl) rfl rfl rfl rfl ?_
          refine Rg.off 17 rfl rfl (by kernel_rfl) rfl rfl rfl rfl ?_
          refine Rg.off 18 rfl rfl (by kernel_rfl) rfl rfl rfl rfl ?_
          refine Rg.off 19 rfl rfl (by kernel_rfl) rfl rfl rfl rfl ?_
          refine Rg.off 20 rfl rfl (by kernel_rfl) rfl rfl rfl rfl ?_
          refine Rg.off 21 rfl rfl (by kernel_rfl) rfl rfl rfl rfl ?_
          refine Rg.pu 22 rfl rfl (by kernel_rfl) ⟨_, rfl, rfl⟩ (by first | exact pu_pick_t rfl rfl | exact pu_pick_f rfl rfl) ?_
          refine Rg.pu 23 rfl rfl (by kernel_rfl) trivial (by first | exact pu_pick_t rfl rfl | exact pu_pick_f rfl rfl) ?_
          refine Rg.end (by kernel_rfl) ?_
          refine Gs.then_n ?_
          refine Gs.cond_f rfl ?_
          refine Gs.skip ?_
          refine Gs.blk_n ?_
          refine Gs.then_n ?_
          refine Gs.reg ?_
          refine Go.Sl.L.pu rfl rfl trivial (pu_move rfl) ?_
          refine Go.Sl.L.pu rfl rfl trivial (by first | exact pu_addI rfl rfl rfl (by omega) (by omega) | exact pu_add rfl rfl) ?_
          refine Go.Sl.L.pu rfl rfl trivial (pu_assign rfl) ?_
          refine Go.Sl.L.nil ?_
          refine Gs.then_n ?_
          exact Gs.again1 (j + 1) hlt3 (by omega) (by repeat constructor) (by repeat constructor)
      · skip
        refine Gs.exit ?_
        refine Gs.then_x ?_
        refine Gs.then_x ?_
        refine Gs.blk_hit ?_
        refine Gs.then_n ?_
        refine Gs.seq ?_
        refine Gs.reg ?_
        refine Go.Sl.L.pu rfl rfl trivial (pu_assign rfl) ?_
        refine Go.Sl.L.nil ?_
        refine Gs.then_n ?_
        refine Gs.seq ?_
        refine Gs.reg ?_
        refine Go.Sl.L.pu rfl rfl trivial (pu_move rfl) ?_
        refine Go.Sl.L.pu rfl rfl trivial (pu_build bd_35 (by repeat constructor) rfl) ?_
        refine Go.Sl.L.ac rfl rfl trivial (as_call (putNil_spec Rec.zero) (by repeat constructor) (by repeat constructor)) ?_
        rintro _ _ ⟨_, ⟨rfl, rfl⟩, rfl⟩
        refine Go.Sl.L.pu rfl rfl trivial (pu_eq rfl rfl) ?_
        refine Go.Sl.L.puBt rfl rfl trivial (pu_move rfl) rfl ?_
        refine Go.Sl.L.pu rfl rfl ⟨_, rfl, rfl⟩ (pu_move rfl) ?_
        refine Go.Sl.L.ac rfl rfl ⟨_, rfl, rfl⟩ (as_call (dropN_spec none 0 0) (by repeat constructor) (by repeat constructor)) ?_
        rintro _ _ ⟨_, ⟨rfl, rfl⟩, rfl⟩
        refine Go.Sl.L.pu rfl rfl ⟨_, rfl, rfl⟩ (pu_eq rfl rfl) ?_
        refine Go.Sl.L.pu rfl rfl trivial (by first | exact pu_pick_t rfl rfl | exact pu_pick_f rfl rfl) ?_
        refine Go.Sl.L.puBt rfl rfl trivial (pu_move rfl) rfl ?_
        refine Go.Sl.L.pu rfl rfl ⟨_, rfl, rfl⟩ (pu_move rfl) ?_
        refine Go.Sl.L.ac rfl rfl ⟨_, rfl, rfl⟩ (as_call (wordN_spec ⟨#[97]⟩) (by repeat constructor) (by repeat constructor)) ?_
        rintro _ _ ⟨_, ⟨rfl, rfl⟩, rfl⟩
        refine Go.Sl.L.pu rfl rfl ⟨_, rfl, rfl⟩ (pu_len Tryz.underlying42 rfl) ?_
        refine Go.Sl.L.pu rfl rfl ⟨_, rfl, rfl⟩ (pu_eq rfl rfl) ?_
        refine Go.Sl.L.pu rfl rfl trivial (by first | exact pu_pick_t rfl rfl | exact pu_pick_f rfl rfl) ?_
        refine Go.Sl.L.puBt rfl rfl trivial (pu_move rfl) rfl ?_
        refine Go.Sl.L.pu rfl rfl ⟨_, rfl, rfl⟩ (pu_move rfl) ?_
        refine Go.Sl.L.ac rfl rfl ⟨_, rfl, rfl⟩ (as_call (prefixN_spec ⟨#[97]⟩) (by repeat constructor) (by repeat constructor)) ?_
        rintro _ _ ⟨_, ⟨rfl, rfl⟩, rfl⟩
        refine Go.Sl.L.pu rfl rfl ⟨_, rfl, rfl⟩ (pu_len Tryz.underlying42 rfl) ?_
        refine Go.Sl.L.pu rfl rfl ⟨_, rfl, rfl⟩ (pu_eq rfl rfl) ?_
        refine Go.Sl.L.pu rfl rfl trivial (by first | exact pu_pick_t rfl rfl | exact pu_pick_f rfl rfl) ?_
        refine Go.Sl.L.puBt rfl rfl trivial (pu_move rfl) rfl ?_
        refine Go.Sl.L.pu rfl rfl ⟨_, rfl, rfl⟩ (pu_move rfl) ?_
        refine Go.Sl.L.ac rfl rfl ⟨_, rfl, rfl⟩ (as_call (keysN_spec) (by repeat constructor) (by repeat constructor)) ?_
        rintro _ _ ⟨_, ⟨rfl, rfl⟩, rfl⟩
        refine Go.Sl.L.pu rfl rfl ⟨_, rfl, rfl⟩ (pu_len Tryz.underlying47 rfl) ?_
        refine Go.Sl.L.pu rfl rfl ⟨_, rfl, rfl⟩ (pu_eq rfl rfl) ?_
        refine Go.Sl.L.pu rfl rfl trivial (by first | exact pu_pick_t rfl rfl | exact pu_pick_f rfl rfl) ?_
        refine Go.Sl.L.puBt rfl rfl trivial (pu_move rfl) rfl ?_
        refine Go.Sl.L.pu rfl rfl ⟨_, rfl, rfl⟩ (pu_move rfl) ?_
        refine Go.Sl.L.ac rfl rfl ⟨_, rfl, rfl⟩ (as_call (wordsN_spec) (by repeat constructor) (by repeat constructor)) ?_
        rintro _ _ ⟨_, ⟨rfl, rfl⟩, rfl⟩
        refine Go.Sl.L.pu rfl rfl ⟨_, rfl, rfl⟩ (pu_len Tryz.underlying58 rfl) ?_
        refine Go.Sl.L.pu rfl rfl ⟨_, rfl, rfl⟩ (pu_eq rfl rfl) ?_
        refine Go.Sl.L.pu rfl rfl trivial (by first | exact pu_pick_t rfl rfl | exact pu_pick_f rfl rfl) ?_
        refine Go.Sl.L.puBt rfl rfl trivial (pu_move rfl) rfl ?_
        refine Go.Sl.L.pu rfl rfl ⟨_, rfl, rfl⟩ (pu_move rfl) ?_
        refine Go.Sl.L.ac rfl rfl ⟨_, rfl, rfl⟩ (as_call (word_spec x L W nsB) (by repeat constructor) (by repeat constructor)) ?_
        rintro _ _ ⟨_, ⟨na, nc, ns, rfl, hns, rfl⟩, rfl⟩
        have hnl : ns.length = 0 := by
          have h1 : plain1 ns = [] := by rw [hns, ← plL_get]; exact hL.noSuch
          have := congrArg List.length h1
          simpa using this
        rw [hnl]
        refine Go.Sl.L.pu rfl rfl ⟨_, rfl, rfl⟩ (pu_len Tryz.underlying42 rfl) ?_
        refine Go.Sl.L.pu rfl rfl ⟨_, rfl, rfl⟩ (pu_eq rfl rfl) ?_
        refine Go.Sl.L.pu rfl rfl trivial (by first | exact pu_pick_t rfl rfl | exact pu_pick_f rfl rfl) ?_
        refine Go.Sl.L.puBt rfl rfl trivial (pu_move rfl) rfl ?_
        refine Go.Sl.L.ac rfl rfl ⟨_, rfl, rfl⟩ (as_call (awake_spec T) (by repeat constructor) (by repeat constructor)) ?_
        rintro _ _ ⟨_, ⟨rfl, rfl⟩, rfl⟩
        refine Go.Sl.L.pu rfl rfl trivial (by first | exact pu_pick_t rfl rfl | exact pu_pick_f rfl rfl) ?_
        refine Go.Sl.L.pu rfl rfl trivial (pu_assign rfl) ?_
        refine Go.Sl.L.nil ?_
        refine Gs.then_n ?_
        refine Gs.ret ?_
        exact Gs.fin1 Tryz.results5 rfl _ (⟨rfl, rfl⟩) (by repeat constructor)
end Go.Proofs.YtmbikfojljnnkaaGreatDoor
