/- Walks: grapevinelaw13.DescentFinds. -/
import Derived.Test.YthlnjkfahmebjaaDoorAw2
namespace Go.Proofs.YthlnjkfahmebjaaDoor
open Go Go.Sl Go.Gv Go.Kv
set_option maxRecDepth 100000
/-- The keys of those records. -/
def dK (f : Rec → Bool) (X : List Rec) : List Key := (X.filter f).map Rec.key
theorem dK_t {f : Rec → Bool} {X : List Rec} {j : Nat} {r : Rec} (h : X[j]? = some r) (hf : f r = true) : dK f (X.take (j + 1)) = dK f (X.take j) ++ [r.key] := by
  rw [List.take_add_one, h]; simp [dK, hf]
theorem dK_f {f : Rec → Bool} {X : List Rec} {j : Nat} {r : Rec} (h : X[j]? = some r) (hf : f r = false) : dK f (X.take (j + 1)) = dK f (X.take j) := by
  rw [List.take_add_one, h]; simp [dK, hf]
theorem dK_mem {f : Rec → Bool} {X : List Rec} {x : Key} : x ∈ dK f X ↔ ∃ r ∈ X, f r = true ∧ r.key = x := by
  simp [dK, and_assoc]
theorem dK_le (f : Rec → Bool) (X : List Rec) : (dK f X).length ≤ X.length := by
  simp only [dK, List.length_map]; exact List.length_filter_le ..
theorem dK_nodup {f : Rec → Bool} {X : List Rec} (h : (X.map Rec.key).Nodup) : (dK f X).Nodup := List.Nodup.sublist (List.Sublist.map _ List.filter_sublist) h
theorem dK_new {f : Rec → Bool} {X : List Rec} (h : (X.map Rec.key).Nodup) {j : Nat} {r : Rec} (hj : X[j]? = some r) : r.key ∉ dK f (X.take j) := fun hm => by
  obtain ⟨r', h1, -, h3⟩ := dK_mem.1 hm
  obtain ⟨i, hi⟩ := List.mem_iff_getElem?.1 h1
  rw [List.getElem?_take] at hi
  split at hi
  · rename_i hlt
    have e1 : (X.map Rec.key)[i]? = some r.key := by rw [List.getElem?_map, hi]; simp [h3]
    have e2 : (X.map Rec.key)[j]? = some r.key := by rw [List.getElem?_map, hj]; rfl
    have := (List.getElem?_inj (List.getElem?_eq_some_iff.1 e1).1 h).1 (e1.trans e2.symm)
    omega
  · cases hi
def d1 (N : Nat) (B : List Rec) (r : Rec) : Bool := decide (r.o < N) && decide (lookR B r.key ≠ some r)
def d2 (N : Nat) (A : List Rec) (r : Rec) : Bool := decide (r.o < N) && decide (lookR A r.key = none)
theorem foundK_eq {A B : List Rec} (hA : TOk A) (hB : TOk B) {n : Nat} (hn : n ≤ 8) (hc : clashN A B n = false) : sortK (findK A B n) = sortK (dK (d1 n B) A ++ dK (d2 n A) B) := by
  have hnd : (dK (d1 n B) A ++ dK (d2 n A) B).Nodup := by
    refine List.nodup_append.2 ⟨dK_nodup hA.nd, dK_nodup hB.nd, fun x hx y hy e => ?_⟩
    subst e
    obtain ⟨r, h1, h2, h3⟩ := dK_mem.1 hx
    obtain ⟨s, k1, k2, k3⟩ := dK_mem.1 hy
    simp only [d2, Bool.and_eq_true, decide_eq_true_eq] at k2
    rw [k3, ← h3, lookR_mem hA.nd h1] at k2
    cases k2.2
  have hmem : ∀ x, x ∈ findK A B n ↔ x ∈ dK (d1 n B) A ++ dK (d2 n A) B := fun x => by
    rw [findK_mem hA hB hn hc, List.mem_append, dK_mem, dK_mem]
    constructor
    · rintro ⟨h1, h2⟩
      cases ha : lookR A x with
      | some r =>
        obtain ⟨k1, k2⟩ := lookR_key ha
        refine .inl ⟨r, k2, ?_, k1⟩
        subst k1
        rw [ha] at h2
        simp only [d1, Bool.and_eq_true, decide_eq_true_eq]
        exact ⟨h1, fun e => h2 e.symm⟩
      | none =>
        cases hb : lookR B x with
        | none => exact (h2 (by rw [ha, hb])).elim
        | some r =>
          obtain ⟨k1, k2⟩ := lookR_key hb
          refine .inr ⟨r, k2, ?_, k1⟩
          subst k1
          simp only [d2, Bool.and_eq_true, decide_eq_true_eq]
          exact ⟨h1, ha⟩
    · rintro (⟨r, h1, h2, rfl⟩ | ⟨r, h1, h2, rfl⟩)
      · simp only [d1, Bool.and_eq_true, decide_eq_true_eq] at h2
        exact ⟨h2.1, fun e => h2.2 (e ▸ lookR_mem hA.nd h1)⟩
      · simp only [d2, Bool.and_eq_true, decide_eq_true_eq] at h2
        exact ⟨h2.1, fun e => by rw [h2.2, lookR_mem hB.nd h1] at e; cases e⟩
  have hp : (findK A B n).Perm (dK (d1 n B) A ++ dK (d2 n A) B) := (List.perm_ext_iff_of_nodup (findK_nodup A B n) hnd).2 hmem
  exact asc_uniq (sortK_asc (findK_nodup A B n)) (sortK_asc hnd) (((sortK_perm _).trans hp).trans (sortK_perm _).symm)
theorem into_new {P : List Key} {k : Key} (h : k ∉ P) : intoL (sortK P) k = sortK (P ++ [k]) := by
  rw [intoL_ins (fun hm => h (sortK_mem.1 hm)), sortK_snoc]
theorem int_if_neg {p : Bool} {i : Nat} (h : decide ((if p = true then (i : Int) else -1) < 0) = true) : p = false := by
  cases p with
  | false => rfl
  | true => have := of_decide_eq_true h; simp at this; omega
theorem int_if_pos {p : Bool} {i : Nat} (h : decide ((if p = true then (i : Int) else -1) < 0) = false) : p = true := by
  cases p with
  | true => rfl
  | false => have := of_decide_eq_false h; simp at this
theorem dK_new2 {A B : List Rec} {N : Nat} (h : (B.map Rec.key).Nodup) {j : Nat} {r : Rec} (hj : B[j]? = some r) (hd : d2 N A r = true) : r.key ∉ dK (d1 N B) A ++ dK (d2 N A) (B.take j) := fun hm => by
  rcases List.mem_append.1 hm with hm | hm
  · obtain ⟨s, h1, -, h3⟩ := dK_mem.1 hm
    simp only [d2, Bool.and_eq_true, decide_eq_true_eq] at hd
    exact lookR_none.1 hd.2 (h3 ▸ List.mem_map_of_mem h1)
  · exact dK_new h hj hm
theorem ixR_get {L : List Rec} {k : Key} {r : Rec} (h : ixR L k < L.length) (hr : lookR L k = some r) : L[ixR L k]? = some r := by
  have h1 : L[ixR L k]? = some L[ixR L k] := by simp [h]
  have h2 := ixR_at h1
  rw [hr] at h2; rw [h1, h2]
theorem finds_spec {h0 : Hp} (T : Tabs h0) {a b : Option Addr} {c d : Nat} {xs ys : List Rec} (hx : slR h0 5 recC a xs) (hy : slR h0 5 recC b ys) (hxl : xs.length ≤ 9223372036854775807) (hyl : ys.length ≤ 9223372036854775807) (n0 : Int) :
    Ct Tryd.prog 3 [.slice a xs.length c, .slice b ys.length d, int n0] [ro h0] (fun v hs => v = .bool true ∧ hs = [ro h0]) := by
  have hN := lowZ_in (a := n0) (b := 9) (by decide) (by decide)
  obtain ⟨N, hNe⟩ : ∃ N : Nat, lowZ n0 9 = N := ⟨(lowZ n0 9).toNat, by omega⟩
  rw [hNe] at hN
  have hN8 : N ≤ 8 := by omega
  refine Ct.intro Tryd.func3 rfl (by kernel_rfl) 177 Tryd.ntmps3 (Nat.le_of_ble_eq_true rfl) fun w0 R => ?_
  refine Gs.seq ?_
  refine Gs.reg ?_
  refine Go.Sl.L.pu rfl rfl trivial (pu_assign rfl) ?_
  refine Go.Sl.L.nil ?_
  refine Gs.then_n ?_
  refine Gs.seq ?_
  refine Gs.seq ?_
  refine Gs.reg ?_
  refine Go.Sl.L.pu rfl rfl trivial (pu_move rfl) ?_
  refine Go.Sl.L.ac rfl rfl trivial (as_call (greatRecords_spec (Srd.ro hx) hxl 25) (by repeat constructor) (by repeat constructor)) ?_
  rintro _ _ ⟨_, ⟨⟨g1, rfl, hg1⟩, rfl⟩, rfl⟩
  refine Go.Sl.L.puB rfl rfl trivial (pu_move rfl) (fun hg2 => ?_) (fun hg2 => ?_)
  · skip
    refine Go.Sl.L.off rfl rfl rfl rfl rfl rfl ?_
    refine Go.Sl.L.off rfl rfl rfl rfl rfl rfl ?_
    refine Go.Sl.L.pu rfl rfl trivial (by first | exact pu_pick_t rfl rfl | exact pu_pick_f rfl rfl) ?_
    refine Go.Sl.L.nil ?_
    refine Gs.then_n ?_
    refine Gs.cond_t rfl ?_
    refine Gs.seq ?_
    refine Gs.reg ?_
    refine Go.Sl.L.ac rfl rfl trivial (as_call (awake_spec T) (by repeat constructor) (by repeat constructor)) ?_
    rintro _ _ ⟨_, ⟨rfl, rfl⟩, rfl⟩
    refine Go.Sl.L.pu rfl rfl trivial (pu_assign rfl) ?_
    refine Go.Sl.L.nil ?_
    refine Gs.then_n ?_
    refine Gs.ret ?_
    refine Gs.then_r ?_
    exact Gs.fin1 Tryd.results3 rfl _ (⟨rfl, rfl⟩) (by repeat constructor)
  · skip
    refine Go.Sl.L.pu rfl rfl ⟨_, rfl, rfl⟩ (pu_move rfl) ?_
    refine Go.Sl.L.ac rfl rfl ⟨_, rfl, rfl⟩ (as_call (greatRecords_spec (Srd.ro hy) hyl 25) (by repeat constructor) (by repeat constructor)) ?_
    rintro _ _ ⟨_, ⟨⟨g2, rfl, hg2'⟩, rfl⟩, rfl⟩
    refine Go.Sl.L.pu rfl rfl trivial (by first | exact pu_pick_t rfl rfl | exact pu_pick_f rfl rfl) ?_
    refine Go.Sl.L.nil ?_
    refine Gs.then_n ?_
    refine Gs.cond rfl (fun hc0 => ?_) (fun hc0 => ?_)
    · skip
      refine Gs.seq ?_
      refine Gs.reg ?_
      refine Go.Sl.L.ac rfl rfl trivial (as_call (awake_spec T) (by repeat constructor) (by repeat constructor)) ?_
      rintro _ _ ⟨_, ⟨rfl, rfl⟩, rfl⟩
      refine Go.Sl.L.pu rfl rfl trivial (pu_assign rfl) ?_
      refine Go.Sl.L.nil ?_
      refine Gs.then_n ?_
      refine Gs.ret ?_
      refine Gs.then_r ?_
      exact Gs.fin1 Tryd.results3 rfl _ (⟨rfl, rfl⟩) (by repeat constructor)
    · skip
      have hxs : xs.length ≤ 25 := by have := hg1 hg2; omega
      have hys : ys.length ≤ 25 := by have := hg2' hc0; omega
      obtain ⟨A, hAe⟩ : ∃ A, A = putAll [] xs := ⟨_, rfl⟩
      obtain ⟨B, hBe⟩ : ∃ B, B = putAll [] ys := ⟨_, rfl⟩
      have hA : TOk A := hAe ▸ TOk.nil.putAll xs
      have hB : TOk B := hBe ▸ TOk.nil.putAll ys
      have hAl : A.length ≤ 25 := by rw [hAe]; have := (putAll_length [] xs).2; simp at this; omega
      have hBl : B.length ≤ 25 := by rw [hBe]; have := (putAll_length [] ys).2; simp at this; omega
      refine Gs.skip ?_
      refine Gs.then_n ?_
      refine Gs.seq ?_
      refine Gs.reg ?_
      refine Go.Sl.L.pu rfl rfl trivial (pu_move rfl) ?_
      refine Go.Sl.L.ac rfl rfl trivial (as_call (both_spec T hx hxs) (by repeat constructor) (by repeat constructor)) ?_
      rintro _ _ ⟨_, ⟨p1, q1, rfl, rfl⟩, rfl⟩
      refine Go.Sl.L.pu rfl rfl trivial (pu_move rfl) ?_
      refine Go.Sl.L.pu rfl rfl trivial (pu_extract rfl rfl) ?_
      refine Go.Sl.L.pu rfl rfl trivial (pu_extract rfl rfl) ?_
      refine Go.Sl.L.pu rfl rfl trivial (pu_assign rfl) ?_
      refine Go.Sl.L.pu rfl rfl trivial (pu_assign rfl) ?_
      refine Go.Sl.L.nil ?_
      refine Gs.then_n ?_
      refine Gs.seq ?_
      refine Gs.reg ?_
      refine Go.Sl.L.pu rfl rfl trivial (pu_move rfl) ?_
      refine Go.Sl.L.ac rfl rfl trivial (as_call (both_spec T hy hys) (by repeat constructor) (by repeat constructor)) ?_
      rintro _ _ ⟨_, ⟨p2, q2, rfl, rfl⟩, rfl⟩
      refine Go.Sl.L.pu rfl rfl trivial (pu_move rfl) ?_
      refine Go.Sl.L.pu rfl rfl trivial (pu_extract rfl rfl) ?_
      refine Go.Sl.L.pu rfl rfl trivial (pu_extract rfl rfl) ?_
      refine Go.Sl.L.pu rfl rfl trivial (pu_assign rfl) ?_
      refine Go.Sl.L.pu rfl rfl trivial (pu_assign rfl) ?_
      refine Go.Sl.L.nil ?_
      rw [← hAe, ← hBe]
      refine Gs.then_n ?_
      refine Gs.seq ?_
      refine Gs.seq ?_
      refine Gs.reg ?_
      refine Go.Sl.L.pu rfl rfl trivial (pu_move rfl) ?_
      refine Go.Sl.L.pu rfl rfl trivial (pu_eqN Tryd.underlying25 rfl rfl) ?_
      refine Go.Sl.L.puBf rfl rfl trivial (pu_move rfl) rfl ?_
      refine Go.Sl.L.pu rfl rfl ⟨_, rfl, rfl⟩ (pu_move rfl) ?_
      refine Go.Sl.L.pu rfl rfl ⟨_, rfl, rfl⟩ (pu_eqN Tryd.underlying25 rfl rfl) ?_
      refine Go.Sl.L.pu rfl rfl trivial (by first | exact pu_pick_t rfl rfl | exact pu_pick_f rfl rfl) ?_
      refine Go.Sl.L.nil ?_
      refine Gs.then_n ?_
      refine Gs.cond_f rfl ?_
      refine Gs.skip ?_
      refine Gs.then_n ?_
      refine Gs.seq ?_
      refine Gs.reg ?_
      refine Go.Sl.L.pu rfl rfl trivial (pu_move rfl) ?_
      refine Go.Sl.L.ac rfl rfl trivial (as_call (low_spec n0 9 (by decide) (by decide)) (by repeat constructor) (by repeat constructor)) ?_
      rintro _ _ ⟨_, ⟨rfl, rfl⟩, rfl⟩
      rw [hNe]
      refine Go.Sl.L.pu rfl rfl trivial (pu_assign rfl) ?_
      refine Go.Sl.L.nil ?_
      refine Gs.then_n ?_
      refine Gs.seq ?_
      refine Gs.takes (As := [tre p1 A, tre p2 B]) (by repeat constructor) (Gs.toTwo ?_)
      refine Gs.reg ?_
      refine Go.Sl.L.pu rfl rfl trivial (pu_move rfl) ?_
      refine Go.Sl.L.pu rfl rfl trivial (pu_move rfl) ?_
      refine Go.Sl.L.pu rfl rfl trivial (pu_move rfl) ?_
      refine Go.Sl.L.ac rfl rfl trivial (as_call (find_spec (TrR.own p1 A).left (TrR.own p2 B).right N hN8) (by repeat constructor) (by repeat constructor)) ?_
      rintro _ _ ⟨_, ⟨fa, fc, rfl, rfl⟩, rfl⟩
      refine Go.Sl.L.pu rfl rfl trivial (pu_move rfl) ?_
      refine Go.Sl.L.pu rfl rfl trivial (pu_extract rfl rfl) ?_
      refine Go.Sl.L.pu rfl rfl trivial (pu_extract rfl rfl) ?_
      refine Go.Sl.L.pu rfl rfl trivial (pu_assign rfl) ?_
      refine Go.Sl.L.pu rfl rfl trivial (pu_assign rfl) ?_
      refine Go.Sl.L.nil ?_
      refine Gs.then_n ?_
      refine Gs.seq ?_
      refine Gs.seq ?_
      refine Gs.reg ?_
      refine Go.Sl.L.pu rfl rfl trivial (pu_move rfl) ?_
      refine Go.Sl.L.pu rfl rfl trivial (pu_move rfl) ?_
      refine Go.Sl.L.pu rfl rfl trivial (pu_move rfl) ?_
      refine Go.Sl.L.ac rfl rfl trivial (as_call (clashN_spec (S := two (tre p1 A) (tre p2 B)) (TrR.own p1 A).left (TrR.own p2 B).right N hN8) (by repeat constructor) (by repeat constructor)) ?_
      rintro _ _ ⟨_, ⟨rfl, rfl⟩, rfl⟩
      refine Go.Sl.L.nil ?_
      refine Gs.then_n ?_
      refine Gs.cond rfl (fun hc2 => ?_) (fun hc2 => ?_)
      · skip
        refine Gs.seq ?_
        refine Gs.reg ?_
        refine Go.Sl.L.ac rfl rfl trivial (as_call (awake_spec T) (by repeat constructor) (by repeat constructor)) ?_
        rintro _ _ ⟨_, ⟨rfl, rfl⟩, rfl⟩
        refine Go.Sl.L.pu rfl rfl trivial (pu_assign rfl) ?_
        refine Go.Sl.L.nil ?_
        refine Gs.then_n ?_
        refine Gs.ret ?_
        refine Gs.then_r ?_
        exact Gs.fin1 Tryd.results3 rfl _ (⟨rfl, rfl⟩) (by repeat constructor)
      · skip
        have hkeys := foundK_eq hA hB hN8 hc2
        have hask1 := askN_ge A B N
        have hask2 := askN_le_keys (A := A) (B := B) hN8
        have hlen := congrArg List.length hkeys
        rw [sortK_length, sortK_length] at hlen
        rw [hkeys]
        refine Gs.skip ?_
        refine Gs.then_n ?_
        refine Gs.seq ?_
        refine Gs.reg ?_
        refine Go.Sl.L.pu rfl rfl trivial (pu_assign rfl) ?_
        refine Go.Sl.L.nil ?_
        refine Gs.slNil 38 2 keyC ?_
        refine Gs.rtOpen (b := q1) (L := A) (by repeat constructor) fun a1 c1 => Gs.rtOpen (b := q2) (L := B) (by repeat constructor) fun a2 c2 => ?_
        refine Gs.slAddr (SlH.own (by repeat constructor) : SlH _ _ 5 recC a1 A) fun ab1 ao1 ha1 => ?_
        refine Gs.slAddr (SlH.own (by repeat constructor) : SlH _ _ 5 recC a2 B) fun ab2 ao2 ha2 => ?_
        refine Gs.then_n ?_
        refine Gs.seq ?_
        refine Gs.seq ?_
        refine Gs.reg ?_
        refine Go.Sl.L.pu rfl rfl trivial (pu_assign rfl) ?_
        refine Go.Sl.L.nil ?_
        refine Gs.then_n ?_
        refine Gs.block ?_
        refine Gs.loop1 (fun s : Nat × (Option Addr × Nat) × List Key => s.1 ≤ A.length ∧ s.2.2 = sortK (dK (d1 N B) (A.take s.1))) (fun s => [(2, int N), (8, ptr q1), (10, ptr q2), (11, .slice fa (sortK (dK (d1 N B) A ++ dK (d2 N A) B)).length fc), (12, int (askN A B N)), (13, .slice s.2.1.1 s.2.2.length s.2.1.2), (14, int s.1)]) (fun s => [ro h0, sl 38 2 keyC fa fc (sortK (dK (d1 N B) A ++ dK (d2 N A) B)), sl 38 2 keyC s.2.1.1 s.2.1.2 s.2.2, cl q1 35 (rtC a1 A c1), sl 42 5 recC a1 c1 A, cl q2 35 (rtC a2 B c2), sl 42 5 recC a2 c2 B] ++ R) (fun s => A.length - s.1) (0, (none, 0), []) (⟨Nat.zero_le _, rfl⟩) (by repeat constructor) (by repeat constructor) (fun s hs => ?_)
        obtain ⟨j, ⟨ka, kc⟩, K⟩ := s
        obtain ⟨hj, hK⟩ := hs
        dsimp only at hj hK ⊢
        have hKl : K.length ≤ 25 := by rw [hK, sortK_length]; have := dK_le (d1 N B) (A.take j); rw [List.length_take] at this; omega
        refine Gs.seq ?_
        refine Gs.seq ?_
        refine Gs.reg ?_
        refine Go.Sl.L.pu rfl rfl trivial (pu_move rfl) ?_
        refine Go.Sl.L.pu rfl rfl trivial (pu_move rfl) ?_
        refine Go.Sl.L.pu rfl rfl trivial (by first | exact pu_nil rfl | exact pu_nilF rfl) ?_
        refine Go.Sl.L.pu rfl rfl trivial (pu_fa fa_35_0 rfl) ?_
        refine Go.Sl.L.rd rfl rfl trivial (rd_ld na_22 rfl (Rdc.cl1 (by repeat constructor) rfl)) ?_
        refine Go.Sl.L.pu rfl rfl trivial (pu_len Tryd.underlying22 rfl) ?_
        refine Go.Sl.L.pu rfl rfl trivial (pu_lt rfl rfl) ?_
        refine Go.Sl.L.nil ?_
        refine Gs.then_n ?_
        refine Gs.cond rfl (fun hc3 => ?_) (fun hc3 => ?_)
        · skip
          have hlt : j < A.length := by have := of_decide_eq_true hc3; omega
          obtain ⟨r, hr⟩ : ∃ x, A[j]? = some x := ⟨A[j], by simp [hlt]⟩
          obtain rfl := ha1 (by rintro rfl; simp at hlt)
          refine Gs.skip ?_
          refine Gs.then_n ?_
          refine Gs.seq ?_
          refine Gs.block ?_
          refine Gs.seq ?_
          refine Gs.reg ?_
          refine Go.Sl.L.pu rfl rfl trivial (pu_move rfl) ?_
          refine Go.Sl.L.pu rfl rfl trivial (pu_move rfl) ?_
          refine Go.Sl.L.pu rfl rfl trivial (by first | exact pu_nil rfl | exact pu_nilF rfl) ?_
          refine Go.Sl.L.pu rfl rfl trivial (pu_fa fa_35_0 rfl) ?_
          refine Go.Sl.L.rd rfl rfl trivial (rd_ld na_22 rfl (Rdc.cl1 (by repeat constructor) rfl)) ?_
          refine Go.Sl.L.pu rfl rfl trivial (pu_move rfl) ?_
          refine Go.Sl.L.pu rfl rfl trivial (pu_ia se_22 rfl rfl (by omega) (by omega)) ?_
          refine Go.Sl.L.pu rfl rfl trivial (pu_fa fa_42_0 rfl) ?_
          refine Go.Sl.L.rd rfl rfl trivial (rd_lda ag_38 rfl (Rdc.elp 2 (SlH.own (by repeat constructor)) hr rfl rfl) rfl) ?_
          refine Go.Sl.L.ac rfl rfl trivial (as_call (find12_spec q2 a2 c2 B (by omega) r.key) (by repeat constructor) (by repeat constructor)) ?_
          rintro _ _ ⟨_, ⟨rfl, rfl⟩, rfl⟩
          refine Go.Sl.L.pu rfl rfl trivial (pu_assign rfl) ?_
          refine Go.Sl.L.nil ?_
          refine Gs.then_n ?_
          refine Gs.seq ?_
          refine Gs.regD mixed (by kernel_rfl) ?_
          refine Rg.pu 0 rfl rfl (by kernel_rfl) trivial (pu_move rfl) ?_
          refine Rg.pu 1 rfl rfl (by kernel_rfl) trivial (by first | exact pu_nil rfl | exact pu_nilF rfl) ?_
          refine Rg.pu 2 rfl rfl (by kernel_rfl) trivial (pu_fa fa_35_0 rfl) ?_
          refine Rg.rd 3 rfl rfl (by kernel_rfl) trivial (rd_ld na_22 rfl (Rdc.cl1 (by repeat constructor) rfl)) ?_
          refine Rg.pu 4 rfl rfl (by kernel_rfl) trivial (pu_move rfl) ?_
          refine Rg.pu 5 rfl rfl (by kernel_rfl) trivial (pu_ia se_22 rfl rfl (by omega) (by omega)) ?_
          refine Rg.pu 6 rfl rfl (by kernel_rfl) trivial (pu_fa fa_42_0 rfl) ?_
          refine Rg.pu 7 rfl rfl (by kernel_rfl) trivial (pu_fa fa_38_0 rfl) ?_
          refine Rg.rd 8 rfl rfl (by kernel_rfl) trivial (rd_ld na_3 rfl (Rdc.elp 1 (SlH.own (by repeat constructor)) hr rfl rfl)) ?_
          refine Rg.pu 9 rfl rfl (by kernel_rfl) trivial (pu_move rfl) ?_
          refine Rg.pu 10 rfl rfl (by kernel_rfl) trivial (pu_lt rfl rfl) ?_
          refine Rg.puB 11 rfl rfl (by kernel_rfl) trivial (pu_move rfl) (fun hg11 => ?_) (fun hg11 => ?_)
          · skip
            have hro : r.o < N := of_decide_eq_true hg11
            refine Rg.pu 12 rfl rfl (by kernel_rfl) ⟨_, rfl, rfl⟩ (pu_move rfl) ?_
            refine Rg.pu 13 rfl rfl (by kernel_rfl) ⟨_, rfl, rfl⟩ (pu_lt rfl rfl) ?_
            refine Rg.puB 14 rfl rfl (by kernel_rfl) ⟨_, rfl, rfl⟩ (pu_move rfl) (fun hg14 => ?_) (fun hg14 => ?_)
            · skip
              have hyes : d1 N B r = true := by have h := int_if_neg hg14; rw [Option.isSome_eq_false_iff, Option.isNone_iff_eq_none] at h; simp [d1, hro, h]
              refine Rg.off 15 rfl rfl (by kernel_rfl) rfl rfl rfl rfl ?_
              refine Rg.off 16 rfl rfl (by kernel_rfl) rfl rfl rfl rfl ?_
              refine Rg.off 17 rfl rfl (by kernel_rfl) rfl rfl rfl rfl ?_
              refine Rg.off 18 rfl rfl (by kernel_rfl) rfl rfl rfl rfl ?_
              refine Rg.off 19 rfl rfl (by kernel_rfl) rfl rfl rfl rfl ?_
              refine Rg.off 20 rfl rfl (by kernel_rfl) rfl rfl rfl rfl ?_
              refine Rg.off 21 rfl rfl (by kernel_rfl) rfl rfl rfl rfl ?_
              refine Rg.off 22 rfl rfl (by kernel_rfl) rfl rfl rfl rfl ?_
              refine Rg.off 23 rfl rfl (by kernel_rfl) rfl rfl rfl rfl ?_
              refine Rg.off 24 rfl rfl (by kernel_rfl) rfl rfl rfl rfl ?_
              refine Rg.off 25 rfl rfl (by kernel_rfl) rfl rfl rfl rfl ?_
              refine Rg.off 26 rfl rfl (by kernel_rfl) rfl rfl rfl rfl ?_
              refine Rg.off 27 rfl rfl (by kernel_rfl) rfl rfl rfl rfl ?_
              refine Rg.off 28 rfl rfl (by kernel_rfl) rfl rfl rfl rfl ?_
              refine Rg.off 29 rfl rfl (by kernel_rfl) rfl rfl rfl rfl ?_
              refine Rg.off 30 rfl rfl (by kernel_rfl) rfl rfl rfl rfl ?_
              refine Rg.pu 31 rfl rfl (by kernel_rfl) ⟨_, rfl, rfl⟩ (by first | exact pu_pick_t rfl rfl | exact pu_pick_f rfl rfl) ?_
              refine Rg.pu 32 rfl rfl (by kernel_rfl) trivial (by first | exact pu_pick_t rfl rfl | exact pu_pick_f rfl rfl) ?_
              refine Rg.end (by kernel_rfl) ?_
              refine Gs.then_n ?_
              refine Gs.cond_t rfl ?_
              refine Gs.reg ?_
              refine Go.Sl.L.pu rfl rfl trivial (pu_move rfl) ?_
              refine Go.Sl.L.pu rfl rfl trivial (pu_move rfl) ?_
              refine Go.Sl.L.pu rfl rfl trivial (by first | exact pu_nil rfl | exact pu_nilF rfl) ?_
              refine Go.Sl.L.pu rfl rfl trivial (pu_fa fa_35_0 rfl) ?_
              refine Go.Sl.L.rd rfl rfl trivial (rd_ld na_22 rfl (Rdc.cl1 (by repeat constructor) rfl)) ?_
              refine Go.Sl.L.pu rfl rfl trivial (pu_move rfl) ?_
              refine Go.Sl.L.pu rfl rfl trivial (pu_ia se_22 rfl rfl (by omega) (by omega)) ?_
              refine Go.Sl.L.pu rfl rfl trivial (pu_fa fa_42_0 rfl) ?_
              refine Go.Sl.L.rd rfl rfl trivial (rd_lda ag_38 rfl (Rdc.elp 2 (SlH.own (by repeat constructor)) hr rfl rfl) rfl) ?_
              have hin : intoL K r.key = sortK (dK (d1 N B) (A.take (j + 1))) := by rw [hK, into_new (dK_new hA.nd hr), dK_t hr hyes]
              refine Go.Sl.L.ac rfl rfl trivial (as_call (into_spec ka kc K (by omega) r.key) (by repeat constructor) (by repeat constructor)) ?_
              rintro _ _ ⟨_, ⟨na, nc, rfl, rfl⟩, rfl⟩
              rw [hin]
              refine Go.Sl.L.pu rfl rfl trivial (pu_assign rfl) ?_
              refine Go.Sl.L.nil ?_
              refine Gs.blk_n ?_
              refine Gs.then_n ?_
              refine Gs.reg ?_
              refine Go.Sl.L.pu rfl rfl trivial (pu_move rfl) ?_
              refine Go.Sl.L.pu rfl rfl trivial (by first | exact pu_addI rfl rfl rfl (by omega) (by omega) | exact pu_add rfl rfl) ?_
              refine Go.Sl.L.pu rfl rfl trivial (pu_assign rfl) ?_
              refine Go.Sl.L.nil ?_
              refine Gs.then_n ?_
              first | (have hX := hyes; exact Gs.again1 (j + 1, (na, nc), sortK (dK (d1 N B) (A.take (j + 1)))) ⟨by show j + 1 ≤ A.length; omega, rfl⟩ (by show A.length - (j + 1) < A.length - j; omega) (by repeat constructor) (by repeat constructor)) | (have hX := hno; exact Gs.again1 (j + 1, (ka, kc), K) ⟨by show j + 1 ≤ A.length; omega, by show K = _; rw [hK, dK_f hr hno]⟩ (by show A.length - (j + 1) < A.length - j; omega) (by repeat constructor) (by repeat constructor))
            · skip
              have hsome := int_if_pos hg14
              obtain ⟨r2, hr2⟩ := Option.isSome_iff_exists.1 hsome
              have hix := ixR_lt.2 hsome
              have hx2 : B[ixR B r.key]? = some r2 := ixR_get hix hr2
              obtain rfl := ha2 (by rintro rfl; simp at hx2)
              rw [if_pos hsome]
              refine Rg.pu 15 rfl rfl (by kernel_rfl) ⟨_, rfl, rfl⟩ (pu_move rfl) ?_
              refine Rg.pu 16 rfl rfl (by kernel_rfl) ⟨_, rfl, rfl⟩ (by first | exact pu_nil rfl | exact pu_nilF rfl) ?_
              refine Rg.pu 17 rfl rfl (by kernel_rfl) ⟨_, rfl, rfl⟩ (pu_fa fa_35_0 rfl) ?_
              refine Rg.rd 18 rfl rfl (by kernel_rfl) ⟨_, rfl, rfl⟩ (rd_ld na_22 rfl (Rdc.cl1 (by repeat constructor) rfl)) ?_
              refine Rg.pu 19 rfl rfl (by kernel_rfl) ⟨_, rfl, rfl⟩ (pu_move rfl) ?_
              refine Rg.pu 20 rfl rfl (by kernel_rfl) ⟨_, rfl, rfl⟩ (pu_ia se_22 rfl rfl (by omega) (by omega)) ?_
              refine Rg.rd 21 rfl rfl (by kernel_rfl) ⟨_, rfl, rfl⟩ (rd_lda ag_42 rfl (Rdc.el0 (SlH.own (by repeat constructor)) hx2 rfl rfl) rfl) ?_
              refine Rg.pu 22 rfl rfl (by kernel_rfl) ⟨_, rfl, rfl⟩ (pu_move rfl) ?_
              refine Rg.pu 23 rfl rfl (by kernel_rfl) ⟨_, rfl, rfl⟩ (by first | exact pu_nil rfl | exact pu_nilF rfl) ?_
              refine Rg.pu 24 rfl rfl (by kernel_rfl) ⟨_, rfl, rfl⟩ (pu_fa fa_35_0 rfl) ?_
              refine Rg.rd 25 rfl rfl (by kernel_rfl) ⟨_, rfl, rfl⟩ (rd_ld na_22 rfl (Rdc.cl1 (by repeat constructor) rfl)) ?_
              refine Rg.pu 26 rfl rfl (by kernel_rfl) ⟨_, rfl, rfl⟩ (pu_move rfl) ?_
              refine Rg.pu 27 rfl rfl (by kernel_rfl) ⟨_, rfl, rfl⟩ (pu_ia se_22 rfl rfl (by omega) (by omega)) ?_
              refine Rg.rd 28 rfl rfl (by kernel_rfl) ⟨_, rfl, rfl⟩ (rd_lda ag_42 rfl (Rdc.el0 (SlH.own (by repeat constructor)) hr rfl rfl) rfl) ?_
              refine Rg.one (by kernel_rfl) (Stp.ac 29 rfl rfl (by kernel_rfl) ⟨_, rfl, rfl⟩ (as_call (recSame4_spec r2 r) (by repeat constructor) (by repeat constructor))  ?_)
              rintro _ _ ⟨_, ⟨rfl, rfl⟩, rfl⟩
              refine Rg.pu 30 rfl rfl (by kernel_rfl) ⟨_, rfl, rfl⟩ (pu_not rfl) ?_
              refine Rg.pu 31 rfl rfl (by kernel_rfl) ⟨_, rfl, rfl⟩ (by first | exact pu_pick_t rfl rfl | exact pu_pick_f rfl rfl) ?_
              refine Rg.pu 32 rfl rfl (by kernel_rfl) trivial (by first | exact pu_pick_t rfl rfl | exact pu_pick_f rfl rfl) ?_
              refine Rg.end (by kernel_rfl) ?_
              refine Gs.then_n ?_
              refine Gs.cond rfl (fun hc4 => ?_) (fun hc4 => ?_)
              · skip
                have h42 : r2 ≠ r := by simpa using hc4
                have hyes : d1 N B r = true := by simp [d1, hro, hr2, h42]
                refine Gs.reg ?_
                refine Go.Sl.L.pu rfl rfl trivial (pu_move rfl) ?_
                refine Go.Sl.L.pu rfl rfl trivial (pu_move rfl) ?_
                refine Go.Sl.L.pu rfl rfl trivial (by first | exact pu_nil rfl | exact pu_nilF rfl) ?_
                refine Go.Sl.L.pu rfl rfl trivial (pu_fa fa_35_0 rfl) ?_
                refine Go.Sl.L.rd rfl rfl trivial (rd_ld na_22 rfl (Rdc.cl1 (by repeat constructor) rfl)) ?_
                refine Go.Sl.L.pu rfl rfl trivial (pu_move rfl) ?_
                refine Go.Sl.L.pu rfl rfl trivial (pu_ia se_22 rfl rfl (by omega) (by omega)) ?_
                refine Go.Sl.L.pu rfl rfl trivial (pu_fa fa_42_0 rfl) ?_
                refine Go.Sl.L.rd rfl rfl trivial (rd_lda ag_38 rfl (Rdc.elp 2 (SlH.own (by repeat constructor)) hr rfl rfl) rfl) ?_
                have hin : intoL K r.key = sortK (dK (d1 N B) (A.take (j + 1))) := by rw [hK, into_new (dK_new hA.nd hr), dK_t hr hyes]
                refine Go.Sl.L.ac rfl rfl trivial (as_call (into_spec ka kc K (by omega) r.key) (by repeat constructor) (by repeat constructor)) ?_
                rintro _ _ ⟨_, ⟨na, nc, rfl, rfl⟩, rfl⟩
                rw [hin]
                refine Go.Sl.L.pu rfl rfl trivial (pu_assign rfl) ?_
                refine Go.Sl.L.nil ?_
                refine Gs.blk_n ?_
                refine Gs.then_n ?_
                refine Gs.reg ?_
                refine Go.Sl.L.pu rfl rfl trivial (pu_move rfl) ?_
                refine Go.Sl.L.pu rfl rfl trivial (by first | exact pu_addI rfl rfl rfl (by omega) (by omega) | exact pu_add rfl rfl) ?_
                refine Go.Sl.L.pu rfl rfl trivial (pu_assign rfl) ?_
                refine Go.Sl.L.nil ?_
                refine Gs.then_n ?_
                first | (have hX := hyes; exact Gs.again1 (j + 1, (na, nc), sortK (dK (d1 N B) (A.take (j + 1)))) ⟨by show j + 1 ≤ A.length; omega, rfl⟩ (by show A.length - (j + 1) < A.length - j; omega) (by repeat constructor) (by repeat constructor)) | (have hX := hno; exact Gs.again1 (j + 1, (ka, kc), K) ⟨by show j + 1 ≤ A.length; omega, by show K = _; rw [hK, dK_f hr hno]⟩ (by show A.length - (j + 1) < A.length - j; omega) (by repeat constructor) (by repeat constructor))
              · skip
                have h42 : r2 = r := by simpa using hc4
                have hno : d1 N B r = false := by simp [d1, hr2, h42]
                refine Gs.skip ?_
                refine Gs.blk_n ?_
                refine Gs.then_n ?_
                refine Gs.reg ?_
                refine Go.Sl.L.pu rfl rfl trivial (pu_move rfl) ?_
                refine Go.Sl.L.pu rfl rfl trivial (by first | exact pu_addI rfl rfl rfl (by omega) (by omega) | exact pu_add rfl rfl) ?_
                refine Go.Sl.L.pu rfl rfl trivial (pu_assign rfl) ?_
                refine Go.Sl.L.nil ?_
                refine Gs.then_n ?_
                first | (have hX := hyes; exact Gs.again1 (j + 1, (na, nc), sortK (dK (d1 N B) (A.take (j + 1)))) ⟨by show j + 1 ≤ A.length; omega, rfl⟩ (by show A.length - (j + 1) < A.length - j; omega) (by repeat constructor) (by repeat constructor)) | (have hX := hno; exact Gs.again1 (j + 1, (ka, kc), K) ⟨by show j + 1 ≤ A.length; omega, by show K = _; rw [hK, dK_f hr hno]⟩ (by show A.length - (j + 1) < A.length - j; omega) (by repeat constructor) (by repeat constructor))
          · skip
            have hno : d1 N B r = false := by have : decide (r.o < (N : Int)) = false := hg11; simp only [d1, this, Bool.false_and]
            refine Rg.off 12 rfl rfl (by kernel_rfl) rfl rfl rfl rfl ?_
            refine Rg.off 13 rfl rfl (by kernel_rfl) rfl rfl rfl rfl ?_
            refine Rg.off 14 rfl rfl (by kernel_rfl) rfl rfl rfl rfl ?_
            refine Rg.offU 15 rfl rfl (by kernel_rfl) rfl rfl rfl ?_
            refine Rg.offU 16 rfl rfl (by kernel_rfl) rfl rfl rfl ?_
            refine Rg.offU 17 rfl rfl (by kernel_rfl) rfl rfl rfl ?_
            refine Rg.offU 18 rfl rfl (by kernel_rfl) rfl rfl rfl ?_
            refine Rg.offU 19 rfl rfl (by kernel_rfl) rfl rfl rfl ?_
            refine Rg.offU 20 rfl rfl (by kernel_rfl) rfl rfl rfl ?_
            refine Rg.offU 21 rfl rfl (by kernel_rfl) rfl rfl rfl ?_
            refine Rg.offU 22 rfl rfl (by kernel_rfl) rfl rfl rfl ?_
            refine Rg.offU 23 rfl rfl (by kernel_rfl) rfl rfl rfl ?_
            refine Rg.offU 24 rfl rfl (by kernel_rfl) rfl rfl rfl ?_
            refine Rg.offU 25 rfl rfl (by kernel_rfl) rfl rfl rfl ?_
            refine Rg.offU 26 rfl rfl (by kernel_rfl) rfl rfl rfl ?_
            refine Rg.offU 27 rfl rfl (by kernel_rfl) rfl rfl rfl ?_
            refine Rg.offU 28 rfl rfl (by kernel_rfl) rfl rfl rfl ?_
            refine Rg.offU 29 rfl rfl (by kernel_rfl) rfl rfl rfl ?_
            refine Rg.offU 30 rfl rfl (by kernel_rfl) rfl rfl rfl ?_
            refine Rg.off 31 rfl rfl (by kernel_rfl) rfl rfl rfl rfl ?_
            refine Rg.pu 32 rfl rfl (by kernel_rfl) trivial (by first | exact pu_pick_t rfl rfl | exact pu_pick_f rfl rfl) ?_
            refine Rg.end (by kernel_rfl) ?_
            refine Gs.then_n ?_
            refine Gs.cond_f rfl ?_
            refine Gs.skip ?_
            refine Gs.blk_n ?_
            refine Gs.then_n ?_
            refine Gs.reg ?_
            refine Go.Sl.L.pu rfl rfl trivial (pu_move rfl) ?_
            refine Go.Sl.L.pu rfl rfl trivial (by first | exact pu_addI rfl rfl rfl (by omega) (by omega) | exact pu_add rfl rfl) ?_
            refine Go.Sl.L.pu rfl rfl trivial (pu_assign rfl) ?_
            refine Go.Sl.L.nil ?_
            refine Gs.then_n ?_
            first | (have hX := hyes; exact Gs.again1 (j + 1, (na, nc), sortK (dK (d1 N B) (A.take (j + 1)))) ⟨by show j + 1 ≤ A.length; omega, rfl⟩ (by show A.length - (j + 1) < A.length - j; omega) (by repeat constructor) (by repeat constructor)) | (have hX := hno; exact Gs.again1 (j + 1, (ka, kc), K) ⟨by show j + 1 ≤ A.length; omega, by show K = _; rw [hK, dK_f hr hno]⟩ (by show A.length - (j + 1) < A.length - j; omega) (by repeat constructor) (by repeat constructor))
        · skip
          have hge : j = A.length := by have := of_decide_eq_false hc3; omega
          rw [hge, List.take_length] at hK
          refine Gs.exit ?_
          refine Gs.then_x ?_
          refine Gs.then_x ?_
          refine Gs.blk_hit ?_
          refine Gs.then_n ?_
          refine Gs.seq ?_
          refine Gs.seq ?_
          refine Gs.reg ?_
          refine Go.Sl.L.pu rfl rfl trivial (pu_assign rfl) ?_
          refine Go.Sl.L.nil ?_
          refine Gs.then_n ?_
          refine Gs.block ?_
          refine Gs.loop1 (fun s : Nat × (Option Addr × Nat) × List Key => s.1 ≤ B.length ∧ s.2.2 = sortK (dK (d1 N B) A ++ dK (d2 N A) (B.take s.1))) (fun s => [(2, int N), (8, ptr q1), (10, ptr q2), (11, .slice fa (sortK (dK (d1 N B) A ++ dK (d2 N A) B)).length fc), (12, int (askN A B N)), (13, .slice s.2.1.1 s.2.2.length s.2.1.2), (16, int s.1)]) (fun s => [ro h0, sl 38 2 keyC fa fc (sortK (dK (d1 N B) A ++ dK (d2 N A) B)), sl 38 2 keyC s.2.1.1 s.2.1.2 s.2.2, cl q1 35 (rtC a1 A c1), sl 42 5 recC a1 c1 A, cl q2 35 (rtC a2 B c2), sl 42 5 recC a2 c2 B] ++ R) (fun s => B.length - s.1) (0, (ka, kc), K) (⟨Nat.zero_le _, by show K = _; rw [hK, List.take_zero, show dK (d2 N A) [] = [] from rfl, List.append_nil]⟩) (by repeat constructor) (by repeat constructor) (fun s hs => ?_)
          obtain ⟨j, ⟨ka, kc⟩, K⟩ := s
          obtain ⟨hj, hK⟩ := hs
          dsimp only at hj hK ⊢
          have hKl : K.length ≤ 50 := by rw [hK, sortK_length, List.length_append]; have := dK_le (d1 N B) A; have := dK_le (d2 N A) (B.take j); rw [List.length_take] at this; omega
          refine Gs.seq ?_
          refine Gs.seq ?_
          refine Gs.reg ?_
          refine Go.Sl.L.pu rfl rfl trivial (pu_move rfl) ?_
          refine Go.Sl.L.pu rfl rfl trivial (pu_move rfl) ?_
          refine Go.Sl.L.pu rfl rfl trivial (by first | exact pu_nil rfl | exact pu_nilF rfl) ?_
          refine Go.Sl.L.pu rfl rfl trivial (pu_fa fa_35_0 rfl) ?_
          refine Go.Sl.L.rd rfl rfl trivial (rd_ld na_22 rfl (Rdc.cl1 (by repeat constructor) rfl)) ?_
          refine Go.Sl.L.pu rfl rfl trivial (pu_len Tryd.underlying22 rfl) ?_
          refine Go.Sl.L.pu rfl rfl trivial (pu_lt rfl rfl) ?_
          refine Go.Sl.L.nil ?_
          refine Gs.then_n ?_
          refine Gs.cond rfl (fun hc5 => ?_) (fun hc5 => ?_)
          · skip
            have hlt : j < B.length := by have := of_decide_eq_true hc5; omega
            obtain ⟨r, hr⟩ : ∃ x, B[j]? = some x := ⟨B[j], by simp [hlt]⟩
            obtain rfl := ha2 (by rintro rfl; simp at hlt)
            refine Gs.skip ?_
            refine Gs.then_n ?_
            refine Gs.seq ?_
            refine Gs.block ?_
            refine Gs.seq ?_
            refine Gs.reg ?_
            refine Go.Sl.L.pu rfl rfl trivial (pu_move rfl) ?_
            refine Go.Sl.L.pu rfl rfl trivial (by first | exact pu_nil rfl | exact pu_nilF rfl) ?_
            refine Go.Sl.L.pu rfl rfl trivial (pu_fa fa_35_0 rfl) ?_
            refine Go.Sl.L.rd rfl rfl trivial (rd_ld na_22 rfl (Rdc.cl1 (by repeat constructor) rfl)) ?_
            refine Go.Sl.L.pu rfl rfl trivial (pu_move rfl) ?_
            refine Go.Sl.L.pu rfl rfl trivial (pu_ia se_22 rfl rfl (by omega) (by omega)) ?_
            refine Go.Sl.L.pu rfl rfl trivial (pu_fa fa_42_0 rfl) ?_
            refine Go.Sl.L.pu rfl rfl trivial (pu_fa fa_38_0 rfl) ?_
            refine Go.Sl.L.rd rfl rfl trivial (rd_ld na_3 rfl (Rdc.elp 1 (SlH.own (by repeat constructor)) hr rfl rfl)) ?_
            refine Go.Sl.L.pu rfl rfl trivial (pu_move rfl) ?_
            refine Go.Sl.L.pu rfl rfl trivial (pu_lt rfl rfl) ?_
            refine Go.Sl.L.puB rfl rfl trivial (pu_move rfl) (fun hg11 => ?_) (fun hg11 => ?_)
            · skip
              have hro : r.o < N := of_decide_eq_true hg11
              refine Go.Sl.L.pu rfl rfl ⟨_, rfl, rfl⟩ (pu_move rfl) ?_
              refine Go.Sl.L.pu rfl rfl ⟨_, rfl, rfl⟩ (pu_move rfl) ?_
              refine Go.Sl.L.pu rfl rfl ⟨_, rfl, rfl⟩ (by first | exact pu_nil rfl | exact pu_nilF rfl) ?_
              refine Go.Sl.L.pu rfl rfl ⟨_, rfl, rfl⟩ (pu_fa fa_35_0 rfl) ?_
              refine Go.Sl.L.rd rfl rfl ⟨_, rfl, rfl⟩ (rd_ld na_22 rfl (Rdc.cl1 (by repeat constructor) rfl)) ?_
              refine Go.Sl.L.pu rfl rfl ⟨_, rfl, rfl⟩ (pu_move rfl) ?_
              refine Go.Sl.L.pu rfl rfl ⟨_, rfl, rfl⟩ (pu_ia se_22 rfl rfl (by omega) (by omega)) ?_
              refine Go.Sl.L.pu rfl rfl ⟨_, rfl, rfl⟩ (pu_fa fa_42_0 rfl) ?_
              refine Go.Sl.L.rd rfl rfl ⟨_, rfl, rfl⟩ (rd_lda ag_38 rfl (Rdc.elp 2 (SlH.own (by repeat constructor)) hr rfl rfl) rfl) ?_
              refine Go.Sl.L.ac rfl rfl ⟨_, rfl, rfl⟩ (as_call (find12_spec q1 a1 c1 A (by omega) r.key) (by repeat constructor) (by repeat constructor)) ?_
              rintro _ _ ⟨_, ⟨rfl, rfl⟩, rfl⟩
              refine Go.Sl.L.pu rfl rfl ⟨_, rfl, rfl⟩ (pu_lt rfl rfl) ?_
              refine Go.Sl.L.pu rfl rfl trivial (by first | exact pu_pick_t rfl rfl | exact pu_pick_f rfl rfl) ?_
              refine Go.Sl.L.nil ?_
              refine Gs.then_n ?_
              refine Gs.cond rfl (fun hc6 => ?_) (fun hc6 => ?_)
              · skip
                have hyes : d2 N A r = true := by have h := int_if_neg hc6; rw [Option.isSome_eq_false_iff, Option.isNone_iff_eq_none] at h; simp [d2, hro, h]
                refine Gs.reg ?_
                refine Go.Sl.L.pu rfl rfl trivial (pu_move rfl) ?_
                refine Go.Sl.L.pu rfl rfl trivial (pu_move rfl) ?_
                refine Go.Sl.L.pu rfl rfl trivial (by first | exact pu_nil rfl | exact pu_nilF rfl) ?_
                refine Go.Sl.L.pu rfl rfl trivial (pu_fa fa_35_0 rfl) ?_
                refine Go.Sl.L.rd rfl rfl trivial (rd_ld na_22 rfl (Rdc.cl1 (by repeat constructor) rfl)) ?_
                refine Go.Sl.L.pu rfl rfl trivial (pu_move rfl) ?_
                refine Go.Sl.L.pu rfl rfl trivial (pu_ia se_22 rfl rfl (by omega) (by omega)) ?_
                refine Go.Sl.L.pu rfl rfl trivial (pu_fa fa_42_0 rfl) ?_
                refine Go.Sl.L.rd rfl rfl trivial (rd_lda ag_38 rfl (Rdc.elp 2 (SlH.own (by repeat constructor)) hr rfl rfl) rfl) ?_
                have hin : intoL K r.key = sortK (dK (d1 N B) A ++ dK (d2 N A) (B.take (j + 1))) := by rw [hK, into_new (dK_new2 hB.nd hr hyes), dK_t hr hyes, List.append_assoc]
                refine Go.Sl.L.ac rfl rfl trivial (as_call (into_spec ka kc K (by omega) r.key) (by repeat constructor) (by repeat constructor)) ?_
                rintro _ _ ⟨_, ⟨na, nc, rfl, rfl⟩, rfl⟩
                rw [hin]
                refine Go.Sl.L.pu rfl rfl trivial (pu_assign rfl) ?_
                refine Go.Sl.L.nil ?_
                refine Gs.blk_n ?_
                refine Gs.then_n ?_
                refine Gs.reg ?_
                refine Go.Sl.L.pu rfl rfl trivial (pu_move rfl) ?_
                refine Go.Sl.L.pu rfl rfl trivial (by first | exact pu_addI rfl rfl rfl (by omega) (by omega) | exact pu_add rfl rfl) ?_
                refine Go.Sl.L.pu rfl rfl trivial (pu_assign rfl) ?_
                refine Go.Sl.L.nil ?_
                refine Gs.then_n ?_
                first | (have hX := hyes; exact Gs.again1 (j + 1, (na, nc), sortK (dK (d1 N B) A ++ dK (d2 N A) (B.take (j + 1)))) ⟨by show j + 1 ≤ B.length; omega, rfl⟩ (by show B.length - (j + 1) < B.length - j; omega) (by repeat constructor) (by repeat constructor)) | (have hX := hno; exact Gs.again1 (j + 1, (ka, kc), K) ⟨by show j + 1 ≤ B.length; omega, by show K = _; rw [hK, dK_f hr hno]⟩ (by show B.length - (j + 1) < B.length - j; omega) (by repeat constructor) (by repeat constructor))
              · skip
                have hno : d2 N A r = false := by have h := int_if_pos hc6; obtain ⟨r2, hr2⟩ := Option.isSome_iff_exists.1 h; simp [d2, hr2]
                refine Gs.skip ?_
                refine Gs.blk_n ?_
                refine Gs.then_n ?_
                refine Gs.reg ?_
                refine Go.Sl.L.pu rfl rfl trivial (pu_move rfl) ?_
                refine Go.Sl.L.pu rfl rfl trivial (by first | exact pu_addI rfl rfl rfl (by omega) (by omega) | exact pu_add rfl rfl) ?_
                refine Go.Sl.L.pu rfl rfl trivial (pu_assign rfl) ?_
                refine Go.Sl.L.nil ?_
                refine Gs.then_n ?_
                first | (have hX := hyes; exact Gs.again1 (j + 1, (na, nc), sortK (dK (d1 N B) A ++ dK (d2 N A) (B.take (j + 1)))) ⟨by show j + 1 ≤ B.length; omega, rfl⟩ (by show B.length - (j + 1) < B.length - j; omega) (by repeat constructor) (by repeat constructor)) | (have hX := hno; exact Gs.again1 (j + 1, (ka, kc), K) ⟨by show j + 1 ≤ B.length; omega, by show K = _; rw [hK, dK_f hr hno]⟩ (by show B.length - (j + 1) < B.length - j; omega) (by repeat constructor) (by repeat constructor))
            · skip
              have hno : d2 N A r = false := by have : decide (r.o < (N : Int)) = false := hg11; simp only [d2, this, Bool.false_and]
              refine Go.Sl.L.off rfl rfl rfl rfl rfl rfl ?_
              refine Go.Sl.L.off rfl rfl rfl rfl rfl rfl ?_
              refine Go.Sl.L.off rfl rfl rfl rfl rfl rfl ?_
              refine Go.Sl.L.off rfl rfl rfl rfl rfl rfl ?_
              refine Go.Sl.L.off rfl rfl rfl rfl rfl rfl ?_
              refine Go.Sl.L.off rfl rfl rfl rfl rfl rfl ?_
              refine Go.Sl.L.off rfl rfl rfl rfl rfl rfl ?_
              refine Go.Sl.L.off rfl rfl rfl rfl rfl rfl ?_
              refine Go.Sl.L.off rfl rfl rfl rfl rfl rfl ?_
              refine Go.Sl.L.off rfl rfl rfl rfl rfl rfl ?_
              refine Go.Sl.L.off rfl rfl rfl rfl rfl rfl ?_
              refine Go.Sl.L.pu rfl rfl trivial (by first | exact pu_pick_t rfl rfl | exact pu_pick_f rfl rfl) ?_
              refine Go.Sl.L.nil ?_
              refine Gs.then_n ?_
              refine Gs.cond_f rfl ?_
              refine Gs.skip ?_
              refine Gs.blk_n ?_
              refine Gs.then_n ?_
              refine Gs.reg ?_
              refine Go.Sl.L.pu rfl rfl trivial (pu_move rfl) ?_
              refine Go.Sl.L.pu rfl rfl trivial (by first | exact pu_addI rfl rfl rfl (by omega) (by omega) | exact pu_add rfl rfl) ?_
              refine Go.Sl.L.pu rfl rfl trivial (pu_assign rfl) ?_
              refine Go.Sl.L.nil ?_
              refine Gs.then_n ?_
              first | (have hX := hyes; exact Gs.again1 (j + 1, (na, nc), sortK (dK (d1 N B) A ++ dK (d2 N A) (B.take (j + 1)))) ⟨by show j + 1 ≤ B.length; omega, rfl⟩ (by show B.length - (j + 1) < B.length - j; omega) (by repeat constructor) (by repeat constructor)) | (have hX := hno; exact Gs.again1 (j + 1, (ka, kc), K) ⟨by show j + 1 ≤ B.length; omega, by show K = _; rw [hK, dK_f hr hno]⟩ (by show B.length - (j + 1) < B.length - j; omega) (by repeat constructor) (by repeat constructor))
          · skip
            have hge : j = B.length := by have := of_decide_eq_false hc5; omega
            rw [hge, List.take_length] at hK
            subst hK
            refine Gs.exit ?_
            refine Gs.then_x ?_
            refine Gs.then_x ?_
            refine Gs.blk_hit ?_
            refine Gs.then_n ?_
            refine Gs.seq ?_
            refine Gs.reg ?_
            refine Go.Sl.L.pu rfl rfl trivial (pu_move rfl) ?_
            refine Go.Sl.L.pu rfl rfl trivial (pu_move rfl) ?_
            refine Go.Sl.L.ac rfl rfl trivial (as_call (sameKeys_spec (S := sl 38 2 keyC fa fc (sortK (dK (d1 N B) A ++ dK (d2 N A) B))) (U := sl 38 2 keyC ka kc (sortK (dK (d1 N B) A ++ dK (d2 N A) B))) Srd.own Srd.own (by omega)) (by repeat constructor) (by repeat constructor)) ?_
            rintro _ _ ⟨_, ⟨rfl, rfl⟩, rfl⟩
            refine Go.Sl.L.puBt rfl rfl trivial (pu_move rfl) (decide_eq_true rfl) ?_
            refine Go.Sl.L.pu rfl rfl ⟨_, rfl, rfl⟩ (pu_move rfl) ?_
            refine Go.Sl.L.pu rfl rfl ⟨_, rfl, rfl⟩ (pu_move rfl) ?_
            refine Go.Sl.L.pu rfl rfl ⟨_, rfl, rfl⟩ (pu_ge rfl rfl) ?_
            refine Go.Sl.L.pu rfl rfl trivial (by first | exact pu_pick_t rfl rfl | exact pu_pick_f rfl rfl) ?_
            refine Go.Sl.L.puBt rfl rfl trivial (pu_move rfl) (decide_eq_true (by omega)) ?_
            refine Go.Sl.L.pu rfl rfl ⟨_, rfl, rfl⟩ (pu_move rfl) ?_
            refine Go.Sl.L.pu rfl rfl ⟨_, rfl, rfl⟩ (pu_move rfl) ?_
            refine Go.Sl.L.pu rfl rfl ⟨_, rfl, rfl⟩ (pu_len Tryd.underlying30 rfl) ?_
            refine Go.Sl.L.ac rfl rfl ⟨_, rfl, rfl⟩ (as_call (bound_spec (sortK (dK (d1 N B) A ++ dK (d2 N A) B)).length (by omega)) (by repeat constructor) (by repeat constructor)) ?_
            rintro _ _ ⟨_, ⟨rfl, rfl⟩, rfl⟩
            refine Go.Sl.L.pu rfl rfl ⟨_, rfl, rfl⟩ (pu_le rfl rfl) ?_
            refine Go.Sl.L.pu rfl rfl trivial (by first | exact pu_pick_t rfl rfl | exact pu_pick_f rfl rfl) ?_
            refine Go.Sl.L.puBt rfl rfl trivial (pu_move rfl) (decide_eq_true (by rw [sortK_length]; omega)) ?_
            refine Go.Sl.L.ac rfl rfl ⟨_, rfl, rfl⟩ (as_call (awake_spec T) (by repeat constructor) (by repeat constructor)) ?_
            rintro _ _ ⟨_, ⟨rfl, rfl⟩, rfl⟩
            refine Go.Sl.L.pu rfl rfl trivial (by first | exact pu_pick_t rfl rfl | exact pu_pick_f rfl rfl) ?_
            refine Go.Sl.L.pu rfl rfl trivial (pu_assign rfl) ?_
            refine Go.Sl.L.nil ?_
            refine Gs.then_n ?_
            refine Gs.ret ?_
            exact Gs.fin1 Tryd.results3 rfl _ (⟨rfl, rfl⟩) (by repeat constructor)
end Go.Proofs.YthlnjkfahmebjaaDoor
