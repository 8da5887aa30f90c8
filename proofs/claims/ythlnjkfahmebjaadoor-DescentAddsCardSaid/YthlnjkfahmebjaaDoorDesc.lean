/- Walks: descent.unlike, parts, Step, and slices.IndexFunc, DeleteFunc at ranges. -/
import Derived.Test.YthlnjkfahmebjaaDoorTree3
import Derived.Test.YthlnjkfahmebjaaDoorClear
namespace Go.Proofs.YthlnjkfahmebjaaDoor
open Go Go.Sl Go.Gv Go.Kv
set_option maxRecDepth 100000
/-- A part of the heap in which a tree has these records. -/
structure TrR (S : HProp) (a : Nat) (A : List Rec) : Prop where
  sum : ∀ o l i, Ct Tryd.prog 37 [ptr a, int o, int l, int i] [S] (fun v hs => v = .tuple #[.int .u64 (sumT A o l i), .bool (thereB o l i)] ∧ hs = [S])
  get : ∀ k, Ct Tryd.prog 25 [ptr a, keyV k] [S] (fun v hs => v = .tuple #[recV ((lookR A k).getD Rec.zero), .bool (lookR A k).isSome] ∧ hs = [S])
theorem TrR.own (a : Nat) (A : List Rec) : TrR (tre a A) a A := ⟨treeSum_spec a A, treeGet_spec a A⟩
theorem TrR.left {S B : HProp} {a : Nat} {A : List Rec} (h : TrR S a A) : TrR (two S B) a A := ⟨fun o l i => (h.sum o l i).left, fun k => (h.get k).left⟩
theorem TrR.right {S B : HProp} {a : Nat} {A : List Rec} (h : TrR S a A) : TrR (two B S) a A := ⟨fun o l i => (h.sum o l i).right, fun k => (h.get k).right⟩
def unl (A B : List Rec) (p : Part) : Bool := decide (sumT A p.o p.l p.i ≠ sumT B p.o p.l p.i)
def partsOf (p : Part) : List Part := (List.range 4).map fun k : Nat => ⟨p.o, p.l + 1, 4 * p.i + k⟩
def partsK (p : Part) (j : Nat) : List Part := (List.range j).map fun k : Nat => ⟨p.o, p.l + 1, 4 * p.i + k⟩
theorem partsK_succ (p : Part) (j : Nat) : partsK p (j + 1) = partsK p j ++ [⟨p.o, p.l + 1, 4 * p.i + j⟩] := by simp [partsK, List.range_succ]
theorem partsK_length (p : Part) (j : Nat) : (partsK p j).length = j := by simp [partsK]
def stepP (A B : List Rec) (p : Part) : List Part := if p.l < 5 ∧ unl A B p = true then (partsOf p).filter (unl A B) else []
abbrev encC_49 : Part → List Value := partC
theorem ek_49 : EncOk 3 partC := ⟨fun _ => rfl, fun x v hv => by
  simp only [partC, List.mem_cons, List.not_mem_nil, or_false] at hv
  rcases hv with rfl | rfl | rfl <;> rfl⟩
theorem unl_there {A B : List Rec} {p : Part} (h : unl A B p = true) : thereB p.o p.l p.i = true := by
  have := of_decide_eq_true h
  cases ht : thereB p.o p.l p.i with
  | true => rfl
  | false => simp [sumT, ht] at this
theorem unlike_spec {S : HProp} {a b : Nat} {A B : List Rec} (hA : TrR S a A) (hB : TrR S b B) (p : Part) : Ct Tryd.prog 29 [ptr a, ptr b, partV p] [S] (fun v hs => v = .bool (unl A B p) ∧ hs = [S]) := by
  refine Ct.intro Tryd.func29 rfl (by kernel_rfl) 36 Tryd.ntmps29 (Nat.le_of_ble_eq_true rfl) fun w0 R => ?_
  refine Gs.seq ?_
  refine Gs.reg ?_
  refine Go.Sl.L.ac rfl rfl trivial (ac_box rfl rfl) ?_
  rintro _ _ ⟨pb, rfl, rfl⟩
  refine Go.Sl.L.pu rfl rfl trivial (pu_assign rfl) ?_
  refine Go.Sl.L.nil ?_
  refine Gs.then_n ?_
  refine Gs.seq ?_
  refine Gs.reg ?_
  refine Go.Sl.L.pu rfl rfl trivial (pu_move rfl) ?_
  refine Go.Sl.L.pu rfl rfl trivial (pu_fa fa_49_0 rfl) ?_
  refine Go.Sl.L.rd rfl rfl trivial (rd_ld na_3 rfl (Rdc.cl1 (by repeat constructor) rfl)) ?_
  refine Go.Sl.L.pu rfl rfl trivial (pu_fa fa_49_1 rfl) ?_
  refine Go.Sl.L.rd rfl rfl trivial (rd_ld na_3 rfl (Rdc.cl1 (by repeat constructor) rfl)) ?_
  refine Go.Sl.L.pu rfl rfl trivial (pu_fa fa_49_2 rfl) ?_
  refine Go.Sl.L.rd rfl rfl trivial (rd_ld na_3 rfl (Rdc.cl1 (by repeat constructor) rfl)) ?_
  refine Go.Sl.L.ac rfl rfl trivial (as_call (hA.sum p.o p.l p.i) (by repeat constructor) (by repeat constructor)) ?_
  rintro _ _ ⟨_, ⟨rfl, rfl⟩, rfl⟩
  refine Go.Sl.L.pu rfl rfl trivial (pu_move rfl) ?_
  refine Go.Sl.L.pu rfl rfl trivial (pu_extract rfl rfl) ?_
  refine Go.Sl.L.pu rfl rfl trivial (pu_extract rfl rfl) ?_
  refine Go.Sl.L.pu rfl rfl trivial (pu_assign rfl) ?_
  refine Go.Sl.L.pu rfl rfl trivial (pu_assign rfl) ?_
  refine Go.Sl.L.nil ?_
  refine Gs.then_n ?_
  refine Gs.seq ?_
  refine Gs.reg ?_
  refine Go.Sl.L.pu rfl rfl trivial (pu_move rfl) ?_
  refine Go.Sl.L.pu rfl rfl trivial (pu_fa fa_49_0 rfl) ?_
  refine Go.Sl.L.rd rfl rfl trivial (rd_ld na_3 rfl (Rdc.cl1 (by repeat constructor) rfl)) ?_
  refine Go.Sl.L.pu rfl rfl trivial (pu_fa fa_49_1 rfl) ?_
  refine Go.Sl.L.rd rfl rfl trivial (rd_ld na_3 rfl (Rdc.cl1 (by repeat constructor) rfl)) ?_
  refine Go.Sl.L.pu rfl rfl trivial (pu_fa fa_49_2 rfl) ?_
  refine Go.Sl.L.rd rfl rfl trivial (rd_ld na_3 rfl (Rdc.cl1 (by repeat constructor) rfl)) ?_
  refine Go.Sl.L.ac rfl rfl trivial (as_call (hB.sum p.o p.l p.i) (by repeat constructor) (by repeat constructor)) ?_
  rintro _ _ ⟨_, ⟨rfl, rfl⟩, rfl⟩
  refine Go.Sl.L.pu rfl rfl trivial (pu_move rfl) ?_
  refine Go.Sl.L.pu rfl rfl trivial (pu_extract rfl rfl) ?_
  refine Go.Sl.L.pu rfl rfl trivial (pu_extract rfl rfl) ?_
  refine Go.Sl.L.pu rfl rfl trivial (pu_assign rfl) ?_
  refine Go.Sl.L.pu rfl rfl trivial (pu_assign rfl) ?_
  refine Go.Sl.L.nil ?_
  refine Gs.then_n ?_
  refine Gs.seq ?_
  refine Gs.reg ?_
  refine Go.Sl.L.pu rfl rfl trivial (pu_move rfl) ?_
  refine Go.Sl.L.pu rfl rfl trivial (pu_move rfl) ?_
  refine Go.Sl.L.pu rfl rfl trivial (pu_ne rfl rfl) ?_
  refine Go.Sl.L.pu rfl rfl trivial (pu_assign rfl) ?_
  refine Go.Sl.L.nil ?_
  refine Gs.then_n ?_
  refine Gs.ret ?_
  exact Gs.fin1 Tryd.results29 rfl _ (⟨rfl, rfl⟩) (by repeat constructor)
theorem parts_spec (p : Part) (h1 : -1000000 ≤ p.l ∧ p.l ≤ 1000000) (h2 : -1000000 ≤ p.i ∧ p.i ≤ 1000000) : Ct Tryd.prog 39 [partV p] [] (fun v hs => ∃ a c, v = .slice a (partsOf p).length c ∧ hs = [sl 49 3 partC a c (partsOf p)]) := by
  refine Ct.intro Tryd.func39 rfl (by kernel_rfl) 24 Tryd.ntmps39 (Nat.le_of_ble_eq_true rfl) fun w0 R => ?_
  refine Gs.seq ?_
  refine Gs.reg ?_
  refine Go.Sl.L.ac rfl rfl trivial (ac_box rfl rfl) ?_
  rintro _ _ ⟨pb, rfl, rfl⟩
  refine Go.Sl.L.pu rfl rfl trivial (pu_assign rfl) ?_
  refine Go.Sl.L.nil ?_
  refine Gs.then_n ?_
  refine Gs.seq ?_
  refine Gs.reg ?_
  refine Go.Sl.L.pu rfl rfl trivial (pu_assign rfl) ?_
  refine Go.Sl.L.nil ?_
  refine Gs.slNil 49 3 partC ?_
  refine Gs.then_n ?_
  refine Gs.seq ?_
  refine Gs.seq ?_
  refine Gs.reg ?_
  refine Go.Sl.L.pu rfl rfl trivial (pu_move rfl) ?_
  refine Go.Sl.L.nil ?_
  refine Gs.then_n ?_
  refine Gs.block ?_
  refine Gs.loop1 (fun s : Nat × Option Addr × Nat => s.1 ≤ 4) (fun s => [(1, ptr pb), (3, .slice s.2.1 (partsK p s.1).length s.2.2), (5, int s.1)]) (fun s => [sl 49 3 partC s.2.1 s.2.2 (partsK p s.1), cl pb 49 (partC p)] ++ R) (fun s => 4 - s.1) (0, none, 0) (Nat.zero_le _) (by repeat constructor) (by repeat constructor) (fun s hs => ?_)
  obtain ⟨j, ba, bc⟩ := s
  dsimp only at hs ⊢
  have hll := partsK_length p j
  refine Gs.seq ?_
  refine Gs.reg ?_
  refine Go.Sl.L.pu rfl rfl trivial (pu_lt rfl rfl) ?_
  refine Go.Sl.L.nil ?_
  refine Gs.then_n ?_
  refine Gs.seq ?_
  refine Gs.cond rfl (fun hc0 => ?_) (fun hc0 => ?_)
  · skip
    have hlt : j < 4 := by have := of_decide_eq_true hc0; omega
    refine Gs.skip ?_
    refine Gs.then_n ?_
    refine Gs.seq ?_
    refine Gs.block ?_
    refine Gs.seq ?_
    refine Gs.reg ?_
    refine Go.Sl.L.pu rfl rfl trivial (pu_move rfl) ?_
    refine Go.Sl.L.pu rfl rfl trivial (pu_assign rfl) ?_
    refine Go.Sl.L.nil ?_
    refine Gs.then_n ?_
    refine Gs.reg ?_
    refine Go.Sl.L.pu rfl rfl trivial (pu_move rfl) ?_
    refine Go.Sl.L.pu rfl rfl trivial (pu_fa fa_49_0 rfl) ?_
    refine Go.Sl.L.rd rfl rfl trivial (rd_ld na_3 rfl (Rdc.cl1 (by repeat constructor) rfl)) ?_
    refine Go.Sl.L.pu rfl rfl trivial (pu_fa fa_49_1 rfl) ?_
    refine Go.Sl.L.rd rfl rfl trivial (rd_ld na_3 rfl (Rdc.cl1 (by repeat constructor) rfl)) ?_
    refine Go.Sl.L.pu rfl rfl trivial (by first | exact pu_addI rfl rfl rfl (by omega) (by omega) | exact pu_add rfl rfl) ?_
    refine Go.Sl.L.pu rfl rfl trivial (pu_fa fa_49_2 rfl) ?_
    refine Go.Sl.L.rd rfl rfl trivial (rd_ld na_3 rfl (Rdc.cl1 (by repeat constructor) rfl)) ?_
    refine Go.Sl.L.pu rfl rfl trivial (by first | exact pu_mulI rfl rfl rfl (by omega) (by omega) | exact pu_mul rfl rfl) ?_
    refine Go.Sl.L.pu rfl rfl trivial (pu_move rfl) ?_
    refine Go.Sl.L.pu rfl rfl trivial (by first | exact pu_addI rfl rfl rfl (by omega) (by omega) | exact pu_add rfl rfl) ?_
    refine Go.Sl.L.pu rfl rfl trivial (pu_build bd_49 (by repeat constructor) rfl) ?_
    refine Go.Sl.L.ac rfl rfl trivial (ac_lit encC_49 ([⟨p.o, p.l + 1, 4 * p.i + (j : Int)⟩]) et_50 ek_49 rfl (by repeat constructor) rfl rfl (by decide)) ?_
    rintro _ _ ⟨a20, rfl, rfl⟩
    refine Go.Sl.L.ac rfl rfl trivial (ac_append et_50 ek_49 rfl rfl (by repeat constructor) (SrcH.sl Tryd.underlying50 ek_49 (SlH.own (by repeat constructor))) (by first | omega | (simp; omega)) (by first | omega | (simp; omega))) ?_
    rintro _ _ ⟨a21, c21, rfl, rfl⟩
    refine Go.Sl.L.pu rfl rfl trivial (pu_assign rfl) ?_
    refine Go.Sl.L.nil ?_
    rw [← partsK_succ]
    refine Gs.blk_n ?_
    refine Gs.then_n ?_
    refine Gs.reg ?_
    refine Go.Sl.L.pu rfl rfl trivial (by first | exact pu_addI rfl rfl rfl (by omega) (by omega) | exact pu_add rfl rfl) ?_
    refine Go.Sl.L.pu rfl rfl trivial (pu_move rfl) ?_
    refine Go.Sl.L.nil ?_
    refine Gs.then_n ?_
    exact Gs.again1 (j + 1, a21, c21) (by show j + 1 ≤ 4; omega) (by show 4 - (j + 1) < 4 - j; omega) (by repeat constructor) (by repeat constructor)
  · skip
    have hge : j = 4 := by have := of_decide_eq_false hc0; omega
    subst hge
    refine Gs.exit ?_
    refine Gs.then_x ?_
    refine Gs.then_x ?_
    refine Gs.blk_hit ?_
    refine Gs.then_n ?_
    refine Gs.seq ?_
    refine Gs.reg ?_
    refine Go.Sl.L.pu rfl rfl trivial (pu_move rfl) ?_
    refine Go.Sl.L.pu rfl rfl trivial (pu_assign rfl) ?_
    refine Go.Sl.L.nil ?_
    refine Gs.then_n ?_
    refine Gs.ret ?_
    exact Gs.fin1 Tryd.results39 rfl _ (⟨_, _, rfl, rfl⟩) (by repeat constructor)
theorem step1_spec {S : HProp} {a b pa pb : Nat} {A B : List Rec} (hA : TrR S a A) (hB : TrR S b B) (p : Part) :
    Ct Tryd.prog 40 ([] ++ [partV p] ++ [ptr pa, ptr pb]) [two (cl pa 25 [ptr a]) (two (cl pb 25 [ptr b]) S)] (fun v hs => v = .bool (!unl A B p) ∧ hs = [two (cl pa 25 [ptr a]) (two (cl pb 25 [ptr b]) S)]) := by
  refine Ct.intro Tryd.func40 rfl (by kernel_rfl) 10 Tryd.ntmps40 (Nat.le_of_ble_eq_true rfl) fun w0 R => ?_
  refine Gs.two (Gs.take (.tl .hd) (Gs.two ?_))
  refine Gs.seq ?_
  refine Gs.reg ?_
  refine Go.Sl.L.ac rfl rfl trivial (ac_box rfl rfl) ?_
  rintro _ _ ⟨b3, rfl, rfl⟩
  refine Go.Sl.L.pu rfl rfl trivial (pu_assign rfl) ?_
  refine Go.Sl.L.nil ?_
  refine Gs.then_n ?_
  refine Gs.seq ?_
  refine Gs.reg ?_
  refine Go.Sl.L.rd rfl rfl trivial (rd_ld na_25 rfl (Rdc.cl1 (by repeat constructor) rfl)) ?_
  refine Go.Sl.L.rd rfl rfl trivial (rd_ld na_25 rfl (Rdc.cl1 (by repeat constructor) rfl)) ?_
  refine Go.Sl.L.rd rfl rfl trivial (rd_lda ag_49 rfl (Rdc.cl 3 (by repeat constructor) rfl) rfl) ?_
  refine Go.Sl.L.ac rfl rfl trivial (as_call (unlike_spec hA hB p) (by repeat constructor) (by repeat constructor)) ?_
  rintro _ _ ⟨_, ⟨rfl, rfl⟩, rfl⟩
  refine Go.Sl.L.pu rfl rfl trivial (pu_not rfl) ?_
  refine Go.Sl.L.pu rfl rfl trivial (pu_assign rfl) ?_
  refine Go.Sl.L.nil ?_
  refine Gs.then_n ?_
  refine Gs.ret ?_
  refine Gs.takes (As := [cl pb 25 [ptr b], S, cl pa 25 [ptr a]]) (by repeat constructor) (Gs.toTwo (Gs.take (.tl .hd) (Gs.toTwo ?_)))
  exact Gs.fin1 Tryd.results40 rfl _ (⟨rfl, rfl⟩) (by repeat constructor)
theorem indexF_spec {F : HProp} {g : FuncId} {c1 c2 : Value} {q : Part → Bool} {a : Option Addr} {c : Nat} {xs : List Part} (hg : ∀ p, Ct Tryd.prog g ([] ++ [partV p] ++ [c1, c2]) [F] (fun v hs => v = .bool (q p) ∧ hs = [F])) (hl : xs.length ≤ 100000) :
    Ct Tryd.prog 55 [.slice a xs.length c, .func (.func g) #[] #[c1, c2]] [sl 49 3 partC a c xs, F] (fun v hs => (∃ z : Int, v = int z ∧ ((z = -1 ∧ ∀ x ∈ xs, q x = false) ∨ (∃ i : Nat, z = i ∧ (∃ x, xs[i]? = some x ∧ q x = true) ∧ ∀ x ∈ xs.take i, q x = false))) ∧ hs = [sl 49 3 partC a c xs, F]) := by
  refine Ct.intro Tryd.func55 rfl (by kernel_rfl) 19 Tryd.ntmps55 (Nat.le_of_ble_eq_true rfl) fun w0 R => ?_
  refine Gs.slAddr (SlH.own (by repeat constructor)) fun ab ao ha => ?_
  refine Gs.seq ?_
  refine Gs.reg ?_
  refine Go.Sl.L.pu rfl rfl trivial (pu_assign rfl) ?_
  refine Go.Sl.L.nil ?_
  refine Gs.then_n ?_
  refine Gs.seq ?_
  refine Gs.seq ?_
  refine Gs.reg ?_
  refine Go.Sl.L.pu rfl rfl trivial (pu_move rfl) ?_
  refine Go.Sl.L.pu rfl rfl trivial (pu_len Tryd.underlying50 rfl) ?_
  refine Go.Sl.L.pu rfl rfl trivial (pu_move rfl) ?_
  refine Go.Sl.L.nil ?_
  refine Gs.then_n ?_
  refine Gs.block ?_
  refine Gs.loop1 (fun i : Nat => i ≤ xs.length ∧ ∀ x ∈ xs.take i, q x = false) (fun i => [(0, .slice a xs.length c), (1, .func (.func g) #[] #[c1, c2]), (7, int xs.length), (8, int i)]) (fun i => [sl 49 3 partC a c xs, F] ++ R) (fun i => xs.length - i) 0 (⟨Nat.zero_le _, fun x hx => by simp at hx⟩) (by repeat constructor) (by repeat constructor) (fun i ⟨hi, hq⟩ => ?_)
  refine Gs.seq ?_
  refine Gs.reg ?_
  refine Go.Sl.L.pu rfl rfl trivial (pu_lt rfl rfl) ?_
  refine Go.Sl.L.nil ?_
  refine Gs.then_n ?_
  refine Gs.seq ?_
  refine Gs.cond rfl (fun hc0 => ?_) (fun hc0 => ?_)
  · skip
    have hlt : i < xs.length := by have := of_decide_eq_true hc0; omega
    obtain ⟨x, hx⟩ : ∃ x, xs[i]? = some x := ⟨xs[i], by simp [hlt]⟩
    obtain rfl := ha (by rintro rfl; simp at hlt)
    refine Gs.skip ?_
    refine Gs.then_n ?_
    refine Gs.seq ?_
    refine Gs.block ?_
    refine Gs.seq ?_
    refine Gs.reg ?_
    refine Go.Sl.L.pu rfl rfl trivial (pu_move rfl) ?_
    refine Go.Sl.L.pu rfl rfl trivial (pu_assign rfl) ?_
    refine Go.Sl.L.nil ?_
    refine Gs.then_n ?_
    refine Gs.seq ?_
    refine Gs.reg ?_
    refine Go.Sl.L.pu rfl rfl trivial (pu_move rfl) ?_
    refine Go.Sl.L.pu rfl rfl trivial (pu_move rfl) ?_
    refine Go.Sl.L.pu rfl rfl trivial (pu_move rfl) ?_
    refine Go.Sl.L.pu rfl rfl trivial (pu_ia se_50 rfl rfl (by omega) (by omega)) ?_
    refine Go.Sl.L.rd rfl rfl trivial (rd_lda ag_49 rfl (Rdc.el0 (SlH.own (by repeat constructor)) hx rfl rfl) rfl) ?_
    refine Go.Sl.L.ac rfl rfl trivial (as_callV rfl (hg x) (by repeat constructor) (by repeat constructor)) ?_
    rintro _ _ ⟨_, ⟨rfl, rfl⟩, rfl⟩
    refine Go.Sl.L.nil ?_
    refine Gs.then_n ?_
    refine Gs.cond rfl (fun hc1 => ?_) (fun hc1 => ?_)
    · skip
      refine Gs.seq ?_
      refine Gs.reg ?_
      refine Go.Sl.L.pu rfl rfl trivial (pu_move rfl) ?_
      refine Go.Sl.L.pu rfl rfl trivial (pu_assign rfl) ?_
      refine Go.Sl.L.nil ?_
      refine Gs.then_n ?_
      refine Gs.ret ?_
      refine Gs.blk_r ?_
      refine Gs.then_r ?_
      refine Gs.then_r ?_
      refine Gs.blk_r ?_
      refine Gs.then_r ?_
      exact Gs.fin1 Tryd.results55 rfl _ (⟨⟨_, rfl, .inr ⟨i, rfl, ⟨x, hx, hc1⟩, hq⟩⟩, rfl⟩) (by repeat constructor)
    · skip
      refine Gs.skip ?_
      refine Gs.blk_n ?_
      refine Gs.then_n ?_
      refine Gs.reg ?_
      refine Go.Sl.L.pu rfl rfl trivial (by first | exact pu_addI rfl rfl rfl (by omega) (by omega) | exact pu_add rfl rfl) ?_
      refine Go.Sl.L.pu rfl rfl trivial (pu_move rfl) ?_
      refine Go.Sl.L.nil ?_
      refine Gs.then_n ?_
      exact Gs.again1 (i + 1) ⟨hlt, fun y hy => by rw [List.take_add_one, hx] at hy; rcases List.mem_append.1 hy with hy | hy; exact hq y hy; simp at hy; subst hy; exact hc1⟩ (by show xs.length - (i + 1) < xs.length - i; omega) (by repeat constructor) (by repeat constructor)
  · skip
    have hge : i = xs.length := by have := of_decide_eq_false hc0; omega
    rw [hge, List.take_length] at hq
    refine Gs.exit ?_
    refine Gs.then_x ?_
    refine Gs.then_x ?_
    refine Gs.blk_hit ?_
    refine Gs.then_n ?_
    refine Gs.seq ?_
    refine Gs.reg ?_
    refine Go.Sl.L.pu rfl rfl trivial (pu_assign rfl) ?_
    refine Go.Sl.L.nil ?_
    refine Gs.then_n ?_
    refine Gs.ret ?_
    exact Gs.fin1 Tryd.results55 rfl _ (⟨⟨_, rfl, .inl ⟨rfl, hq⟩⟩, rfl⟩) (by repeat constructor)
theorem suba_0 {b o c sz : Nat} : suba (some ⟨b, o, none⟩) 0 c sz = some ⟨b, o, none⟩ := by
  unfold suba; split
  · rfl
  · simp [Addr.add]
theorem del_keep {α : Type} {ys : List α} {m : Nat} {x : α} (h : m < ys.length) : (ys.set m x).take (m + 1) = ys.take m ++ [x] := by
  rw [List.take_add_one, List.getElem?_set_self h, List.take_set_of_le (Nat.le_refl _)]; rfl
theorem deleteF_spec {F : HProp} {g : FuncId} {c1 c2 : Value} {q : Part → Bool} {a : Option Addr} {c : Nat} {xs : List Part} (hg : ∀ p, Ct Tryd.prog g ([] ++ [partV p] ++ [c1, c2]) [F] (fun v hs => v = .bool (q p) ∧ hs = [F])) (hl : xs.length ≤ 100000) :
    Ct Tryd.prog 38 [.slice a xs.length c, .func (.func g) #[] #[c1, c2]] [sl 49 3 partC a c xs, F]
      (fun v hs => v = .slice a (xs.filter fun x => !q x).length c ∧ hs = [sl 49 3 partC a c (xs.filter fun x => !q x), F]) := by
  refine Ct.intro Tryd.func38 rfl (by kernel_rfl) 42 Tryd.ntmps38 (Nat.le_of_ble_eq_true rfl) fun w0 R => ?_
  refine Gs.slAddr (SlH.own (by repeat constructor)) fun ab ao ha => Gs.slLen (by repeat constructor) fun hlc => ?_
  refine Gs.seq ?_
  refine Gs.reg ?_
  refine Go.Sl.L.pu rfl rfl trivial (pu_assign rfl) ?_
  refine Go.Sl.L.nil ?_
  refine Gs.then_n ?_
  refine Gs.seq ?_
  refine Gs.reg ?_
  refine Go.Sl.L.pu rfl rfl trivial (pu_move rfl) ?_
  refine Go.Sl.L.pu rfl rfl trivial (pu_move rfl) ?_
  refine Go.Sl.L.ac rfl rfl trivial (as_call (indexF_spec (q := q) hg hl) (by repeat constructor) (by repeat constructor)) ?_
  rintro _ _ ⟨_, ⟨⟨z, rfl, hz⟩, rfl⟩, rfl⟩
  refine Go.Sl.L.pu rfl rfl trivial (pu_assign rfl) ?_
  refine Go.Sl.L.nil ?_
  refine Gs.then_n ?_
  refine Gs.seq ?_
  refine Gs.seq ?_
  refine Gs.reg ?_
  refine Go.Sl.L.pu rfl rfl trivial (pu_move rfl) ?_
  refine Go.Sl.L.pu rfl rfl trivial (pu_eq rfl rfl) ?_
  refine Go.Sl.L.nil ?_
  refine Gs.then_n ?_
  refine Gs.cond rfl (fun hc0 => ?_) (fun hc0 => ?_)
  · skip
    have hall : xs.filter (fun x => !q x) = xs := List.filter_eq_self.2 fun x hx => by rcases hz with ⟨-, h⟩ | ⟨i, rfl, -⟩ <;> first | (rw [h x hx]; rfl) | (have := of_decide_eq_true hc0; omega)
    refine Gs.seq ?_
    refine Gs.reg ?_
    refine Go.Sl.L.pu rfl rfl trivial (pu_move rfl) ?_
    refine Go.Sl.L.pu rfl rfl trivial (pu_assign rfl) ?_
    refine Go.Sl.L.nil ?_
    refine Gs.then_n ?_
    refine Gs.ret ?_
    refine Gs.then_r ?_
    exact Gs.fin1 Tryd.results38 rfl _ (⟨by rw [hall], by rw [hall]⟩) (by repeat constructor)
  · skip
    obtain ⟨i0, rfl, ⟨x0, hx0, hq0⟩, hz2⟩ : ∃ i : Nat, z = i ∧ (∃ x, xs[i]? = some x ∧ q x = true) ∧ ∀ x ∈ xs.take i, q x = false := by rcases hz with ⟨h, -⟩ | h <;> first | exact h | (exact absurd h (of_decide_eq_false hc0))
    have hi0 : i0 < xs.length := (List.getElem?_eq_some_iff.1 hx0).1
    obtain rfl := ha (by rintro rfl; simp at hi0)
    have hst : xs.take i0 = (xs.take (i0 + 1)).filter (fun x => !q x) := by rw [List.take_add_one, hx0, List.filter_append, List.filter_eq_self.2 (fun x hx => by rw [hz2 x hx]; rfl)]; simp [hq0]
    refine Gs.skip ?_
    refine Gs.then_n ?_
    refine Gs.seq ?_
    refine Gs.seq ?_
    refine Gs.reg ?_
    refine Go.Sl.L.pu rfl rfl trivial (pu_move rfl) ?_
    refine Go.Sl.L.pu rfl rfl trivial (by first | exact pu_addI rfl rfl rfl (by omega) (by omega) | exact pu_add rfl rfl) ?_
    refine Go.Sl.L.pu rfl rfl trivial (pu_assign rfl) ?_
    refine Go.Sl.L.nil ?_
    refine Gs.then_n ?_
    refine Gs.block ?_
    refine Gs.loop1 (fun s : Nat × Nat × List Part => s.1 ≤ xs.length ∧ s.2.1 ≤ s.1 ∧ s.2.2.length = xs.length ∧ s.2.2.take s.2.1 = (xs.take s.1).filter (fun x => !q x) ∧ s.2.2.drop s.1 = xs.drop s.1) (fun s => [(0, .slice (some ⟨ab, ao, none⟩) xs.length c), (1, .func (.func g) #[] #[c1, c2]), (5, int s.2.1), (6, int s.1)]) (fun s => [sl 49 3 partC (some ⟨ab, ao, none⟩) c s.2.2, F] ++ R) (fun s => xs.length - s.1) (i0 + 1, i0, xs) (⟨hi0, Nat.le_succ _, rfl, hst, rfl⟩) (by repeat constructor) (by repeat constructor) (fun s hs => ?_)
    obtain ⟨j, m, ys⟩ := s
    obtain ⟨hj, hm, hyl, hyt, hyd⟩ := hs
    dsimp only at hj hm hyl hyt hyd ⊢
    refine Gs.seq ?_
    refine Gs.seq ?_
    refine Gs.reg ?_
    refine Go.Sl.L.pu rfl rfl trivial (pu_move rfl) ?_
    refine Go.Sl.L.pu rfl rfl trivial (pu_move rfl) ?_
    refine Go.Sl.L.pu rfl rfl trivial (pu_len Tryd.underlying50 rfl) ?_
    refine Go.Sl.L.pu rfl rfl trivial (pu_lt rfl rfl) ?_
    refine Go.Sl.L.nil ?_
    refine Gs.then_n ?_
    refine Gs.cond rfl (fun hc1 => ?_) (fun hc1 => ?_)
    · skip
      have hlt : j < xs.length := by have := of_decide_eq_true hc1; omega
      obtain ⟨x, hx⟩ : ∃ x, xs[j]? = some x := ⟨xs[j], by simp [hlt]⟩
      have hxy : ys[j]? = some x := by have := congrArg (·[0]?) hyd; simp only [List.getElem?_drop, Nat.add_zero] at this; rw [this]; exact hx
      refine Gs.skip ?_
      refine Gs.then_n ?_
      refine Gs.seq ?_
      refine Gs.block ?_
      refine Gs.seq ?_
      refine Gs.reg ?_
      refine Go.Sl.L.pu rfl rfl trivial (pu_move rfl) ?_
      refine Go.Sl.L.pu rfl rfl trivial (pu_move rfl) ?_
      refine Go.Sl.L.pu rfl rfl trivial (pu_ia se_50 rfl rfl (by omega) (by omega)) ?_
      refine Go.Sl.L.rd rfl rfl trivial (rd_lda ag_49 rfl (Rdc.el0 (SlH.own (by repeat constructor)) hxy rfl rfl) rfl) ?_
      refine Go.Sl.L.ac rfl rfl trivial (ac_alloc zv_49 rfl) ?_
      rintro _ _ ⟨xb, rfl, rfl⟩
      refine Go.Sl.L.ac0 rfl trivial (ac_st sz_49 rfl rfl (by repeat constructor) rfl rfl rfl rfl) ?_
      rintro _ _ rfl
      refine Go.Sl.L.nil ?_
      refine Gs.then_n ?_
      refine Gs.seq ?_
      refine Gs.reg ?_
      refine Go.Sl.L.pu rfl rfl trivial (pu_move rfl) ?_
      refine Go.Sl.L.rd rfl rfl trivial (rd_lda ag_49 rfl (Rdc.cl 3 (by repeat constructor) rfl) rfl) ?_
      refine Go.Sl.L.ac rfl rfl trivial (as_callV rfl (hg x) (by repeat constructor) (by repeat constructor)) ?_
      rintro _ _ ⟨_, ⟨rfl, rfl⟩, rfl⟩
      refine Go.Sl.L.pu rfl rfl trivial (pu_not rfl) ?_
      refine Go.Sl.L.nil ?_
      refine Gs.then_n ?_
      refine Gs.cond rfl (fun hc2 => ?_) (fun hc2 => ?_)
      · skip
        have hX : q x = false := by simpa using hc2
        have k1 : (ys.set m x).length = xs.length := by rw [List.length_set]; exact hyl
        have k2 : (ys.set m x).take (m + 1) = (xs.take (j + 1)).filter (fun x => !q x) := by rw [del_keep (by omega), hyt, List.take_add_one, hx, List.filter_append]; simp [hX]
        have k3 : (ys.set m x).drop (j + 1) = xs.drop (j + 1) := by rw [List.drop_set_of_lt (by omega), ← List.drop_drop, hyd, List.drop_drop]
        refine Gs.seq ?_
        refine Gs.reg ?_
        refine Go.Sl.L.pu rfl rfl trivial (pu_move rfl) ?_
        refine Go.Sl.L.pu rfl rfl trivial (pu_move rfl) ?_
        refine Go.Sl.L.rd rfl rfl trivial (rd_lda ag_49 rfl (Rdc.cl 3 (by repeat constructor) rfl) rfl) ?_
        refine Go.Sl.L.pu rfl rfl trivial (pu_ia se_50 rfl rfl (by omega) (by omega)) ?_
        refine Go.Sl.L.ac0 rfl trivial (ac_stE (enc := partC) (xs := ys) (i := m) (x0 := ys[m]'(by omega)) (y0 := x) (vs := partC x) (fo := 0) sz_49 ek_49 rfl rfl (by repeat constructor) rfl rfl rfl (by simp) rfl rfl) ?_
        rintro _ _ rfl
        refine Go.Sl.L.nil ?_
        refine Gs.then_n ?_
        refine Gs.reg ?_
        refine Go.Sl.L.pu rfl rfl trivial (pu_move rfl) ?_
        refine Go.Sl.L.pu rfl rfl trivial (by first | exact pu_addI rfl rfl rfl (by omega) (by omega) | exact pu_add rfl rfl) ?_
        refine Go.Sl.L.pu rfl rfl trivial (pu_assign rfl) ?_
        refine Go.Sl.L.nil ?_
        refine Gs.blk_n ?_
        refine Gs.then_n ?_
        refine Gs.reg ?_
        refine Go.Sl.L.pu rfl rfl trivial (pu_move rfl) ?_
        refine Go.Sl.L.pu rfl rfl trivial (by first | exact pu_addI rfl rfl rfl (by omega) (by omega) | exact pu_add rfl rfl) ?_
        refine Go.Sl.L.pu rfl rfl trivial (pu_assign rfl) ?_
        refine Go.Sl.L.nil ?_
        refine Gs.then_n ?_
        first | exact Gs.again1 (j + 1, m + 1, ys.set m x) ⟨by show j + 1 ≤ xs.length; omega, by show m + 1 ≤ j + 1; omega, k1, k2, k3⟩ (by show xs.length - (j + 1) < xs.length - j; omega) (by repeat constructor) (by repeat constructor) | exact Gs.again1 (j + 1, m, ys) ⟨by show j + 1 ≤ xs.length; omega, by show m ≤ j + 1; omega, hyl, k2, k3⟩ (by show xs.length - (j + 1) < xs.length - j; omega) (by repeat constructor) (by repeat constructor)
      · skip
        have hX : q x = true := by simpa using hc2
        have k2 : ys.take m = (xs.take (j + 1)).filter (fun x => !q x) := by rw [hyt, List.take_add_one, hx, List.filter_append]; simp [hX]
        have k3 : ys.drop (j + 1) = xs.drop (j + 1) := by rw [← List.drop_drop, hyd, List.drop_drop]
        refine Gs.skip ?_
        refine Gs.blk_n ?_
        refine Gs.then_n ?_
        refine Gs.reg ?_
        refine Go.Sl.L.pu rfl rfl trivial (pu_move rfl) ?_
        refine Go.Sl.L.pu rfl rfl trivial (by first | exact pu_addI rfl rfl rfl (by omega) (by omega) | exact pu_add rfl rfl) ?_
        refine Go.Sl.L.pu rfl rfl trivial (pu_assign rfl) ?_
        refine Go.Sl.L.nil ?_
        refine Gs.then_n ?_
        first | exact Gs.again1 (j + 1, m + 1, ys.set m x) ⟨by show j + 1 ≤ xs.length; omega, by show m + 1 ≤ j + 1; omega, k1, k2, k3⟩ (by show xs.length - (j + 1) < xs.length - j; omega) (by repeat constructor) (by repeat constructor) | exact Gs.again1 (j + 1, m, ys) ⟨by show j + 1 ≤ xs.length; omega, by show m ≤ j + 1; omega, hyl, k2, k3⟩ (by show xs.length - (j + 1) < xs.length - j; omega) (by repeat constructor) (by repeat constructor)
    · skip
      have hge : j = xs.length := by have := of_decide_eq_false hc1; omega
      rw [hge, List.take_length] at hyt
      have hml : (ys.take m).length = m := by rw [List.length_take]; omega
      have hdl : (ys.drop m).length = xs.length - m := by rw [List.length_drop]; omega
      refine Gs.exit ?_
      refine Gs.then_x ?_
      refine Gs.then_x ?_
      refine Gs.blk_hit ?_
      refine Gs.then_n ?_
      refine Gs.seq ?_
      refine Gs.reg ?_
      refine Go.Sl.L.pu rfl rfl trivial (pu_move rfl) ?_
      refine Go.Sl.L.pu rfl rfl trivial (pu_move rfl) ?_
      refine Go.Sl.L.pu rfl rfl trivial (pu_sliceL et_50 rfl rfl (by omega) (by omega)) ?_
      refine Go.Sl.L.ac0 rfl trivial (ac_clear (enc := partC) (xs := ys.take m) (zs := ys.drop m) Tryd.underlying50 zv_49 rfl rfl rfl (by decide) (by rw [hml]; rfl) hdl.symm ek_49 (by rw [List.take_append_drop]; repeat constructor)) ?_
      rintro _ _ rfl
      refine Go.Sl.L.nil ?_
      refine Gs.then_n ?_
      refine Gs.seq ?_
      refine Gs.reg ?_
      refine Go.Sl.L.pu rfl rfl trivial (pu_move rfl) ?_
      refine Go.Sl.L.pu rfl rfl trivial (pu_move rfl) ?_
      refine Go.Sl.L.pu rfl rfl trivial (pu_sliceH et_50 rfl rfl (by omega) (by omega)) ?_
      refine Go.Sl.L.pu rfl rfl trivial (pu_assign rfl) ?_
      refine Go.Sl.L.nil ?_
      rw [show suba (some ⟨ab, ao, none⟩) 0 c 3 = some ⟨ab, ao, none⟩ from suba_0, hyt]
      refine Gs.then_n ?_
      refine Gs.ret ?_
      exact Gs.fin1 Tryd.results38 rfl _ (⟨by rw [← hyt, hml]; rfl, rfl⟩) (by repeat constructor)
end Go.Proofs.YthlnjkfahmebjaaDoor
