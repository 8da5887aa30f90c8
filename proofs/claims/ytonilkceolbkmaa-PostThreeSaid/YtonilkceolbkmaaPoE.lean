/- Walks: follow, each, And, Phrase (post). -/
import Derived.Test.YtonilkceolbkmaaPoD
namespace Go.Po
open Go Go.Sl Go.Gv
/-- The posts of a key, of all lists that have one. -/
def foundV (ls : List (SlV PostV)) (k : Key) : List PostV := ls.filterMap fun l => lookP l.xs k
def eachV (q : List PostV → Bool) (ls : List (SlV PostV)) : List Key :=
  match ls with
  | [] => []
  | l0 :: r => if mayAll (ls.map fun l => l.xs.map PostV.p) then (l0.xs.filter fun p => decide ((p :: foundV r p.k).length = ls.length) && q (p :: foundV r p.k)).map PostV.k else []
theorem found_take {ls : List (SlV PostV)} {k : Key} {i : Nat} {l : SlV PostV} (h : ls[i]? = some l) : foundV (ls.take (i + 1)) k = foundV (ls.take i) k ++ (lookP l.xs k).toList := by
  rw [List.take_add_one, h]
  unfold foundV
  rw [List.filterMap_append]
  cases hl : lookP l.xs k <;> simp [hl]
theorem found_length (ls : List (SlV PostV)) (k : Key) : (foundV ls k).length ≤ ls.length := List.length_filterMap_le ..
theorem found_mem {ls : List (SlV PostV)} {k : Key} {p : PostV} (h : p ∈ foundV ls k) : ∃ l ∈ ls, p ∈ l.xs ∧ p.k = k := by
  obtain ⟨l, hl, hp⟩ := List.mem_filterMap.1 h
  exact ⟨l, hl, List.mem_of_find?_eq_some hp, by simpa using List.find?_some hp⟩
end Go.Po
namespace Go.Proofs.Ytonilkceolbkmaa
open Go Go.Sl Go.Gv Go.Po
set_option maxRecDepth 100000
/-- Places that may be searched. -/
def AtOk (S : HProp) (p : PostV) : Prop := Srd S 1 intC p.t.a p.t.xs ∧ p.t.xs.length ≤ 1000 ∧ risesB p.t.xs = true
theorem AtOk.pw {S : HProp} {p : PostV} (h : AtOk S p) : p.t.xs.Pairwise (· < ·) := by
  have := h.2.2
  simp only [risesB, Bool.and_eq_true] at this
  exact (rises_pw this.1).1
theorem follow1_spec {S : HProp} {pb : Nat} {pa : Option Addr} {pc : Nat} {ps : List PostV} (hp : ∀ p ∈ ps, AtOk S p) (hl : ps.length ≤ 1000) (a : Int) :
    Ct Try.prog 60 ([] ++ [int a] ++ [ptr pb]) [S, two (cl pb 30 [.slice pa ps.length pc]) (sl 37 3 postC pa pc ps)]
      (fun v hs => v = .bool (stepsFrom a 0 (ps.map fun p => p.t.xs)) ∧ hs = [S, two (cl pb 30 [.slice pa ps.length pc]) (sl 37 3 postC pa pc ps)]) := by
  refine Ct.intro Try.func60 rfl (by kernel_rfl) 27 Try.ntmps60 (Nat.le_of_ble_eq_true rfl) fun w0 R => ?_
  refine Gs.take (.tl .hd) (Gs.two ?_)
  refine Gs.slAddr (SlH.own (by repeat constructor) : SlH _ _ 3 postC pa ps) fun ab ao ha => ?_
  refine Gs.seq ?_
  refine Gs.reg ?_
  refine Go.Sl.L.pu rfl rfl trivial (pu_assign rfl) ?_
  refine Go.Sl.L.nil ?_
  refine Gs.then_n ?_
  refine Gs.seq ?_
  refine Gs.seq ?_
  refine Gs.reg ?_
  refine Go.Sl.L.rd rfl rfl trivial (rd_ld na_30 rfl (Rdc.cl1 (by repeat constructor) rfl)) ?_
  refine Go.Sl.L.pu rfl rfl trivial (pu_len Try.underlying30 rfl) ?_
  refine Go.Sl.L.pu rfl rfl trivial (pu_move rfl) ?_
  refine Go.Sl.L.nil ?_
  refine Gs.then_n ?_
  refine Gs.block ?_
  refine Gs.loop1 (fun i : Nat => i ≤ ps.length ∧ stepsFrom a 0 ((ps.map fun p => p.t.xs).take i) = true) (fun i => [(0, int a), (1, ptr pb), (8, .slice pa ps.length pc), (9, int ps.length), (10, int i)]) (fun i => [cl pb 30 [.slice pa ps.length pc], sl 37 3 postC pa pc ps, S] ++ R) (fun i => ps.length - i) 0 (⟨Nat.zero_le _, rfl⟩) (by repeat constructor) (by repeat constructor) (fun i ⟨hi, hst⟩ => ?_)
  refine Gs.seq ?_
  refine Gs.reg ?_
  refine Go.Sl.L.pu rfl rfl trivial (pu_lt rfl rfl) ?_
  refine Go.Sl.L.nil ?_
  refine Gs.then_n ?_
  refine Gs.seq ?_
  refine Gs.cond rfl (fun hc0 => ?_) (fun hc0 => ?_)
  · skip
    have hlt : i < ps.length := by have := of_decide_eq_true hc0; omega
    obtain ⟨x, hx⟩ : ∃ x, ps[i]? = some x := ⟨ps[i], by simp [hlt]⟩
    obtain rfl := ha (by rintro rfl; simp at hlt)
    have hat := hp x (List.mem_of_getElem? hx)
    have hxm : (ps.map fun p => p.t.xs)[i]? = some x.t.xs := by simp [hx]
    have hnx := steps_take (a := a) hxm
    rw [hst, Bool.true_and] at hnx
    refine Gs.skip ?_
    refine Gs.then_n ?_
    refine Gs.seq ?_
    refine Gs.block ?_
    refine Gs.seq ?_
    refine Gs.reg ?_
    refine Go.Sl.L.pu rfl rfl trivial (pu_move rfl) ?_
    refine Go.Sl.L.pu rfl rfl trivial (pu_ia se_30 rfl rfl (by omega) (by omega)) ?_
    refine Go.Sl.L.rd rfl rfl trivial (rd_lda ag_37 rfl (Rdc.el0 (SlH.own (by repeat constructor)) hx rfl rfl) rfl) ?_
    refine Go.Sl.L.ac rfl rfl trivial (ac_alloc zv_37 rfl) ?_
    rintro _ _ ⟨xb, rfl, rfl⟩
    refine Go.Sl.L.pu rfl rfl trivial (pu_assign rfl) ?_
    refine Go.Sl.L.ac0 rfl trivial (ac_st sz_37 rfl rfl (by repeat constructor) rfl rfl rfl rfl) ?_
    rintro _ _ rfl
    refine Go.Sl.L.nil ?_
    refine Gs.then_n ?_
    refine Gs.seq ?_
    refine Gs.reg ?_
    refine Go.Sl.L.pu rfl rfl trivial (pu_fa fa_37_1 rfl) ?_
    refine Go.Sl.L.rd rfl rfl trivial (rd_ld na_35 rfl (Rdc.cl1 (by repeat constructor) rfl)) ?_
    refine Go.Sl.L.pu rfl rfl trivial (pu_move rfl) ?_
    refine Go.Sl.L.pu rfl rfl trivial (pu_move rfl) ?_
    refine Go.Sl.L.pu rfl rfl trivial (pu_add rfl rfl) ?_
    refine Go.Sl.L.ac rfl rfl trivial (as_call (bsearch_spec hat.1 hat.2.1 hat.pw (IntKind.i64.wrap (a + (i : Int)))) (by repeat constructor) (by repeat constructor)) ?_
    rintro _ _ ⟨_, ⟨⟨j, rfl⟩, rfl⟩, rfl⟩
    refine Go.Sl.L.pu rfl rfl trivial (pu_move rfl) ?_
    refine Go.Sl.L.pu rfl rfl trivial (pu_extract rfl rfl) ?_
    refine Go.Sl.L.pu rfl rfl trivial (pu_extract rfl rfl) ?_
    refine Go.Sl.L.pu rfl rfl trivial (pu_assign rfl) ?_
    refine Go.Sl.L.pu rfl rfl trivial (pu_assign rfl) ?_
    refine Go.Sl.L.nil ?_
    refine Gs.then_n ?_
    refine Gs.seq ?_
    refine Gs.reg ?_
    refine Go.Sl.L.pu rfl rfl trivial (pu_move rfl) ?_
    refine Go.Sl.L.pu rfl rfl trivial (pu_not rfl) ?_
    refine Go.Sl.L.nil ?_
    refine Gs.then_n ?_
    refine Gs.cond rfl (fun hc1 => ?_) (fun hc1 => ?_)
    · skip
      have hno : stepsFrom a 0 (ps.map fun p => p.t.xs) = false := steps_not (i := i + 1) (by rw [hnx]; exact not_t hc1)
      refine Gs.seq ?_
      refine Gs.reg ?_
      refine Go.Sl.L.pu rfl rfl trivial (pu_assign rfl) ?_
      refine Go.Sl.L.nil ?_
      refine Gs.then_n ?_
      refine Gs.ret ?_
      refine Gs.blk_r ?_
      refine Gs.then_r ?_
      refine Gs.then_r ?_
      refine Gs.blk_r ?_
      refine Gs.then_r ?_
      refine Gs.takes (As := [cl pb 30 [.slice (some ⟨ab, ao, none⟩) ps.length pc], sl 37 3 postC (some ⟨ab, ao, none⟩) pc ps]) (by repeat constructor) (Gs.toTwo ?_)
      exact Gs.fin1 Try.results60 rfl _ (⟨by rw [hno], rfl⟩) (by repeat constructor)
    · skip
      have hyes : stepsFrom a 0 ((ps.map fun p => p.t.xs).take (i + 1)) = true := by rw [hnx]; exact not_f hc1
      refine Gs.skip ?_
      refine Gs.blk_n ?_
      refine Gs.then_n ?_
      refine Gs.reg ?_
      refine Go.Sl.L.pu rfl rfl trivial (by first | exact pu_addI rfl rfl rfl (by omega) (by omega) | exact pu_add rfl rfl) ?_
      refine Go.Sl.L.pu rfl rfl trivial (pu_move rfl) ?_
      refine Go.Sl.L.nil ?_
      refine Gs.then_n ?_
      exact Gs.again1 (i + 1) ⟨hlt, hyes⟩ (by omega) (by repeat constructor) (by repeat constructor)
  · skip
    have hge : i = ps.length := by have := of_decide_eq_false hc0; omega
    rw [hge, List.take_of_length_le (by simp)] at hst
    refine Gs.exit ?_
    refine Gs.then_x ?_
    refine Gs.then_x ?_
    refine Gs.blk_hit ?_
    refine Gs.then_n ?_
    refine Gs.seq ?_
    refine Gs.reg ?_
    refine Go.Sl.L.pu rfl rfl trivial (pu_assign rfl) ?_
    refine Go.Sl.L.nil ?_
    refine Gs.then_n ?_
    refine Gs.ret ?_
    refine Gs.takes (As := [cl pb 30 [.slice pa ps.length pc], sl 37 3 postC pa pc ps]) (by repeat constructor) (Gs.toTwo ?_)
    exact Gs.fin1 Try.results60 rfl _ (⟨by rw [hst], rfl⟩) (by repeat constructor)
def followV (ps : List PostV) : Bool := followB (ps.map fun p => p.t.xs)
theorem follow_spec {S : HProp} {pa : Option Addr} {pc : Nat} {ps : List PostV} (hne : ps ≠ []) (hp : ∀ p ∈ ps, AtOk S p) (hl : ps.length ≤ 1000) :
    Ct Try.prog 37 ([] ++ [.slice pa ps.length pc] ++ []) [sl 37 3 postC pa pc ps, S] (fun v hs => v = .bool (followV ps) ∧ hs = [sl 37 3 postC pa pc ps, S]) := by
  obtain ⟨p, r, rfl⟩ := List.exists_cons_of_ne_nil hne
  have hat := hp p (by simp)
  refine Ct.intro Try.func37 rfl (by kernel_rfl) 9 Try.ntmps37 (Nat.le_of_ble_eq_true rfl) fun w0 R => ?_
  refine Gs.slAddr (SlH.own (by repeat constructor) : SlH _ _ 3 postC pa (p :: r)) fun ab ao ha => ?_
  obtain rfl := ha (by simp)
  refine Gs.seq ?_
  refine Gs.reg ?_
  refine Go.Sl.L.ac rfl rfl trivial (ac_box rfl rfl) ?_
  rintro _ _ ⟨pb, rfl, rfl⟩
  refine Go.Sl.L.pu rfl rfl trivial (pu_assign rfl) ?_
  refine Go.Sl.L.nil ?_
  refine Gs.then_n ?_
  refine Gs.seq ?_
  refine Gs.reg ?_
  refine Go.Sl.L.rd rfl rfl trivial (rd_ld na_30 rfl (Rdc.cl1 (by repeat constructor) rfl)) ?_
  refine Go.Sl.L.pu rfl rfl trivial (pu_ia se_30 rfl rfl (by decide) (by rw [List.length_cons]; omega)) ?_
  refine Go.Sl.L.pu rfl rfl trivial (pu_fa fa_37_1 rfl) ?_
  refine Go.Sl.L.rd rfl rfl trivial (rd_ld na_35 rfl (Rdc.elp (i := 0) (f := 2) (x := p) (xs := p :: r) (enc := postC) (sz := 3) 1 (SlH.own (E := 37) (c := pc) (by repeat constructor)) rfl rfl rfl)) ?_
  refine Go.Sl.L.pu rfl rfl trivial (pu_func (by repeat constructor) (by repeat constructor)) ?_
  refine Gs.takes (As := [cl pb 30 [.slice (some ⟨ab, ao, none⟩) (p :: r).length pc], sl 37 3 postC (some ⟨ab, ao, none⟩) pc (p :: r)]) (by repeat constructor) (Gs.toTwo ?_)
  refine Go.Sl.L.ac rfl rfl trivial (as_call (containsI_spec (q := fun a => stepsFrom a 0 ((p :: r).map fun p => p.t.xs)) hat.1 hat.2.1 (fun a _ => follow1_spec hp hl a)) (by repeat constructor) (by repeat constructor)) ?_
  rintro _ _ ⟨_, ⟨rfl, rfl⟩, rfl⟩
  refine Go.Sl.L.pu rfl rfl trivial (pu_assign rfl) ?_
  refine Go.Sl.L.nil ?_
  refine Gs.then_n ?_
  refine Gs.ret ?_
  refine Gs.take (.tl .hd) (Gs.two ?_)
  exact Gs.fin1 Try.results37 rfl _ (⟨rfl, rfl⟩) (by repeat constructor)
theorem and1_spec {S : HProp} {pa : Option Addr} {pc : Nat} {ps : List PostV} :
    Ct Try.prog 31 ([] ++ [.slice pa ps.length pc] ++ []) [sl 37 3 postC pa pc ps, S] (fun v hs => v = .bool true ∧ hs = [sl 37 3 postC pa pc ps, S]) := by
  refine Ct.intro Try.func31 rfl (by kernel_rfl) 3 Try.ntmps31 (Nat.le_of_ble_eq_true rfl) fun w0 R => ?_
  refine Gs.seq ?_
  refine Gs.reg ?_
  refine Go.Sl.L.pu rfl rfl trivial (pu_assign rfl) ?_
  refine Go.Sl.L.nil ?_
  refine Gs.then_n ?_
  refine Gs.seq ?_
  refine Gs.reg ?_
  refine Go.Sl.L.pu rfl rfl trivial (pu_assign rfl) ?_
  refine Go.Sl.L.nil ?_
  refine Gs.then_n ?_
  refine Gs.ret ?_
  exact Gs.fin1 Try.results31 rfl _ (⟨rfl, rfl⟩) (by repeat constructor)
end Go.Proofs.Ytonilkceolbkmaa
