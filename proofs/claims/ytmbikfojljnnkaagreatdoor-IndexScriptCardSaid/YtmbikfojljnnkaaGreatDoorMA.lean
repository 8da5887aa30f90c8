/- Texts that stand in one. -/
import Derived.Test.YtmbikfojljnnkaaGreatDoorTy
import Derived.Test.YtmbikfojljnnkaaGreatDoorMK
import Derived.Test.YtmbikfojljnnkaaGreatDoorMD
import Derived.Test.YtmbikfojljnnkaaGreatDoorMore
import Derived.Test.YtmbikfojljnnkaaGreatDoorSlc
import Derived.Test.YtmbikfojljnnkaaGreatDoorOpn
/- Posts: what they are, and how they read. -/
namespace Go.Po
open Go Go.Sl Go.Gv
/-- A post, as its cells have it. -/
structure PostV where
  k : Key
  t : SlV Int
abbrev postC (p : PostV) : List Value := [int p.k.o, int p.k.q, .slice p.t.a p.t.xs.length p.t.c]
abbrev postV (p : PostV) : Value := .agg (postC p).toArray
/-- A post, plain. -/
abbrev PostP : Type := Key × List Int
def PostV.p (p : PostV) : PostP := (p.k, p.t.xs)
def risesFrom : Int → List Int → Bool
  | _, [] => true
  | a, n :: l => decide (a < n) && risesFrom n l
def risesB (l : List Int) : Bool := risesFrom (-1) l && decide (l ≠ [])
def lastOr (a : Int) (l : List Int) : Int := l.getLast?.getD a
theorem risesFrom_snoc : ∀ (a : Int) (l : List Int) (x : Int), risesFrom a (l ++ [x]) = (risesFrom a l && decide (lastOr a l < x))
  | a, [], x => by simp only [List.nil_append, risesFrom, Bool.and_true, Bool.true_and]; rfl
  | a, n :: l, x => by
    have h := risesFrom_snoc n l x
    have e : lastOr a (n :: l) = lastOr n l := by
      cases l with
      | nil => rfl
      | cons m l => simp [lastOr, List.getLast?_cons]
    simp only [List.cons_append, risesFrom, h, e, Bool.and_assoc]
theorem lastOr_snoc (a : Int) (l : List Int) (x : Int) : lastOr a (l ++ [x]) = x := by simp [lastOr]
theorem rises_take {a : Int} {l : List Int} {i : Nat} {x : Int} (h : l[i]? = some x) : risesFrom a (l.take (i + 1)) = (risesFrom a (l.take i) && decide (lastOr a (l.take i) < x)) := by
  rw [List.take_add_one, h]; exact risesFrom_snoc ..
theorem last_take {a : Int} {l : List Int} {i : Nat} {x : Int} (h : l[i]? = some x) : lastOr a (l.take (i + 1)) = x := by
  rw [List.take_add_one, h]; exact lastOr_snoc ..
theorem rises_cut {a : Int} : ∀ {l m : List Int}, risesFrom a (l ++ m) = true → risesFrom a l = true
  | [], _, _ => rfl
  | n :: l, m, h => by
    simp only [List.cons_append, risesFrom, Bool.and_eq_true] at h ⊢
    exact ⟨h.1, rises_cut h.2⟩
theorem rises_not {l : List Int} {i : Nat} (h : risesFrom (-1) (l.take i) = false) : risesB l = false := by
  cases hr : risesFrom (-1) l with
  | false => simp [risesB, hr]
  | true =>
    rw [← List.take_append_drop i l] at hr
    rw [rises_cut hr] at h; cases h
/-- May a list be? -/
def ascFrom : Option Key → List PostP → Bool
  | _, [] => true
  | none, p :: l => ascFrom (some p.1) l
  | some k, p :: l => before k p.1 && ascFrom (some p.1) l
def mayFrom : Option Key → List PostP → Bool
  | _, [] => true
  | q, p :: l => risesB p.2 && ((match q with | none => true | some k => before k p.1) && mayFrom (some p.1) l)
def mayB (l : List PostP) : Bool := mayFrom none l
def lastK (q : Option Key) (l : List PostP) : Option Key := match l.getLast? with | none => q | some p => some p.1
theorem mayFrom_snoc : ∀ (q : Option Key) (l : List PostP) (x : PostP), mayFrom q (l ++ [x]) = (mayFrom q l && (risesB x.2 && (match lastK q l with | none => true | some k => before k x.1)))
  | q, [], x => by simp [mayFrom, lastK]
  | q, p :: l, x => by
    have h := mayFrom_snoc (some p.1) l x
    have e : lastK q (p :: l) = lastK (some p.1) l := by
      cases l with
      | nil => rfl
      | cons m l => simp [lastK, List.getLast?_cons]
    simp only [List.cons_append, mayFrom, h, e, Bool.and_assoc]
theorem mayFrom_cut : ∀ {q : Option Key} {l m : List PostP}, mayFrom q (l ++ m) = true → mayFrom q l = true
  | _, [], _, _ => rfl
  | q, p :: l, m, h => by
    simp only [List.cons_append, mayFrom, Bool.and_eq_true] at h ⊢
    exact ⟨h.1, h.2.1, mayFrom_cut h.2.2⟩
theorem may_not {l : List PostP} {i : Nat} (h : mayB (l.take i) = false) : mayB l = false := by
  cases hr : mayB l with
  | false => rfl
  | true =>
    rw [← List.take_append_drop i l] at hr
    rw [mayB, mayFrom_cut hr] at h; cases h
theorem lastK_take {l : List PostP} {i : Nat} {x : PostP} (h : l[i]? = some x) : lastK none (l.take (i + 1)) = some x.1 := by
  rw [List.take_add_one, h]; simp [lastK]
theorem may_take {l : List PostP} {i : Nat} {x : PostP} (h : l[i]? = some x) : mayB (l.take (i + 1)) = (mayB (l.take i) && (risesB x.2 && (match lastK none (l.take i) with | none => true | some k => before k x.1))) := by
  rw [List.take_add_one, h]; exact mayFrom_snoc ..
theorem not_t {b : Bool} (h : (!b) = true) : b = false := by cases b <;> first | rfl | cases h
theorem not_f {b : Bool} (h : (!b) = false) : b = true := by cases b <;> first | rfl | cases h
theorem may_step0 {P : List PostP} {x : PostP} {i : Nat} (hi : i = 0) (h : P[i]? = some x) : mayB (P.take (i + 1)) = risesB x.2 := by
  subst hi
  rw [may_take h]; simp [mayB, mayFrom, lastK]
theorem may_stepS {P : List PostP} {x y : PostP} {i : Nat} (hi : 0 < i) (h : P[i]? = some x) (hy : P[i - 1]? = some y) (hm : mayB (P.take i) = true) : mayB (P.take (i + 1)) = (risesB x.2 && before y.1 x.1) := by
  have := lastK_take hy
  rw [show i - 1 + 1 = i by omega] at this
  rw [may_take h, hm, this, Bool.true_and]
theorem may_step_no {P : List PostP} {x : PostP} {i : Nat} (h : P[i]? = some x) (hx : risesB x.2 = false) : mayB P = false :=
  may_not (i := i + 1) (by rw [may_take h, hx, Bool.false_and, Bool.and_false])
theorem lastOr_ge : ∀ {a : Int} {l : List Int}, risesFrom a l = true → a ≤ lastOr a l
  | a, [], _ => Int.le_refl _
  | a, n :: l, h => by
    simp only [risesFrom, Bool.and_eq_true, decide_eq_true_eq] at h
    have := lastOr_ge h.2
    have e : lastOr a (n :: l) = lastOr n l := by
      cases l with
      | nil => rfl
      | cons m l => simp [lastOr, List.getLast?_cons]
    rw [e]; omega
end Go.Po
namespace Go.Proofs.YtmbikfojljnnkaaGreatDoor
open Go Go.Sl Go.Gv Go.Po
set_option maxRecDepth 100000
abbrev ptr (b : Nat) : Value := .pointer (some ⟨b, 0, none⟩)
abbrev encC_3 : Int → List Value := intC
abbrev encC_31 : Key → List Value := keyC
abbrev encC_66 : PostV → List Value := postC
abbrev encC_42 : SlV PostV → List Value := slC
abbrev encC_64 : SlV Int → List Value := slC
theorem ek_3 : EncOk 1 intC := ⟨fun _ => rfl, fun x v hv => by
  simp only [intC, List.mem_cons, List.not_mem_nil, or_false] at hv
  rcases hv with rfl; rfl⟩
theorem ek_31 : EncOk 2 keyC := ⟨fun _ => rfl, fun x v hv => by
  simp only [keyC, List.mem_cons, List.not_mem_nil, or_false] at hv
  rcases hv with rfl | rfl <;> rfl⟩
theorem ek_66 : EncOk 3 postC := ⟨fun _ => rfl, fun x v hv => by
  simp only [postC, List.mem_cons, List.not_mem_nil, or_false] at hv
  rcases hv with rfl | rfl | rfl <;> rfl⟩
theorem ek_42 : EncOk 1 (slC : SlV PostV → List Value) := ⟨fun _ => rfl, fun x v hv => by
  simp only [slC, List.mem_cons, List.not_mem_nil, or_false] at hv
  rcases hv with rfl; rfl⟩
theorem ek_64 : EncOk 1 (slC : SlV Int → List Value) := ⟨fun _ => rfl, fun x v hv => by
  simp only [slC, List.mem_cons, List.not_mem_nil, or_false] at hv
  rcases hv with rfl; rfl⟩
theorem cmp_31 : CmpT Tryz.prog 31 keyV 2 :=
  CmpT.of (fun k : Key => (k.o, k.q)) (fun a b => by cases a; cases b; simp) (fun _ => rfl)
    (cmp_ii Tryz.underlying31 Tryz.stoodInHeld31 ⟨by decide, by decide⟩ ⟨⟨rfl, rfl⟩, rfl, rfl⟩ Tryz.underlying3 na_3)
/-- A part of the heap in which a list of posts reads so. -/
def PRd (S : HProp) (a : Option Addr) (ps : List PostV) : Prop := Srd S 3 postC a ps ∧ ∀ p ∈ ps, Srd S 1 intC p.t.a p.t.xs ∧ p.t.xs.length ≤ 1000
def LRd (S : HProp) (a : Option Addr) (ls : List (SlV PostV)) : Prop := Srd S 1 slC a ls ∧ ∀ l ∈ ls, PRd S l.a l.xs ∧ l.xs.length ≤ 1000
abbrev plain1 (ps : List PostV) : List PostP := ps.map PostV.p
abbrev plain2 (ls : List (SlV PostV)) : List (List PostP) := ls.map fun l => plain1 l.xs
theorem plain_at {ps : List PostV} {i : Nat} {p : PostV} (h : ps[i]? = some p) : (plain1 ps)[i]? = some p.p := by simp [h]
end Go.Proofs.YtmbikfojljnnkaaGreatDoor

/- Walks: rises, one, May, all, find, at (post, grapevineref10). -/
namespace Go.Proofs.YtmbikfojljnnkaaGreatDoor
open Go Go.Sl Go.Gv Go.Po
set_option maxRecDepth 100000
theorem before4_spec (a b : Key) : Ct Tryz.prog 46 [keyV a, keyV b] [] (fun v hs => v = .bool (before a b) ∧ hs = []) := by
  refine Ct.intro Tryz.func46 rfl (by kernel_rfl) 24 Tryz.ntmps46 (Nat.le_of_ble_eq_true rfl) fun w0 R => ?_
  refine Gs.seq ?_
  refine Gs.reg ?_
  refine Go.Sl.L.ac rfl rfl trivial (ac_box rfl rfl) ?_
  rintro _ _ ⟨b2, rfl, rfl⟩
  refine Go.Sl.L.ac rfl rfl trivial (ac_box rfl rfl) ?_
  rintro _ _ ⟨b3, rfl, rfl⟩
  refine Go.Sl.L.pu rfl rfl trivial (pu_assign rfl) ?_
  refine Go.Sl.L.nil ?_
  refine Gs.then_n ?_
  refine Gs.seq ?_
  refine Gs.reg ?_
  refine Go.Sl.L.pu rfl rfl trivial (pu_fa fa_31_0 rfl) ?_
  refine Go.Sl.L.rd rfl rfl trivial (rd_ld na_3 rfl (Rdc.cl1 (by repeat constructor) rfl)) ?_
  refine Go.Sl.L.pu rfl rfl trivial (pu_fa fa_31_0 rfl) ?_
  refine Go.Sl.L.rd rfl rfl trivial (rd_ld na_3 rfl (Rdc.cl1 (by repeat constructor) rfl)) ?_
  refine Go.Sl.L.pu rfl rfl trivial (pu_lt rfl rfl) ?_
  refine Go.Sl.L.puB rfl rfl trivial (pu_move rfl) (fun hg5 => ?_) (fun hg5 => ?_)
  · skip
    refine Go.Sl.L.off rfl rfl rfl rfl rfl rfl ?_
    refine Go.Sl.L.off rfl rfl rfl rfl rfl rfl ?_
    refine Go.Sl.L.off rfl rfl rfl rfl rfl rfl ?_
    refine Go.Sl.L.off rfl rfl rfl rfl rfl rfl ?_
    refine Go.Sl.L.off rfl rfl rfl rfl rfl rfl ?_
    refine Go.Sl.L.off rfl rfl rfl rfl rfl rfl ?_
    refine Go.Sl.L.offU rfl rfl rfl rfl rfl ?_
    refine Go.Sl.L.offU rfl rfl rfl rfl rfl ?_
    refine Go.Sl.L.offU rfl rfl rfl rfl rfl ?_
    refine Go.Sl.L.offU rfl rfl rfl rfl rfl ?_
    refine Go.Sl.L.offU rfl rfl rfl rfl rfl ?_
    refine Go.Sl.L.off rfl rfl rfl rfl rfl rfl ?_
    refine Go.Sl.L.pu rfl rfl trivial (by first | exact pu_pick_t rfl rfl | exact pu_pick_f rfl rfl) ?_
    refine Go.Sl.L.pu rfl rfl trivial (pu_assign rfl) ?_
    refine Go.Sl.L.nil ?_
    refine Gs.then_n ?_
    refine Gs.ret ?_
    exact Gs.fin1 Tryz.results46 rfl _ (⟨by grind [before], rfl⟩) (by repeat constructor)
  · skip
    refine Go.Sl.L.pu rfl rfl ⟨_, rfl, rfl⟩ (pu_fa fa_31_0 rfl) ?_
    refine Go.Sl.L.rd rfl rfl ⟨_, rfl, rfl⟩ (rd_ld na_3 rfl (Rdc.cl1 (by repeat constructor) rfl)) ?_
    refine Go.Sl.L.pu rfl rfl ⟨_, rfl, rfl⟩ (pu_fa fa_31_0 rfl) ?_
    refine Go.Sl.L.rd rfl rfl ⟨_, rfl, rfl⟩ (rd_ld na_3 rfl (Rdc.cl1 (by repeat constructor) rfl)) ?_
    refine Go.Sl.L.pu rfl rfl ⟨_, rfl, rfl⟩ (pu_eq rfl rfl) ?_
    refine Go.Sl.L.puB rfl rfl ⟨_, rfl, rfl⟩ (pu_move rfl) (fun hg11 => ?_) (fun hg11 => ?_)
    · skip
      refine Go.Sl.L.pu rfl rfl ⟨_, rfl, rfl⟩ (pu_fa fa_31_1 rfl) ?_
      refine Go.Sl.L.rd rfl rfl ⟨_, rfl, rfl⟩ (rd_ld na_3 rfl (Rdc.cl1 (by repeat constructor) rfl)) ?_
      refine Go.Sl.L.pu rfl rfl ⟨_, rfl, rfl⟩ (pu_fa fa_31_1 rfl) ?_
      refine Go.Sl.L.rd rfl rfl ⟨_, rfl, rfl⟩ (rd_ld na_3 rfl (Rdc.cl1 (by repeat constructor) rfl)) ?_
      refine Go.Sl.L.pu rfl rfl ⟨_, rfl, rfl⟩ (pu_lt rfl rfl) ?_
      refine Go.Sl.L.pu rfl rfl ⟨_, rfl, rfl⟩ (by first | exact pu_pick_t rfl rfl | exact pu_pick_f rfl rfl) ?_
      refine Go.Sl.L.pu rfl rfl trivial (by first | exact pu_pick_t rfl rfl | exact pu_pick_f rfl rfl) ?_
      refine Go.Sl.L.pu rfl rfl trivial (pu_assign rfl) ?_
      refine Go.Sl.L.nil ?_
      refine Gs.then_n ?_
      refine Gs.ret ?_
      exact Gs.fin1 Tryz.results46 rfl _ (⟨by grind [before], rfl⟩) (by repeat constructor)
    · skip
      refine Go.Sl.L.off rfl rfl rfl rfl rfl rfl ?_
      refine Go.Sl.L.off rfl rfl rfl rfl rfl rfl ?_
      refine Go.Sl.L.off rfl rfl rfl rfl rfl rfl ?_
      refine Go.Sl.L.off rfl rfl rfl rfl rfl rfl ?_
      refine Go.Sl.L.off rfl rfl rfl rfl rfl rfl ?_
      refine Go.Sl.L.pu rfl rfl ⟨_, rfl, rfl⟩ (by first | exact pu_pick_t rfl rfl | exact pu_pick_f rfl rfl) ?_
      refine Go.Sl.L.pu rfl rfl trivial (by first | exact pu_pick_t rfl rfl | exact pu_pick_f rfl rfl) ?_
      refine Go.Sl.L.pu rfl rfl trivial (pu_assign rfl) ?_
      refine Go.Sl.L.nil ?_
      refine Gs.then_n ?_
      refine Gs.ret ?_
      exact Gs.fin1 Tryz.results46 rfl _ (⟨by grind [before], rfl⟩) (by repeat constructor)
theorem beforeR_spec (a b : Key) : Ct Tryz.prog 85 [keyV a, keyV b] [] (fun v hs => v = .bool (before a b) ∧ hs = []) := by
  refine Ct.intro Tryz.func85 rfl (by kernel_rfl) 20 Tryz.ntmps85 (Nat.le_of_ble_eq_true rfl) fun w0 R => ?_
  refine Gs.seq ?_
  refine Gs.reg ?_
  refine Go.Sl.L.ac rfl rfl trivial (ac_box rfl rfl) ?_
  rintro _ _ ⟨b2, rfl, rfl⟩
  refine Go.Sl.L.ac rfl rfl trivial (ac_box rfl rfl) ?_
  rintro _ _ ⟨b3, rfl, rfl⟩
  refine Go.Sl.L.pu rfl rfl trivial (pu_assign rfl) ?_
  refine Go.Sl.L.nil ?_
  refine Gs.then_n ?_
  refine Gs.seq ?_
  refine Gs.seq ?_
  refine Gs.reg ?_
  refine Go.Sl.L.pu rfl rfl trivial (pu_fa fa_31_0 rfl) ?_
  refine Go.Sl.L.rd rfl rfl trivial (rd_ld na_3 rfl (Rdc.cl1 (by repeat constructor) rfl)) ?_
  refine Go.Sl.L.pu rfl rfl trivial (pu_fa fa_31_0 rfl) ?_
  refine Go.Sl.L.rd rfl rfl trivial (rd_ld na_3 rfl (Rdc.cl1 (by repeat constructor) rfl)) ?_
  refine Go.Sl.L.pu rfl rfl trivial (pu_ne rfl rfl) ?_
  refine Go.Sl.L.nil ?_
  refine Gs.then_n ?_
  refine Gs.cond rfl (fun hc0 => ?_) (fun hc0 => ?_)
  · skip
    refine Gs.seq ?_
    refine Gs.reg ?_
    refine Go.Sl.L.pu rfl rfl trivial (pu_fa fa_31_0 rfl) ?_
    refine Go.Sl.L.rd rfl rfl trivial (rd_ld na_3 rfl (Rdc.cl1 (by repeat constructor) rfl)) ?_
    refine Go.Sl.L.pu rfl rfl trivial (pu_fa fa_31_0 rfl) ?_
    refine Go.Sl.L.rd rfl rfl trivial (rd_ld na_3 rfl (Rdc.cl1 (by repeat constructor) rfl)) ?_
    refine Go.Sl.L.pu rfl rfl trivial (pu_lt rfl rfl) ?_
    refine Go.Sl.L.pu rfl rfl trivial (pu_assign rfl) ?_
    refine Go.Sl.L.nil ?_
    refine Gs.then_n ?_
    refine Gs.ret ?_
    refine Gs.then_r ?_
    exact Gs.fin1 Tryz.results85 rfl _ (⟨by grind [before], rfl⟩) (by repeat constructor)
  · skip
    refine Gs.skip ?_
    refine Gs.then_n ?_
    refine Gs.seq ?_
    refine Gs.reg ?_
    refine Go.Sl.L.pu rfl rfl trivial (pu_fa fa_31_1 rfl) ?_
    refine Go.Sl.L.rd rfl rfl trivial (rd_ld na_3 rfl (Rdc.cl1 (by repeat constructor) rfl)) ?_
    refine Go.Sl.L.pu rfl rfl trivial (pu_fa fa_31_1 rfl) ?_
    refine Go.Sl.L.rd rfl rfl trivial (rd_ld na_3 rfl (Rdc.cl1 (by repeat constructor) rfl)) ?_
    refine Go.Sl.L.pu rfl rfl trivial (pu_lt rfl rfl) ?_
    refine Go.Sl.L.pu rfl rfl trivial (pu_assign rfl) ?_
    refine Go.Sl.L.nil ?_
    refine Gs.then_n ?_
    refine Gs.ret ?_
    exact Gs.fin1 Tryz.results85 rfl _ (⟨by grind [before], rfl⟩) (by repeat constructor)
theorem rises_spec {S : HProp} {a : Option Addr} {c : Nat} {l : List Int} (hS : Srd S 1 intC a l) (hl : l.length ≤ 1000) :
    Ct Tryz.prog 76 [.slice a l.length c] [S] (fun v hs => v = .bool (risesB l) ∧ hs = [S]) := by
  refine Ct.intro Tryz.func76 rfl (by kernel_rfl) 20 Tryz.ntmps76 (Nat.le_of_ble_eq_true rfl) fun w0 R => ?_
  refine Gs.slAddr (hS.h (by repeat constructor)) fun ab ao ha => ?_
  refine Gs.seq ?_
  refine Gs.reg ?_
  refine Go.Sl.L.pu rfl rfl trivial (pu_assign rfl) ?_
  refine Go.Sl.L.nil ?_
  refine Gs.then_n ?_
  refine Gs.seq ?_
  refine Gs.reg ?_
  refine Go.Sl.L.pu rfl rfl trivial (pu_assign rfl) ?_
  refine Go.Sl.L.nil ?_
  refine Gs.then_n ?_
  refine Gs.seq ?_
  refine Gs.seq ?_
  refine Gs.reg ?_
  refine Go.Sl.L.pu rfl rfl trivial (pu_move rfl) ?_
  refine Go.Sl.L.pu rfl rfl trivial (pu_len Tryz.underlying64 rfl) ?_
  refine Go.Sl.L.pu rfl rfl trivial (pu_move rfl) ?_
  refine Go.Sl.L.nil ?_
  refine Gs.then_n ?_
  refine Gs.block ?_
  refine Gs.loop1 (fun s : Nat × Int => s.1 ≤ l.length ∧ risesFrom (-1) (l.take s.1) = true ∧ s.2 = lastOr (-1) (l.take s.1)) (fun s => [(0, .slice a l.length c), (3, int s.2), (6, .slice a l.length c), (7, int l.length), (8, int s.1)]) (fun _ => [S] ++ R) (fun s => l.length - s.1) (0, -1) (⟨Nat.zero_le _, rfl, rfl⟩) (by repeat constructor) (by repeat constructor) (fun s hs => ?_)
  obtain ⟨i, m⟩ := s
  obtain ⟨hi, hr, hm⟩ := hs
  dsimp only at hi hr hm ⊢
  refine Gs.seq ?_
  refine Gs.reg ?_
  refine Go.Sl.L.pu rfl rfl trivial (pu_lt rfl rfl) ?_
  refine Go.Sl.L.nil ?_
  refine Gs.then_n ?_
  refine Gs.seq ?_
  refine Gs.cond rfl (fun hc0 => ?_) (fun hc0 => ?_)
  · skip
    have hlt : i < l.length := by have := of_decide_eq_true hc0; omega
    obtain ⟨x, hx⟩ : ∃ x, l[i]? = some x := ⟨l[i], by simp [hlt]⟩
    obtain rfl := ha (by rintro rfl; simp at hlt)
    have hst := rises_take (a := -1) hx
    rw [hr, Bool.true_and, ← hm] at hst
    refine Gs.skip ?_
    refine Gs.then_n ?_
    refine Gs.seq ?_
    refine Gs.block ?_
    refine Gs.seq ?_
    refine Gs.reg ?_
    refine Go.Sl.L.pu rfl rfl trivial (pu_ia se_64 rfl rfl (by omega) (by omega)) ?_
    refine Go.Sl.L.rd rfl rfl trivial (rd_ld na_3 rfl (Rdc.el0 (hS.h (by repeat constructor)) hx rfl rfl)) ?_
    refine Go.Sl.L.pu rfl rfl trivial (pu_assign rfl) ?_
    refine Go.Sl.L.nil ?_
    refine Gs.then_n ?_
    refine Gs.seq ?_
    refine Gs.seq ?_
    refine Gs.reg ?_
    refine Go.Sl.L.pu rfl rfl trivial (pu_move rfl) ?_
    refine Go.Sl.L.pu rfl rfl trivial (pu_move rfl) ?_
    refine Go.Sl.L.pu rfl rfl trivial (pu_le rfl rfl) ?_
    refine Go.Sl.L.nil ?_
    refine Gs.then_n ?_
    refine Gs.cond rfl (fun hc1 => ?_) (fun hc1 => ?_)
    · skip
      have hno : risesB l = false := rises_not (i := i + 1) (by rw [hst]; exact decide_eq_false (by have := of_decide_eq_true hc1; omega))
      refine Gs.seq ?_
      refine Gs.reg ?_
      refine Go.Sl.L.pu rfl rfl trivial (pu_assign rfl) ?_
      refine Go.Sl.L.nil ?_
      refine Gs.then_n ?_
      refine Gs.ret ?_
      refine Gs.then_r ?_
      refine Gs.blk_r ?_
      refine Gs.then_r ?_
      refine Gs.then_r ?_
      refine Gs.blk_r ?_
      refine Gs.then_r ?_
      exact Gs.fin1 Tryz.results76 rfl _ (⟨by rw [hno], rfl⟩) (by repeat constructor)
    · skip
      have hyes : risesFrom (-1) (l.take (i + 1)) = true := by rw [hst]; exact decide_eq_true (by have := of_decide_eq_false hc1; omega)
      refine Gs.skip ?_
      refine Gs.then_n ?_
      refine Gs.reg ?_
      refine Go.Sl.L.pu rfl rfl trivial (pu_move rfl) ?_
      refine Go.Sl.L.pu rfl rfl trivial (pu_assign rfl) ?_
      refine Go.Sl.L.nil ?_
      refine Gs.blk_n ?_
      refine Gs.then_n ?_
      refine Gs.reg ?_
      refine Go.Sl.L.pu rfl rfl trivial (by first | exact pu_addI rfl rfl rfl (by omega) (by omega) | exact pu_add rfl rfl) ?_
      refine Go.Sl.L.pu rfl rfl trivial (pu_move rfl) ?_
      refine Go.Sl.L.nil ?_
      refine Gs.then_n ?_
      exact Gs.again1 (i + 1, x) ⟨by show i + 1 ≤ l.length; omega, hyes, (last_take hx).symm⟩ (by show l.length - (i + 1) < l.length - i; omega) (by repeat constructor) (by repeat constructor)
  · skip
    have hge : i = l.length := by have := of_decide_eq_false hc0; omega
    rw [hge, List.take_length] at hr
    refine Gs.exit ?_
    refine Gs.then_x ?_
    refine Gs.then_x ?_
    refine Gs.blk_hit ?_
    refine Gs.then_n ?_
    refine Gs.seq ?_
    refine Gs.reg ?_
    refine Go.Sl.L.pu rfl rfl trivial (pu_move rfl) ?_
    refine Go.Sl.L.pu rfl rfl trivial (pu_len Tryz.underlying64 rfl) ?_
    refine Go.Sl.L.pu rfl rfl trivial (pu_gt rfl rfl) ?_
    refine Go.Sl.L.pu rfl rfl trivial (pu_assign rfl) ?_
    refine Go.Sl.L.nil ?_
    refine Gs.then_n ?_
    refine Gs.ret ?_
    exact Gs.fin1 Tryz.results76 rfl _ (⟨by rw [risesB, hr, Bool.true_and]; congr 1; exact decide_eq_decide.2 ⟨fun h e => by rw [e] at h; simp at h, fun h => by have := List.length_pos_iff.2 h; omega⟩, rfl⟩) (by repeat constructor)
theorem one_spec {S : HProp} {p : PostV} (hS : Srd S 1 intC p.t.a p.t.xs) (hl : p.t.xs.length ≤ 1000) :
    Ct Tryz.prog 60 [postV p] [S] (fun v hs => v = .bool (risesB p.t.xs) ∧ hs = [S]) := by
  obtain ⟨k, ⟨a, l, c⟩⟩ := p
  dsimp only at hS hl ⊢
  refine Ct.intro Tryz.func60 rfl (by kernel_rfl) 39 Tryz.ntmps60 (Nat.le_of_ble_eq_true rfl) fun w0 R => ?_
  refine Gs.slAddr (hS.h (by repeat constructor)) fun ab ao ha => ?_
  refine Gs.seq ?_
  refine Gs.reg ?_
  refine Go.Sl.L.ac rfl rfl trivial (ac_box rfl rfl) ?_
  rintro _ _ ⟨pb, rfl, rfl⟩
  refine Go.Sl.L.pu rfl rfl trivial (pu_assign rfl) ?_
  refine Go.Sl.L.nil ?_
  refine Gs.then_n ?_
  refine Gs.seq ?_
  refine Gs.seq ?_
  refine Gs.reg ?_
  refine Go.Sl.L.pu rfl rfl trivial (pu_assign rfl) ?_
  refine Go.Sl.L.nil ?_
  refine Gs.then_n ?_
  refine Gs.block ?_
  refine Gs.loop1 (fun i : Nat => i ≤ l.length ∧ risesFrom (-1) (l.take i) = true) (fun i => [(1, ptr pb), (3, int i)]) (fun _ => [S, cl pb 66 [int k.o, int k.q, .slice a l.length c]] ++ R) (fun i => l.length - i) 0 (⟨Nat.zero_le _, rfl⟩) (by repeat constructor) (by repeat constructor) (fun i ⟨hi, hr⟩ => ?_)
  refine Gs.seq ?_
  refine Gs.seq ?_
  refine Gs.reg ?_
  refine Go.Sl.L.pu rfl rfl trivial (pu_move rfl) ?_
  refine Go.Sl.L.pu rfl rfl trivial (pu_fa fa_66_1 rfl) ?_
  refine Go.Sl.L.rd rfl rfl trivial (rd_ld na_64 rfl (Rdc.cl1 (by repeat constructor) rfl)) ?_
  refine Go.Sl.L.pu rfl rfl trivial (pu_len Tryz.underlying64 rfl) ?_
  refine Go.Sl.L.pu rfl rfl trivial (pu_lt rfl rfl) ?_
  refine Go.Sl.L.nil ?_
  refine Gs.then_n ?_
  refine Gs.cond rfl (fun hc0 => ?_) (fun hc0 => ?_)
  · skip
    have hlt : i < l.length := by have := of_decide_eq_true hc0; omega
    obtain ⟨x, hx⟩ : ∃ x, l[i]? = some x := ⟨l[i], by simp [hlt]⟩
    obtain rfl := ha (by rintro rfl; simp at hlt)
    have hst := rises_take (a := -1) hx
    rw [hr, Bool.true_and] at hst
    have hge := lastOr_ge hr
    refine Gs.skip ?_
    refine Gs.then_n ?_
    refine Gs.seq ?_
    refine Gs.block ?_
    refine Gs.seq ?_
    refine Gs.regD mixed (by kernel_rfl) ?_
    refine Rg.pu 0 rfl rfl (by kernel_rfl) trivial (pu_fa fa_66_1 rfl) ?_
    refine Rg.rd 1 rfl rfl (by kernel_rfl) trivial (rd_ld na_64 rfl (Rdc.cl1 (by repeat constructor) rfl)) ?_
    refine Rg.pu 2 rfl rfl (by kernel_rfl) trivial (pu_move rfl) ?_
    refine Rg.pu 3 rfl rfl (by kernel_rfl) trivial (pu_ia se_64 rfl rfl (by omega) (by omega)) ?_
    refine Rg.rd 4 rfl rfl (by kernel_rfl) trivial (rd_ld na_3 rfl (Rdc.el0 (hS.h (by repeat constructor)) hx rfl rfl)) ?_
    refine Rg.pu 5 rfl rfl (by kernel_rfl) trivial (pu_lt rfl rfl) ?_
    refine Rg.puB 6 rfl rfl (by kernel_rfl) trivial (pu_move rfl) (fun hg6 => ?_) (fun hg6 => ?_)
    · skip
      have hno : risesB l = false := rises_not (i := i + 1) (by rw [hst]; exact decide_eq_false (by have := of_decide_eq_true hg6; omega))
      refine Rg.off 7 rfl rfl (by kernel_rfl) rfl rfl rfl rfl ?_
      refine Rg.off 8 rfl rfl (by kernel_rfl) rfl rfl rfl rfl ?_
      refine Rg.off 9 rfl rfl (by kernel_rfl) rfl rfl rfl rfl ?_
      refine Rg.offU 10 rfl rfl (by kernel_rfl) rfl rfl rfl ?_
      refine Rg.offU 11 rfl rfl (by kernel_rfl) rfl rfl rfl ?_
      refine Rg.offU 12 rfl rfl (by kernel_rfl) rfl rfl rfl ?_
      refine Rg.offU 13 rfl rfl (by kernel_rfl) rfl rfl rfl ?_
      refine Rg.offU 14 rfl rfl (by kernel_rfl) rfl rfl rfl ?_
      refine Rg.offU 15 rfl rfl (by kernel_rfl) rfl rfl rfl ?_
      refine Rg.offU 16 rfl rfl (by kernel_rfl) rfl rfl rfl ?_
      refine Rg.offU 17 rfl rfl (by kernel_rfl) rfl rfl rfl ?_
      refine Rg.offU 18 rfl rfl (by kernel_rfl) rfl rfl rfl ?_
      refine Rg.offU 19 rfl rfl (by kernel_rfl) rfl rfl rfl ?_
      refine Rg.offU 20 rfl rfl (by kernel_rfl) rfl rfl rfl ?_
      refine Rg.offU 21 rfl rfl (by kernel_rfl) rfl rfl rfl ?_
      refine Rg.off 22 rfl rfl (by kernel_rfl) rfl rfl rfl rfl ?_
      refine Rg.pu 23 rfl rfl (by kernel_rfl) trivial (by first | exact pu_pick_t rfl rfl | exact pu_pick_f rfl rfl) ?_
      refine Rg.end (by kernel_rfl) ?_
      refine Gs.then_n ?_
      refine Gs.cond_t rfl ?_
      refine Gs.seq ?_
      refine Gs.reg ?_
      refine Go.Sl.L.pu rfl rfl trivial (pu_assign rfl) ?_
      refine Go.Sl.L.nil ?_
      refine Gs.then_n ?_
      refine Gs.ret ?_
      refine Gs.blk_r ?_
      refine Gs.then_r ?_
      refine Gs.then_r ?_
      refine Gs.blk_r ?_
      refine Gs.then_r ?_
      exact Gs.fin1 Tryz.results60 rfl _ (⟨by rw [hno], rfl⟩) (by repeat constructor)
    · skip
      refine Rg.pu 7 rfl rfl (by kernel_rfl) ⟨_, rfl, rfl⟩ (pu_move rfl) ?_
      refine Rg.pu 8 rfl rfl (by kernel_rfl) ⟨_, rfl, rfl⟩ (pu_gt rfl rfl) ?_
      refine Rg.puB 9 rfl rfl (by kernel_rfl) ⟨_, rfl, rfl⟩ (pu_move rfl) (fun hg9 => ?_) (fun hg9 => ?_)
      · skip
        have hi0 : 0 < i := by have := of_decide_eq_true hg9; omega
        obtain ⟨y, hy⟩ : ∃ x, l[i - 1]? = some x := ⟨l[i - 1]'(by omega), by simp⟩
        have hly : lastOr (-1) (l.take i) = y := by have := last_take (a := -1) hy; rwa [show i - 1 + 1 = i by omega] at this
        rw [hly] at hst
        refine Rg.pu 10 rfl rfl (by kernel_rfl) ⟨_, rfl, rfl⟩ (pu_fa fa_66_1 rfl) ?_
        refine Rg.rd 11 rfl rfl (by kernel_rfl) ⟨_, rfl, rfl⟩ (rd_ld na_64 rfl (Rdc.cl1 (by repeat constructor) rfl)) ?_
        refine Rg.pu 12 rfl rfl (by kernel_rfl) ⟨_, rfl, rfl⟩ (pu_move rfl) ?_
        refine Rg.pu 13 rfl rfl (by kernel_rfl) ⟨_, rfl, rfl⟩ (pu_ia se_64 rfl rfl (by omega) (by omega)) ?_
        refine Rg.rd 14 rfl rfl (by kernel_rfl) ⟨_, rfl, rfl⟩ (rd_ld na_3 rfl (Rdc.el0 (hS.h (by repeat constructor)) hx rfl rfl)) ?_
        refine Rg.pu 15 rfl rfl (by kernel_rfl) ⟨_, rfl, rfl⟩ (pu_fa fa_66_1 rfl) ?_
        refine Rg.rd 16 rfl rfl (by kernel_rfl) ⟨_, rfl, rfl⟩ (rd_ld na_64 rfl (Rdc.cl1 (by repeat constructor) rfl)) ?_
        refine Rg.pu 17 rfl rfl (by kernel_rfl) ⟨_, rfl, rfl⟩ (pu_move rfl) ?_
        refine Rg.pu 18 rfl rfl (by kernel_rfl) ⟨_, rfl, rfl⟩ (pu_subI (z := ((i - 1 : Nat) : Int)) rfl rfl (by omega) (by omega) (by omega)) ?_
        refine Rg.pu 19 rfl rfl (by kernel_rfl) ⟨_, rfl, rfl⟩ (pu_ia se_64 rfl rfl (by omega) (by omega)) ?_
        refine Rg.rd 20 rfl rfl (by kernel_rfl) ⟨_, rfl, rfl⟩ (rd_ld na_3 rfl (Rdc.el0 (hS.h (by repeat constructor)) hy rfl rfl)) ?_
        refine Rg.pu 21 rfl rfl (by kernel_rfl) ⟨_, rfl, rfl⟩ (pu_le rfl rfl) ?_
        refine Rg.pu 22 rfl rfl (by kernel_rfl) ⟨_, rfl, rfl⟩ (by first | exact pu_pick_t rfl rfl | exact pu_pick_f rfl rfl) ?_
        refine Rg.pu 23 rfl rfl (by kernel_rfl) trivial (by first | exact pu_pick_t rfl rfl | exact pu_pick_f rfl rfl) ?_
        refine Rg.end (by kernel_rfl) ?_
        refine Gs.then_n ?_
        refine Gs.cond rfl (fun hc1 => ?_) (fun hc1 => ?_)
        · skip
          have hno : risesB l = false := rises_not (i := i + 1) (by rw [hst]; exact decide_eq_false (by have := of_decide_eq_true hc1; omega))
          refine Gs.seq ?_
          refine Gs.reg ?_
          refine Go.Sl.L.pu rfl rfl trivial (pu_assign rfl) ?_
          refine Go.Sl.L.nil ?_
          refine Gs.then_n ?_
          refine Gs.ret ?_
          refine Gs.blk_r ?_
          refine Gs.then_r ?_
          refine Gs.then_r ?_
          refine Gs.blk_r ?_
          refine Gs.then_r ?_
          exact Gs.fin1 Tryz.results60 rfl _ (⟨by rw [hno], rfl⟩) (by repeat constructor)
        · skip
          have hyes : risesFrom (-1) (l.take (i + 1)) = true := by rw [hst]; exact decide_eq_true (by have := of_decide_eq_false hc1; omega)
          refine Gs.skip ?_
          refine Gs.blk_n ?_
          refine Gs.then_n ?_
          refine Gs.reg ?_
          refine Go.Sl.L.pu rfl rfl trivial (pu_move rfl) ?_
          refine Go.Sl.L.pu rfl rfl trivial (by first | exact pu_addI rfl rfl rfl (by omega) (by omega) | exact pu_add rfl rfl) ?_
          refine Go.Sl.L.pu rfl rfl trivial (pu_assign rfl) ?_
          refine Go.Sl.L.nil ?_
          refine Gs.then_n ?_
          exact Gs.again1 (i + 1) ⟨by omega, hyes⟩ (by omega) (by repeat constructor) (by repeat constructor)
      · skip
        have hi0 : i = 0 := by have := of_decide_eq_false hg9; omega
        have hyes : risesFrom (-1) (l.take (i + 1)) = true := by rw [hst, hi0]; exact decide_eq_true (by have := of_decide_eq_false hg6; simp only [List.take_zero, lastOr, List.getLast?_nil, Option.getD_none]; omega)
        refine Rg.off 10 rfl rfl (by kernel_rfl) rfl rfl rfl rfl ?_
        refine Rg.off 11 rfl rfl (by kernel_rfl) rfl rfl rfl rfl ?_
        refine Rg.off 12 rfl rfl (by kernel_rfl) rfl rfl rfl rfl ?_
        refine Rg.off 13 rfl rfl (by kernel_rfl) rfl rfl rfl rfl ?_
        refine Rg.off 14 rfl rfl (by kernel_rfl) rfl rfl rfl rfl ?_
        refine Rg.off 15 rfl rfl (by kernel_rfl) rfl rfl rfl rfl ?_
        refine Rg.off 16 rfl rfl (by kernel_rfl) rfl rfl rfl rfl ?_
        refine Rg.off 17 rfl rfl (by kernel_rfl) rfl rfl rfl rfl ?_
        refine Rg.off 18 rfl rfl (by kernel_rfl) rfl rfl rfl rfl ?_
        refine Rg.off 19 rfl rfl (by kernel_rfl) rfl rfl rfl rfl ?_
        refine Rg.off 20 rfl rfl (by kernel_rfl) rfl rfl rfl rfl ?_
        refine Rg.off 21 rfl rfl (by kernel_rfl) rfl rfl rfl rfl ?_
        refine Rg.pu 22 rfl rfl (by kernel_rfl) ⟨_, rfl, rfl⟩ (by first | exact pu_pick_t rfl rfl | exact pu_pick_f rfl rfl) ?_
        refine Rg.pu 23 rfl rfl (by kernel_rfl) trivial (by first | exact pu_pick_t rfl rfl | exact pu_pick_f rfl rfl) ?_
        refine Rg.end (by kernel_rfl) ?_
        refine Gs.then_n ?_
        refine Gs.cond_f rfl ?_
        refine Gs.skip ?_
        refine Gs.blk_n ?_
        refine Gs.then_n ?_
        refine Gs.reg ?_
        refine Go.Sl.L.pu rfl rfl trivial (pu_move rfl) ?_
        refine Go.Sl.L.pu rfl rfl trivial (by first | exact pu_addI rfl rfl rfl (by omega) (by omega) | exact pu_add rfl rfl) ?_
        refine Go.Sl.L.pu rfl rfl trivial (pu_assign rfl) ?_
        refine Go.Sl.L.nil ?_
        refine Gs.then_n ?_
        exact Gs.again1 (i + 1) ⟨by omega, hyes⟩ (by omega) (by repeat constructor) (by repeat constructor)
  · skip
    have hge : i = l.length := by have := of_decide_eq_false hc0; omega
    rw [hge, List.take_length] at hr
    refine Gs.exit ?_
    refine Gs.then_x ?_
    refine Gs.then_x ?_
    refine Gs.blk_hit ?_
    refine Gs.then_n ?_
    refine Gs.seq ?_
    refine Gs.reg ?_
    refine Go.Sl.L.pu rfl rfl trivial (pu_fa fa_66_1 rfl) ?_
    refine Go.Sl.L.rd rfl rfl trivial (rd_ld na_64 rfl (Rdc.cl1 (by repeat constructor) rfl)) ?_
    refine Go.Sl.L.pu rfl rfl trivial (pu_len Tryz.underlying64 rfl) ?_
    refine Go.Sl.L.pu rfl rfl trivial (pu_gt rfl rfl) ?_
    refine Go.Sl.L.pu rfl rfl trivial (pu_assign rfl) ?_
    refine Go.Sl.L.nil ?_
    refine Gs.then_n ?_
    refine Gs.ret ?_
    exact Gs.fin1 Tryz.results60 rfl _ (⟨by rw [risesB, hr, Bool.true_and]; congr 1; exact decide_eq_decide.2 ⟨fun h e => by rw [e] at h; simp at h, fun h => by have := List.length_pos_iff.2 h; omega⟩, rfl⟩) (by repeat constructor)
theorem may_spec {S : HProp} {a : Option Addr} {c : Nat} {ps : List PostV} (hS : PRd S a ps) (hl : ps.length ≤ 1000) :
    Ct Tryz.prog 67 [.slice a ps.length c] [S] (fun v hs => v = .bool (mayB (plain1 ps)) ∧ hs = [S]) := by
  refine Ct.intro Tryz.func67 rfl (by kernel_rfl) 33 Tryz.ntmps67 (Nat.le_of_ble_eq_true rfl) fun w0 R => ?_
  refine Gs.slAddr (hS.1.h (by repeat constructor)) fun ab ao ha => ?_
  refine Gs.seq ?_
  refine Gs.reg ?_
  refine Go.Sl.L.pu rfl rfl trivial (pu_assign rfl) ?_
  refine Go.Sl.L.nil ?_
  refine Gs.then_n ?_
  refine Gs.seq ?_
  refine Gs.seq ?_
  refine Gs.reg ?_
  refine Go.Sl.L.pu rfl rfl trivial (pu_move rfl) ?_
  refine Go.Sl.L.pu rfl rfl trivial (pu_len Tryz.underlying42 rfl) ?_
  refine Go.Sl.L.pu rfl rfl trivial (pu_move rfl) ?_
  refine Go.Sl.L.nil ?_
  refine Gs.then_n ?_
  refine Gs.block ?_
  refine Gs.loop1 (fun i : Nat => i ≤ ps.length ∧ mayB ((plain1 ps).take i) = true) (fun i => [(0, .slice a ps.length c), (5, .slice a ps.length c), (6, int ps.length), (7, int i)]) (fun _ => [S] ++ R) (fun i => ps.length - i) 0 (⟨Nat.zero_le _, rfl⟩) (by repeat constructor) (by repeat constructor) (fun i ⟨hi, hm⟩ => ?_)
  refine Gs.seq ?_
  refine Gs.reg ?_
  refine Go.Sl.L.pu rfl rfl trivial (pu_lt rfl rfl) ?_
  refine Go.Sl.L.nil ?_
  refine Gs.then_n ?_
  refine Gs.seq ?_
  refine Gs.cond rfl (fun hc0 => ?_) (fun hc0 => ?_)
  · skip
    have hlt : i < ps.length := by have := of_decide_eq_true hc0; omega
    obtain ⟨x, hx⟩ : ∃ x, ps[i]? = some x := ⟨ps[i], by simp [hlt]⟩
    obtain rfl := ha (by rintro rfl; simp at hlt)
    obtain ⟨k1, k2⟩ := hS.2 x (List.mem_of_getElem? hx)
    have hxp := plain_at hx
    refine Gs.skip ?_
    refine Gs.then_n ?_
    refine Gs.seq ?_
    refine Gs.block ?_
    refine Gs.seq ?_
    refine Gs.reg ?_
    refine Go.Sl.L.pu rfl rfl trivial (pu_move rfl) ?_
    refine Go.Sl.L.pu rfl rfl trivial (pu_ia se_42 rfl rfl (by omega) (by omega)) ?_
    refine Go.Sl.L.rd rfl rfl trivial (rd_lda ag_66 rfl (Rdc.el0 (hS.1.h (by repeat constructor)) hx rfl rfl) rfl) ?_
    refine Go.Sl.L.ac rfl rfl trivial (ac_alloc zv_66 rfl) ?_
    rintro _ _ ⟨xb, rfl, rfl⟩
    refine Go.Sl.L.pu rfl rfl trivial (pu_assign rfl) ?_
    refine Go.Sl.L.ac0 rfl trivial (ac_st sz_66 rfl rfl (by repeat constructor) rfl rfl rfl rfl) ?_
    rintro _ _ rfl
    refine Go.Sl.L.nil ?_
    refine Gs.then_n ?_
    refine Gs.seq ?_
    refine Gs.regD mixed (by kernel_rfl) ?_
    refine Rg.pu 0 rfl rfl (by kernel_rfl) trivial (pu_fa fa_66_1 rfl) ?_
    refine Rg.rd 1 rfl rfl (by kernel_rfl) trivial (rd_ld na_64 rfl (Rdc.cl1 (by repeat constructor) rfl)) ?_
    refine Rg.one (by kernel_rfl) (Stp.ac 2 rfl rfl (by kernel_rfl) trivial (as_call (rises_spec k1 k2) (by repeat constructor) (by repeat constructor))  ?_)
    rintro _ _ ⟨_, ⟨rfl, rfl⟩, rfl⟩
    refine Rg.pu 3 rfl rfl (by kernel_rfl) trivial (pu_not rfl) ?_
    refine Rg.puB 4 rfl rfl (by kernel_rfl) trivial (pu_move rfl) (fun hg4 => ?_) (fun hg4 => ?_)
    · skip
      have hno : mayB (plain1 ps) = false := may_step_no hxp (not_t hg4)
      refine Rg.off 5 rfl rfl (by kernel_rfl) rfl rfl rfl rfl ?_
      refine Rg.off 6 rfl rfl (by kernel_rfl) rfl rfl rfl rfl ?_
      refine Rg.off 7 rfl rfl (by kernel_rfl) rfl rfl rfl rfl ?_
      refine Rg.offU 8 rfl rfl (by kernel_rfl) rfl rfl rfl ?_
      refine Rg.offU 9 rfl rfl (by kernel_rfl) rfl rfl rfl ?_
      refine Rg.offU 10 rfl rfl (by kernel_rfl) rfl rfl rfl ?_
      refine Rg.offU 11 rfl rfl (by kernel_rfl) rfl rfl rfl ?_
      refine Rg.offU 12 rfl rfl (by kernel_rfl) rfl rfl rfl ?_
      refine Rg.offU 13 rfl rfl (by kernel_rfl) rfl rfl rfl ?_
      refine Rg.offU 14 rfl rfl (by kernel_rfl) rfl rfl rfl ?_
      refine Rg.offU 15 rfl rfl (by kernel_rfl) rfl rfl rfl ?_
      refine Rg.offU 16 rfl rfl (by kernel_rfl) rfl rfl rfl ?_
      refine Rg.offU 17 rfl rfl (by kernel_rfl) rfl rfl rfl ?_
      refine Rg.off 18 rfl rfl (by kernel_rfl) rfl rfl rfl rfl ?_
      refine Rg.pu 19 rfl rfl (by kernel_rfl) trivial (by first | exact pu_pick_t rfl rfl | exact pu_pick_f rfl rfl) ?_
      refine Rg.end (by kernel_rfl) ?_
      refine Gs.then_n ?_
      refine Gs.cond_t rfl ?_
      refine Gs.seq ?_
      refine Gs.reg ?_
      refine Go.Sl.L.pu rfl rfl trivial (pu_assign rfl) ?_
      refine Go.Sl.L.nil ?_
      refine Gs.then_n ?_
      refine Gs.ret ?_
      refine Gs.blk_r ?_
      refine Gs.then_r ?_
      refine Gs.then_r ?_
      refine Gs.blk_r ?_
      refine Gs.then_r ?_
      exact Gs.fin1 Tryz.results67 rfl _ (⟨by rw [hno], rfl⟩) (by repeat constructor)
    · skip
      have hri : risesB x.p.2 = true := not_f hg4
      refine Rg.pu 5 rfl rfl (by kernel_rfl) ⟨_, rfl, rfl⟩ (pu_move rfl) ?_
      refine Rg.pu 6 rfl rfl (by kernel_rfl) ⟨_, rfl, rfl⟩ (pu_gt rfl rfl) ?_
      refine Rg.puB 7 rfl rfl (by kernel_rfl) ⟨_, rfl, rfl⟩ (pu_move rfl) (fun hg7 => ?_) (fun hg7 => ?_)
      · skip
        have hi0 : 0 < i := by have := of_decide_eq_true hg7; omega
        obtain ⟨y, hy⟩ : ∃ x, ps[i - 1]? = some x := ⟨ps[i - 1]'(by omega), by simp⟩
        have hst := may_stepS hi0 hxp (plain_at hy) hm
        rw [hri, Bool.true_and] at hst
        refine Rg.pu 8 rfl rfl (by kernel_rfl) ⟨_, rfl, rfl⟩ (pu_move rfl) ?_
        refine Rg.pu 9 rfl rfl (by kernel_rfl) ⟨_, rfl, rfl⟩ (pu_move rfl) ?_
        refine Rg.pu 10 rfl rfl (by kernel_rfl) ⟨_, rfl, rfl⟩ (pu_subI (z := ((i - 1 : Nat) : Int)) rfl rfl (by omega) (by omega) (by omega)) ?_
        refine Rg.pu 11 rfl rfl (by kernel_rfl) ⟨_, rfl, rfl⟩ (pu_ia se_42 rfl rfl (by omega) (by omega)) ?_
        refine Rg.pu 12 rfl rfl (by kernel_rfl) ⟨_, rfl, rfl⟩ (pu_fa fa_66_0 rfl) ?_
        refine Rg.rd 13 rfl rfl (by kernel_rfl) ⟨_, rfl, rfl⟩ (rd_lda ag_31 rfl (Rdc.elp 2 (hS.1.h (by repeat constructor)) hy rfl rfl) rfl) ?_
        refine Rg.pu 14 rfl rfl (by kernel_rfl) ⟨_, rfl, rfl⟩ (pu_fa fa_66_0 rfl) ?_
        refine Rg.rd 15 rfl rfl (by kernel_rfl) ⟨_, rfl, rfl⟩ (rd_lda ag_31 rfl (Rdc.cl 2 (by repeat constructor) rfl) rfl) ?_
        refine Rg.one (by kernel_rfl) (Stp.ac 16 rfl rfl (by kernel_rfl) ⟨_, rfl, rfl⟩ (as_call (beforeR_spec y.k x.k) (by repeat constructor) (by repeat constructor))  ?_)
        rintro _ _ ⟨_, ⟨rfl, rfl⟩, rfl⟩
        refine Rg.pu 17 rfl rfl (by kernel_rfl) ⟨_, rfl, rfl⟩ (pu_not rfl) ?_
        refine Rg.pu 18 rfl rfl (by kernel_rfl) ⟨_, rfl, rfl⟩ (by first | exact pu_pick_t rfl rfl | exact pu_pick_f rfl rfl) ?_
        refine Rg.pu 19 rfl rfl (by kernel_rfl) trivial (by first | exact pu_pick_t rfl rfl | exact pu_pick_f rfl rfl) ?_
        refine Rg.end (by kernel_rfl) ?_
        refine Gs.then_n ?_
        refine Gs.cond rfl (fun hc1 => ?_) (fun hc1 => ?_)
        · skip
          have hno : mayB (plain1 ps) = false := may_not (i := i + 1) (by rw [hst]; exact not_t hc1)
          refine Gs.seq ?_
          refine Gs.reg ?_
          refine Go.Sl.L.pu rfl rfl trivial (pu_assign rfl) ?_
          refine Go.Sl.L.nil ?_
          refine Gs.then_n ?_
          refine Gs.ret ?_
          refine Gs.blk_r ?_
          refine Gs.then_r ?_
          refine Gs.then_r ?_
          refine Gs.blk_r ?_
          refine Gs.then_r ?_
          exact Gs.fin1 Tryz.results67 rfl _ (⟨by rw [hno], rfl⟩) (by repeat constructor)
        · skip
          have hyes : mayB ((plain1 ps).take (i + 1)) = true := by rw [hst]; exact not_f hc1
          refine Gs.skip ?_
          refine Gs.blk_n ?_
          refine Gs.then_n ?_
          refine Gs.reg ?_
          refine Go.Sl.L.pu rfl rfl trivial (by first | exact pu_addI rfl rfl rfl (by omega) (by omega) | exact pu_add rfl rfl) ?_
          refine Go.Sl.L.pu rfl rfl trivial (pu_move rfl) ?_
          refine Go.Sl.L.nil ?_
          refine Gs.then_n ?_
          exact Gs.again1 (i + 1) ⟨by omega, hyes⟩ (by omega) (by repeat constructor) (by repeat constructor)
      · skip
        have hi0 : i = 0 := by have := of_decide_eq_false hg7; omega
        have hyes : mayB ((plain1 ps).take (i + 1)) = true := by rw [may_step0 hi0 hxp]; exact hri
        refine Rg.off 8 rfl rfl (by kernel_rfl) rfl rfl rfl rfl ?_
        refine Rg.off 9 rfl rfl (by kernel_rfl) rfl rfl rfl rfl ?_
        refine Rg.off 10 rfl rfl (by kernel_rfl) rfl rfl rfl rfl ?_
        refine Rg.off 11 rfl rfl (by kernel_rfl) rfl rfl rfl rfl ?_
        refine Rg.off 12 rfl rfl (by kernel_rfl) rfl rfl rfl rfl ?_
        refine Rg.off 13 rfl rfl (by kernel_rfl) rfl rfl rfl rfl ?_
        refine Rg.off 14 rfl rfl (by kernel_rfl) rfl rfl rfl rfl ?_
        refine Rg.off 15 rfl rfl (by kernel_rfl) rfl rfl rfl rfl ?_
        refine Rg.off 16 rfl rfl (by kernel_rfl) rfl rfl rfl rfl ?_
        refine Rg.off 17 rfl rfl (by kernel_rfl) rfl rfl rfl rfl ?_
        refine Rg.pu 18 rfl rfl (by kernel_rfl) ⟨_, rfl, rfl⟩ (by first | exact pu_pick_t rfl rfl | exact pu_pick_f rfl rfl) ?_
        refine Rg.pu 19 rfl rfl (by kernel_rfl) trivial (by first | exact pu_pick_t rfl rfl | exact pu_pick_f rfl rfl) ?_
        refine Rg.end (by kernel_rfl) ?_
        refine Gs.then_n ?_
        refine Gs.cond_f rfl ?_
        refine Gs.skip ?_
        refine Gs.blk_n ?_
        refine Gs.then_n ?_
        refine Gs.reg ?_
        refine Go.Sl.L.pu rfl rfl trivial (by first | exact pu_addI rfl rfl rfl (by omega) (by omega) | exact pu_add rfl rfl) ?_
        refine Go.Sl.L.pu rfl rfl trivial (pu_move rfl) ?_
        refine Go.Sl.L.nil ?_
        refine Gs.then_n ?_
        exact Gs.again1 (i + 1) ⟨by omega, hyes⟩ (by omega) (by repeat constructor) (by repeat constructor)
  · skip
    have hge : i = ps.length := by have := of_decide_eq_false hc0; omega
    rw [hge, List.take_of_length_le (by simp)] at hm
    refine Gs.exit ?_
    refine Gs.then_x ?_
    refine Gs.then_x ?_
    refine Gs.blk_hit ?_
    refine Gs.then_n ?_
    refine Gs.seq ?_
    refine Gs.reg ?_
    refine Go.Sl.L.pu rfl rfl trivial (pu_assign rfl) ?_
    refine Go.Sl.L.nil ?_
    refine Gs.then_n ?_
    refine Gs.ret ?_
    exact Gs.fin1 Tryz.results67 rfl _ (⟨by rw [hm], rfl⟩) (by repeat constructor)
theorem may10_spec {S : HProp} {a : Option Addr} {c : Nat} {ps : List PostV} (hS : PRd S a ps) (hl : ps.length ≤ 1000) :
    Ct Tryz.prog 28 [.slice a ps.length c] [S] (fun v hs => v = .bool (mayB (plain1 ps)) ∧ hs = [S]) := by
  refine Ct.intro Tryz.func28 rfl (by kernel_rfl) 35 Tryz.ntmps28 (Nat.le_of_ble_eq_true rfl) fun w0 R => ?_
  refine Gs.slAddr (hS.1.h (by repeat constructor)) fun ab ao ha => ?_
  refine Gs.seq ?_
  refine Gs.reg ?_
  refine Go.Sl.L.pu rfl rfl trivial (pu_assign rfl) ?_
  refine Go.Sl.L.nil ?_
  refine Gs.then_n ?_
  refine Gs.seq ?_
  refine Gs.seq ?_
  refine Gs.reg ?_
  refine Go.Sl.L.pu rfl rfl trivial (pu_assign rfl) ?_
  refine Go.Sl.L.nil ?_
  refine Gs.then_n ?_
  refine Gs.block ?_
  refine Gs.loop1 (fun i : Nat => i ≤ ps.length ∧ mayB ((plain1 ps).take i) = true) (fun i => [(0, .slice a ps.length c), (3, int i)]) (fun _ => [S] ++ R) (fun i => ps.length - i) 0 (⟨Nat.zero_le _, rfl⟩) (by repeat constructor) (by repeat constructor) (fun i ⟨hi, hm⟩ => ?_)
  refine Gs.seq ?_
  refine Gs.seq ?_
  refine Gs.reg ?_
  refine Go.Sl.L.pu rfl rfl trivial (pu_move rfl) ?_
  refine Go.Sl.L.pu rfl rfl trivial (pu_move rfl) ?_
  refine Go.Sl.L.pu rfl rfl trivial (pu_len Tryz.underlying42 rfl) ?_
  refine Go.Sl.L.pu rfl rfl trivial (pu_lt rfl rfl) ?_
  refine Go.Sl.L.nil ?_
  refine Gs.then_n ?_
  refine Gs.cond rfl (fun hc0 => ?_) (fun hc0 => ?_)
  · skip
    have hlt : i < ps.length := by have := of_decide_eq_true hc0; omega
    obtain ⟨x, hx⟩ : ∃ x, ps[i]? = some x := ⟨ps[i], by simp [hlt]⟩
    obtain rfl := ha (by rintro rfl; simp at hlt)
    obtain ⟨k1, k2⟩ := hS.2 x (List.mem_of_getElem? hx)
    have hxp := plain_at hx
    refine Gs.skip ?_
    refine Gs.then_n ?_
    refine Gs.seq ?_
    refine Gs.block ?_
    refine Gs.seq ?_
    refine Gs.regD mixed (by kernel_rfl) ?_
    refine Rg.pu 0 rfl rfl (by kernel_rfl) trivial (pu_move rfl) ?_
    refine Rg.pu 1 rfl rfl (by kernel_rfl) trivial (pu_move rfl) ?_
    refine Rg.pu 2 rfl rfl (by kernel_rfl) trivial (pu_ia se_42 rfl rfl (by omega) (by omega)) ?_
    refine Rg.rd 3 rfl rfl (by kernel_rfl) trivial (rd_lda ag_66 rfl (Rdc.el0 (hS.1.h (by repeat constructor)) hx rfl rfl) rfl) ?_
    refine Rg.one (by kernel_rfl) (Stp.ac 4 rfl rfl (by kernel_rfl) trivial (as_call (one_spec (p := x) k1 k2) (by repeat constructor) (by repeat constructor))  ?_)
    rintro _ _ ⟨_, ⟨rfl, rfl⟩, rfl⟩
    refine Rg.pu 5 rfl rfl (by kernel_rfl) trivial (pu_not rfl) ?_
    refine Rg.puB 6 rfl rfl (by kernel_rfl) trivial (pu_move rfl) (fun hg6 => ?_) (fun hg6 => ?_)
    · skip
      have hno : mayB (plain1 ps) = false := may_step_no hxp (not_t hg6)
      refine Rg.off 7 rfl rfl (by kernel_rfl) rfl rfl rfl rfl ?_
      refine Rg.off 8 rfl rfl (by kernel_rfl) rfl rfl rfl rfl ?_
      refine Rg.off 9 rfl rfl (by kernel_rfl) rfl rfl rfl rfl ?_
      refine Rg.offU 10 rfl rfl (by kernel_rfl) rfl rfl rfl ?_
      refine Rg.offU 11 rfl rfl (by kernel_rfl) rfl rfl rfl ?_
      refine Rg.offU 12 rfl rfl (by kernel_rfl) rfl rfl rfl ?_
      refine Rg.offU 13 rfl rfl (by kernel_rfl) rfl rfl rfl ?_
      refine Rg.offU 14 rfl rfl (by kernel_rfl) rfl rfl rfl ?_
      refine Rg.offU 15 rfl rfl (by kernel_rfl) rfl rfl rfl ?_
      refine Rg.offU 16 rfl rfl (by kernel_rfl) rfl rfl rfl ?_
      refine Rg.offU 17 rfl rfl (by kernel_rfl) rfl rfl rfl ?_
      refine Rg.offU 18 rfl rfl (by kernel_rfl) rfl rfl rfl ?_
      refine Rg.offU 19 rfl rfl (by kernel_rfl) rfl rfl rfl ?_
      refine Rg.offU 20 rfl rfl (by kernel_rfl) rfl rfl rfl ?_
      refine Rg.offU 21 rfl rfl (by kernel_rfl) rfl rfl rfl ?_
      refine Rg.offU 22 rfl rfl (by kernel_rfl) rfl rfl rfl ?_
      refine Rg.off 23 rfl rfl (by kernel_rfl) rfl rfl rfl rfl ?_
      refine Rg.pu 24 rfl rfl (by kernel_rfl) trivial (by first | exact pu_pick_t rfl rfl | exact pu_pick_f rfl rfl) ?_
      refine Rg.end (by kernel_rfl) ?_
      refine Gs.then_n ?_
      refine Gs.cond_t rfl ?_
      refine Gs.seq ?_
      refine Gs.reg ?_
      refine Go.Sl.L.pu rfl rfl trivial (pu_assign rfl) ?_
      refine Go.Sl.L.nil ?_
      refine Gs.then_n ?_
      refine Gs.ret ?_
      refine Gs.blk_r ?_
      refine Gs.then_r ?_
      refine Gs.then_r ?_
      refine Gs.blk_r ?_
      refine Gs.then_r ?_
      exact Gs.fin1 Tryz.results28 rfl _ (⟨by rw [hno], rfl⟩) (by repeat constructor)
    · skip
      have hri : risesB x.p.2 = true := not_f hg6
      refine Rg.pu 7 rfl rfl (by kernel_rfl) ⟨_, rfl, rfl⟩ (pu_move rfl) ?_
      refine Rg.pu 8 rfl rfl (by kernel_rfl) ⟨_, rfl, rfl⟩ (pu_gt rfl rfl) ?_
      refine Rg.puB 9 rfl rfl (by kernel_rfl) ⟨_, rfl, rfl⟩ (pu_move rfl) (fun hg9 => ?_) (fun hg9 => ?_)
      · skip
        have hi0 : 0 < i := by have := of_decide_eq_true hg9; omega
        obtain ⟨y, hy⟩ : ∃ x, ps[i - 1]? = some x := ⟨ps[i - 1]'(by omega), by simp⟩
        have hst := may_stepS hi0 hxp (plain_at hy) hm
        rw [hri, Bool.true_and] at hst
        refine Rg.pu 10 rfl rfl (by kernel_rfl) ⟨_, rfl, rfl⟩ (pu_move rfl) ?_
        refine Rg.pu 11 rfl rfl (by kernel_rfl) ⟨_, rfl, rfl⟩ (pu_move rfl) ?_
        refine Rg.pu 12 rfl rfl (by kernel_rfl) ⟨_, rfl, rfl⟩ (pu_subI (z := ((i - 1 : Nat) : Int)) rfl rfl (by omega) (by omega) (by omega)) ?_
        refine Rg.pu 13 rfl rfl (by kernel_rfl) ⟨_, rfl, rfl⟩ (pu_ia se_42 rfl rfl (by omega) (by omega)) ?_
        refine Rg.pu 14 rfl rfl (by kernel_rfl) ⟨_, rfl, rfl⟩ (pu_fa fa_66_0 rfl) ?_
        refine Rg.rd 15 rfl rfl (by kernel_rfl) ⟨_, rfl, rfl⟩ (rd_lda ag_31 rfl (Rdc.elp 2 (hS.1.h (by repeat constructor)) hy rfl rfl) rfl) ?_
        refine Rg.pu 16 rfl rfl (by kernel_rfl) ⟨_, rfl, rfl⟩ (pu_move rfl) ?_
        refine Rg.pu 17 rfl rfl (by kernel_rfl) ⟨_, rfl, rfl⟩ (pu_move rfl) ?_
        refine Rg.pu 18 rfl rfl (by kernel_rfl) ⟨_, rfl, rfl⟩ (pu_ia se_42 rfl rfl (by omega) (by omega)) ?_
        refine Rg.pu 19 rfl rfl (by kernel_rfl) ⟨_, rfl, rfl⟩ (pu_fa fa_66_0 rfl) ?_
        refine Rg.rd 20 rfl rfl (by kernel_rfl) ⟨_, rfl, rfl⟩ (rd_lda ag_31 rfl (Rdc.elp 2 (hS.1.h (by repeat constructor)) hx rfl rfl) rfl) ?_
        refine Rg.one (by kernel_rfl) (Stp.ac 21 rfl rfl (by kernel_rfl) ⟨_, rfl, rfl⟩ (as_call (before4_spec y.k x.k) (by repeat constructor) (by repeat constructor))  ?_)
        rintro _ _ ⟨_, ⟨rfl, rfl⟩, rfl⟩
        refine Rg.pu 22 rfl rfl (by kernel_rfl) ⟨_, rfl, rfl⟩ (pu_not rfl) ?_
        refine Rg.pu 23 rfl rfl (by kernel_rfl) ⟨_, rfl, rfl⟩ (by first | exact pu_pick_t rfl rfl | exact pu_pick_f rfl rfl) ?_
        refine Rg.pu 24 rfl rfl (by kernel_rfl) trivial (by first | exact pu_pick_t rfl rfl | exact pu_pick_f rfl rfl) ?_
        refine Rg.end (by kernel_rfl) ?_
        refine Gs.then_n ?_
        refine Gs.cond rfl (fun hc1 => ?_) (fun hc1 => ?_)
        · skip
          have hno : mayB (plain1 ps) = false := may_not (i := i + 1) (by rw [hst]; exact not_t hc1)
          refine Gs.seq ?_
          refine Gs.reg ?_
          refine Go.Sl.L.pu rfl rfl trivial (pu_assign rfl) ?_
          refine Go.Sl.L.nil ?_
          refine Gs.then_n ?_
          refine Gs.ret ?_
          refine Gs.blk_r ?_
          refine Gs.then_r ?_
          refine Gs.then_r ?_
          refine Gs.blk_r ?_
          refine Gs.then_r ?_
          exact Gs.fin1 Tryz.results28 rfl _ (⟨by rw [hno], rfl⟩) (by repeat constructor)
        · skip
          have hyes : mayB ((plain1 ps).take (i + 1)) = true := by rw [hst]; exact not_f hc1
          refine Gs.skip ?_
          refine Gs.blk_n ?_
          refine Gs.then_n ?_
          refine Gs.reg ?_
          refine Go.Sl.L.pu rfl rfl trivial (pu_move rfl) ?_
          refine Go.Sl.L.pu rfl rfl trivial (by first | exact pu_addI rfl rfl rfl (by omega) (by omega) | exact pu_add rfl rfl) ?_
          refine Go.Sl.L.pu rfl rfl trivial (pu_assign rfl) ?_
          refine Go.Sl.L.nil ?_
          refine Gs.then_n ?_
          exact Gs.again1 (i + 1) ⟨by omega, hyes⟩ (by omega) (by repeat constructor) (by repeat constructor)
      · skip
        have hi0 : i = 0 := by have := of_decide_eq_false hg9; omega
        have hyes : mayB ((plain1 ps).take (i + 1)) = true := by rw [may_step0 hi0 hxp]; exact hri
        refine Rg.off 10 rfl rfl (by kernel_rfl) rfl rfl rfl rfl ?_
        refine Rg.off 11 rfl rfl (by kernel_rfl) rfl rfl rfl rfl ?_
        refine Rg.off 12 rfl rfl (by kernel_rfl) rfl rfl rfl rfl ?_
        refine Rg.off 13 rfl rfl (by kernel_rfl) rfl rfl rfl rfl ?_
        refine Rg.off 14 rfl rfl (by kernel_rfl) rfl rfl rfl rfl ?_
        refine Rg.off 15 rfl rfl (by kernel_rfl) rfl rfl rfl rfl ?_
        refine Rg.off 16 rfl rfl (by kernel_rfl) rfl rfl rfl rfl ?_
        refine Rg.off 17 rfl rfl (by kernel_rfl) rfl rfl rfl rfl ?_
        refine Rg.off 18 rfl rfl (by kernel_rfl) rfl rfl rfl rfl ?_
        refine Rg.off 19 rfl rfl (by kernel_rfl) rfl rfl rfl rfl ?_
        refine Rg.off 20 rfl rfl (by kernel_rfl) rfl rfl rfl rfl ?_
        refine Rg.off 21 rfl rfl (by kernel_rfl) rfl rfl rfl rfl ?_
        refine Rg.off 22 rfl rfl (by kernel_rfl) rfl rfl rfl rfl ?_
        refine Rg.pu 23 rfl rfl (by kernel_rfl) ⟨_, rfl, rfl⟩ (by first | exact pu_pick_t rfl rfl | exact pu_pick_f rfl rfl) ?_
        refine Rg.pu 24 rfl rfl (by kernel_rfl) trivial (by first | exact pu_pick_t rfl rfl | exact pu_pick_f rfl rfl) ?_
        refine Rg.end (by kernel_rfl) ?_
        refine Gs.then_n ?_
        refine Gs.cond_f rfl ?_
        refine Gs.skip ?_
        refine Gs.blk_n ?_
        refine Gs.then_n ?_
        refine Gs.reg ?_
        refine Go.Sl.L.pu rfl rfl trivial (pu_move rfl) ?_
        refine Go.Sl.L.pu rfl rfl trivial (by first | exact pu_addI rfl rfl rfl (by omega) (by omega) | exact pu_add rfl rfl) ?_
        refine Go.Sl.L.pu rfl rfl trivial (pu_assign rfl) ?_
        refine Go.Sl.L.nil ?_
        refine Gs.then_n ?_
        exact Gs.again1 (i + 1) ⟨by omega, hyes⟩ (by omega) (by repeat constructor) (by repeat constructor)
  · skip
    have hge : i = ps.length := by have := of_decide_eq_false hc0; omega
    rw [hge, List.take_of_length_le (by simp)] at hm
    refine Gs.exit ?_
    refine Gs.then_x ?_
    refine Gs.then_x ?_
    refine Gs.blk_hit ?_
    refine Gs.then_n ?_
    refine Gs.seq ?_
    refine Gs.reg ?_
    refine Go.Sl.L.pu rfl rfl trivial (pu_assign rfl) ?_
    refine Go.Sl.L.nil ?_
    refine Gs.then_n ?_
    refine Gs.ret ?_
    exact Gs.fin1 Tryz.results28 rfl _ (⟨by rw [hm], rfl⟩) (by repeat constructor)
end Go.Proofs.YtmbikfojljnnkaaGreatDoor

/- Walks: odd, all, find, at, order, BinarySearchFunc, post.find. -/
namespace Go.Po
open Go Go.Sl Go.Gv
def mayAll (ls : List (List PostP)) : Bool := ls.all mayB
theorem all_take {α : Type} {p : α → Bool} {l : List α} {i : Nat} {x : α} (h : l[i]? = some x) : (l.take (i + 1)).all p = ((l.take i).all p && p x) := by
  rw [List.take_add_one, h]; simp
theorem mayFrom_asc : ∀ {q : Option Key} {l : List PostP}, mayFrom q l = true → (l.map Prod.fst).Pairwise (fun a b => before a b = true) ∧ (∀ k, q = some k → ∀ p ∈ l, before k p.1 = true) ∧ ∀ p ∈ l, risesB p.2 = true
  | _, [], _ => ⟨List.Pairwise.nil, fun _ _ _ h => (by cases h), fun _ h => (by cases h)⟩
  | q, p :: l, h => by
    simp only [mayFrom, Bool.and_eq_true] at h
    obtain ⟨h1, h2, h3⟩ := mayFrom_asc h.2.2
    refine ⟨List.pairwise_cons.2 ⟨fun k hk => ?_, h1⟩, fun k hq x hx => ?_, fun x hx => ?_⟩
    · obtain ⟨x, hx, rfl⟩ := List.mem_map.1 hk
      exact h2 _ rfl x hx
    · subst hq
      rcases List.mem_cons.1 hx with rfl | hx
      · exact h.2.1
      · exact before_trans h.2.1 (h2 _ rfl x hx)
    · rcases List.mem_cons.1 hx with rfl | hx
      · exact h.1
      · exact h3 x hx
theorem may_asc {l : List PostP} (h : mayB l = true) : (l.map Prod.fst).Pairwise (fun a b => before a b = true) := (mayFrom_asc h).1
theorem may_rises {l : List PostP} (h : mayB l = true) : ∀ p ∈ l, risesB p.2 = true := (mayFrom_asc h).2.2
def lookP (ps : List PostV) (k : Key) : Option PostV := ps.find? fun p => decide (p.k = k)
def PostV.zero : PostV := ⟨⟨0, 0⟩, ⟨none, [], 0⟩⟩
def ordZ (a k : Key) : Int := if before a k then -1 else if before k a then 1 else 0
/-- Where the first one is that does not stand ahead. -/
def cutI (ps : List PostV) (k : Key) (i : Nat) : Prop := i ≤ ps.length ∧ (∀ m x, m < i → ps[m]? = some x → before x.k k = true) ∧ ∀ m x, i ≤ m → ps[m]? = some x → before x.k k = false
theorem asc_lt {ps : List PostV} (h : ((ps.map PostV.p).map Prod.fst).Pairwise (fun a b => before a b = true)) {i j : Nat} {x y : PostV} (hij : i < j) (hx : ps[i]? = some x) (hy : ps[j]? = some y) : before x.k y.k = true := by
  obtain ⟨h1, rfl⟩ := List.getElem?_eq_some_iff.1 hx
  obtain ⟨h2, rfl⟩ := List.getElem?_eq_some_iff.1 hy
  have := List.pairwise_iff_getElem.1 h i j (by simpa using h1) (by simpa using h2) hij
  simpa [PostV.p] using this
theorem before_asymm {a b : Key} (h : before a b = true) : before b a = false := by rw [before_iff] at h; rw [before_not]; omega
theorem cut_look {ps : List PostV} {k : Key} {i : Nat} (h : cutI ps k i) (ha : ((ps.map PostV.p).map Prod.fst).Pairwise (fun a b => before a b = true)) :
    (∀ x, ps[i]? = some x → x.k = k → lookP ps k = some x) ∧ ((∀ x, ps[i]? = some x → x.k ≠ k) → lookP ps k = none) := by
  constructor
  · intro x hx hk
    unfold lookP
    rw [List.find?_eq_some_iff_append]
    obtain ⟨hl, rfl⟩ := List.getElem?_eq_some_iff.1 hx
    refine ⟨by simpa using hk, ps.take i, ps.drop (i + 1), ?_, fun y hy => ?_⟩
    · exact (List.take_append_drop i ps).symm.trans (by rw [List.drop_eq_getElem_cons hl])
    · obtain ⟨m, hm⟩ := List.mem_iff_getElem?.1 hy
      rw [List.getElem?_take] at hm
      split at hm
      · rename_i hlt
        have := h.2.1 m y hlt hm
        have hne : y.k ≠ k := fun e => by rw [e, before_irr] at this; cases this
        simpa using hne
      · cases hm
  · intro hno
    unfold lookP
    rw [List.find?_eq_none]
    intro y hy
    obtain ⟨m, hm⟩ := List.mem_iff_getElem?.1 hy
    have hne : y.k ≠ k := fun e => by
      rcases Nat.lt_or_ge m i with hlt | hge
      · have := h.2.1 m y hlt hm
        rw [e, before_irr] at this; cases this
      · rcases Nat.lt_or_eq_of_le hge with hlt | heq
        · have hl : m < ps.length := (List.getElem?_eq_some_iff.1 hm).1
          have hi : ps[i]? = some ps[i] := by simp [show i < ps.length by omega]
          have h1 := asc_lt ha hlt hi hm
          rw [e] at h1
          have h2 := h.2.2 i _ (Nat.le_refl i) hi
          rw [h2] at h1; cases h1
        · subst heq; exact hno y hm e
    simpa using hne
end Go.Po
namespace Go.Proofs.YtmbikfojljnnkaaGreatDoor
open Go Go.Sl Go.Gv Go.Po
set_option maxRecDepth 100000
end Go.Proofs.YtmbikfojljnnkaaGreatDoor

/- Walks: find, at (ref10); order, BinarySearchFunc, find (post). -/
namespace Go.Proofs.YtmbikfojljnnkaaGreatDoor
open Go Go.Sl Go.Gv Go.Po
set_option maxRecDepth 100000
def ixP (ps : List PostV) (k : Key) : Nat := ps.findIdx fun p => decide (p.k = k)
theorem ixP_not {ps : List PostV} {k : Key} {i : Nat} {p : PostV} (hi : i < ixP ps k) (hr : ps[i]? = some p) : p.k ≠ k := by
  obtain ⟨hl, rfl⟩ := List.getElem?_eq_some_iff.1 hr
  have := List.not_of_lt_findIdx (p := fun p : PostV => decide (p.k = k)) (xs := ps) hi
  simpa using this
theorem ixP_look {ps : List PostV} {k : Key} : ps[ixP ps k]? = lookP ps k := by
  unfold ixP lookP
  induction ps with
  | nil => rfl
  | cons x l ih =>
    rw [List.findIdx_cons, List.find?_cons]
    by_cases hx : x.k = k
    · simp [hx]
    · simp [hx]; exact ih
theorem ixP_lt {ps : List PostV} {k : Key} : ixP ps k < ps.length ↔ (lookP ps k).isSome = true := by
  unfold ixP lookP; rw [List.findIdx_lt_length, List.find?_isSome]
theorem order_spec (p : PostV) (k : Key) : Ct Tryz.prog 79 [postV p, keyV k] [] (fun v hs => v = int (ordZ p.k k) ∧ hs = []) := by
  refine Ct.intro Tryz.func79 rfl (by kernel_rfl) 15 Tryz.ntmps79 (Nat.le_of_ble_eq_true rfl) fun w0 R => ?_
  refine Gs.seq ?_
  refine Gs.reg ?_
  refine Go.Sl.L.ac rfl rfl trivial (ac_box rfl rfl) ?_
  rintro _ _ ⟨pb, rfl, rfl⟩
  refine Go.Sl.L.ac rfl rfl trivial (ac_box rfl rfl) ?_
  rintro _ _ ⟨kb, rfl, rfl⟩
  refine Go.Sl.L.pu rfl rfl trivial (pu_assign rfl) ?_
  refine Go.Sl.L.nil ?_
  refine Gs.then_n ?_
  refine Gs.seq ?_
  refine Gs.block ?_
  refine Gs.seq ?_
  refine Gs.reg ?_
  refine Go.Sl.L.pu rfl rfl trivial (pu_fa fa_66_0 rfl) ?_
  refine Go.Sl.L.rd rfl rfl trivial (rd_lda ag_31 rfl (Rdc.cl 2 (by repeat constructor) rfl) rfl) ?_
  refine Go.Sl.L.rd rfl rfl trivial (rd_lda ag_31 rfl (Rdc.cl 2 (by repeat constructor) rfl) rfl) ?_
  refine Go.Sl.L.ac rfl rfl trivial (as_call (beforeR_spec p.k k) (by repeat constructor) (by repeat constructor)) ?_
  rintro _ _ ⟨_, ⟨rfl, rfl⟩, rfl⟩
  refine Go.Sl.L.pu rfl rfl trivial (pu_assign rfl) ?_
  refine Go.Sl.L.nil ?_
  refine Gs.then_n ?_
  refine Gs.cond rfl (fun hc0 => ?_) (fun hc0 => ?_)
  · skip
    refine Gs.seq ?_
    refine Gs.reg ?_
    refine Go.Sl.L.pu rfl rfl trivial (pu_assign rfl) ?_
    refine Go.Sl.L.nil ?_
    refine Gs.then_n ?_
    refine Gs.ret ?_
    refine Gs.blk_r ?_
    refine Gs.then_r ?_
    exact Gs.fin1 Tryz.results79 rfl _ (⟨by simp [ordZ, hc0], rfl⟩) (by repeat constructor)
  · skip
    refine Gs.seq ?_
    refine Gs.reg ?_
    refine Go.Sl.L.rd rfl rfl trivial (rd_lda ag_31 rfl (Rdc.cl 2 (by repeat constructor) rfl) rfl) ?_
    refine Go.Sl.L.pu rfl rfl trivial (pu_fa fa_66_0 rfl) ?_
    refine Go.Sl.L.rd rfl rfl trivial (rd_lda ag_31 rfl (Rdc.cl 2 (by repeat constructor) rfl) rfl) ?_
    refine Go.Sl.L.ac rfl rfl trivial (as_call (beforeR_spec k p.k) (by repeat constructor) (by repeat constructor)) ?_
    rintro _ _ ⟨_, ⟨rfl, rfl⟩, rfl⟩
    refine Go.Sl.L.pu rfl rfl trivial (pu_assign rfl) ?_
    refine Go.Sl.L.nil ?_
    refine Gs.then_n ?_
    refine Gs.cond rfl (fun hc1 => ?_) (fun hc1 => ?_)
    · skip
      refine Gs.seq ?_
      refine Gs.reg ?_
      refine Go.Sl.L.pu rfl rfl trivial (pu_assign rfl) ?_
      refine Go.Sl.L.nil ?_
      refine Gs.then_n ?_
      refine Gs.ret ?_
      refine Gs.blk_r ?_
      refine Gs.then_r ?_
      exact Gs.fin1 Tryz.results79 rfl _ (⟨by simp [ordZ, hc0, hc1], rfl⟩) (by repeat constructor)
    · skip
      refine Gs.skip ?_
      refine Gs.blk_n ?_
      refine Gs.then_n ?_
      refine Gs.seq ?_
      refine Gs.reg ?_
      refine Go.Sl.L.pu rfl rfl trivial (pu_assign rfl) ?_
      refine Go.Sl.L.nil ?_
      refine Gs.then_n ?_
      refine Gs.ret ?_
      exact Gs.fin1 Tryz.results79 rfl _ (⟨by simp [ordZ, hc0, hc1], rfl⟩) (by repeat constructor)
theorem ordZ_lt {a k : Key} : decide (ordZ a k < 0) = before a k := by
  unfold ordZ; split
  · rename_i h; rw [h]; rfl
  · rename_i h
    have : before a k = false := by simpa using h
    rw [this]; split <;> rfl
theorem ordZ_eq {a k : Key} : decide (ordZ a k = 0) = decide (a = k) := by
  unfold ordZ; split
  · rename_i h
    have : a ≠ k := fun e => by rw [e, before_irr] at h; cases h
    simp [this]
  · rename_i h
    split
    · rename_i h2
      have : a ≠ k := fun e => by rw [e, before_irr] at h2; cases h2
      simp [this]
    · rename_i h2
      have : a = k := Classical.byContradiction fun hne => by rcases before_total hne with h3 | h3; exact h h3; exact h2 h3
      simp [this]
theorem half {i j : Nat} (hj : i + j ≤ 100000) : IntKind.i64.wrap (shrK .u64 (IntKind.u64.wrap ((i : Int) + (j : Int))) 1) = (((i + j) / 2 : Nat) : Int) := by
  have h1 : IntKind.u64.wrap ((i : Int) + (j : Int)) = (i : Int) + (j : Int) := by simp [IntKind.wrap, IntKind.bits, IntKind.signed]; omega
  rw [h1]
  have h2 : shrK .u64 ((i : Int) + (j : Int)) 1 = ((i : Int) + (j : Int)) / 2 := by
    show ((i : Int) + (j : Int)).fdiv (2 ^ 1) = _
    rw [Int.fdiv_eq_ediv_of_nonneg _ (by decide)]; rfl
  rw [h2, wrap_in (by omega) (by omega)]; omega
abbrev orderV : Value := .func (.func 79) #[] #[]
theorem bsf_spec {S : HProp} {a : Option Addr} {c : Nat} {ps : List PostV} (hS : Srd S 3 postC a ps) (hl : ps.length ≤ 1000) (hasc : ((ps.map PostV.p).map Prod.fst).Pairwise (fun a b => before a b = true)) (k : Key) :
    Ct Tryz.prog 78 [.slice a ps.length c, keyV k, orderV] [S] (fun v hs => (∃ i : Nat, v = .tuple #[int i, .bool (decide (ps[i]?.map PostV.k = some k))] ∧ cutI ps k i) ∧ hs = [S]) := by
  have hg : ∀ (p : PostV) (k : Key), Ct Tryz.prog 79 ([] ++ [postV p, keyV k] ++ []) [] (fun v hs => v = int (ordZ p.k k) ∧ hs = []) := fun p k => order_spec p k
  refine Ct.intro Tryz.func78 rfl (by kernel_rfl) 49 Tryz.ntmps78 (Nat.le_of_ble_eq_true rfl) fun w0 R => ?_
  refine Gs.slAddr (hS.h (by repeat constructor)) fun ab ao ha => ?_
  refine Gs.seq ?_
  refine Gs.reg ?_
  refine Go.Sl.L.ac rfl rfl trivial (ac_box rfl rfl) ?_
  rintro _ _ ⟨kb, rfl, rfl⟩
  refine Go.Sl.L.pu rfl rfl trivial (pu_assign rfl) ?_
  refine Go.Sl.L.pu rfl rfl trivial (pu_assign rfl) ?_
  refine Go.Sl.L.nil ?_
  refine Gs.then_n ?_
  refine Gs.seq ?_
  refine Gs.reg ?_
  refine Go.Sl.L.pu rfl rfl trivial (pu_move rfl) ?_
  refine Go.Sl.L.pu rfl rfl trivial (pu_len Tryz.underlying42 rfl) ?_
  refine Go.Sl.L.pu rfl rfl trivial (pu_assign rfl) ?_
  refine Go.Sl.L.nil ?_
  refine Gs.then_n ?_
  refine Gs.seq ?_
  refine Gs.reg ?_
  refine Go.Sl.L.pu rfl rfl trivial (pu_move rfl) ?_
  refine Go.Sl.L.pu rfl rfl trivial (pu_assign rfl) ?_
  refine Go.Sl.L.pu rfl rfl trivial (pu_assign rfl) ?_
  refine Go.Sl.L.nil ?_
  refine Gs.then_n ?_
  refine Gs.seq ?_
  refine Gs.block ?_
  refine Gs.loop1 (fun s : Nat × Nat => s.1 ≤ s.2 ∧ s.2 ≤ ps.length ∧ (∀ m x, m < s.1 → ps[m]? = some x → before x.k k = true) ∧ (∀ m x, s.2 ≤ m → ps[m]? = some x → before x.k k = false)) (fun s => [(0, .slice a ps.length c), (2, orderV), (4, ptr kb), (8, int ps.length), (9, int s.1), (10, int s.2)]) (fun s => [S, cl kb 31 (keyC k)] ++ R) (fun s => s.2 - s.1) (0, ps.length) (⟨Nat.zero_le _, Nat.le_refl _, fun m x h => by omega, fun m x h hx => by have := (List.getElem?_eq_some_iff.1 hx).1; omega⟩) (by repeat constructor) (by repeat constructor) (fun s hs => ?_)
  obtain ⟨i, j⟩ := s
  obtain ⟨hij, hj, hlo, hhi⟩ := hs
  dsimp only at hij hj hlo hhi ⊢
  refine Gs.seq ?_
  refine Gs.seq ?_
  refine Gs.reg ?_
  refine Go.Sl.L.pu rfl rfl trivial (pu_move rfl) ?_
  refine Go.Sl.L.pu rfl rfl trivial (pu_move rfl) ?_
  refine Go.Sl.L.pu rfl rfl trivial (pu_lt rfl rfl) ?_
  refine Go.Sl.L.nil ?_
  refine Gs.then_n ?_
  refine Gs.cond rfl (fun hc0 => ?_) (fun hc0 => ?_)
  · skip
    have hlt : i < j := by have := of_decide_eq_true hc0; omega
    obtain ⟨y, hy⟩ : ∃ x, ps[(i + j) / 2]? = some x := ⟨ps[(i + j) / 2]'(by omega), by simp⟩
    obtain rfl := ha (by rintro rfl; simp at hy)
    refine Gs.skip ?_
    refine Gs.then_n ?_
    refine Gs.block ?_
    refine Gs.seq ?_
    refine Gs.reg ?_
    refine Go.Sl.L.pu rfl rfl trivial (pu_move rfl) ?_
    refine Go.Sl.L.pu rfl rfl trivial (pu_move rfl) ?_
    refine Go.Sl.L.pu rfl rfl trivial (by first | exact pu_addI rfl rfl rfl (by omega) (by omega) | exact pu_add rfl rfl) ?_
    refine Go.Sl.L.pu rfl rfl trivial (pu_conv Tryz.underlying3 Tryz.underlying118 rfl) ?_
    refine Go.Sl.L.pu rfl rfl trivial (pu_shr rfl rfl (by omega)) ?_
    refine Go.Sl.L.pu rfl rfl trivial (pu_conv Tryz.underlying118 Tryz.underlying3 rfl) ?_
    rw [half (by omega)]
    refine Go.Sl.L.pu rfl rfl trivial (pu_assign rfl) ?_
    refine Go.Sl.L.nil ?_
    refine Gs.then_n ?_
    refine Gs.seq ?_
    refine Gs.regD mixed (by kernel_rfl) ?_
    refine Rg.pu 0 rfl rfl (by kernel_rfl) trivial (pu_move rfl) ?_
    refine Rg.pu 1 rfl rfl (by kernel_rfl) trivial (pu_move rfl) ?_
    refine Rg.pu 2 rfl rfl (by kernel_rfl) trivial (pu_move rfl) ?_
    refine Rg.pu 3 rfl rfl (by kernel_rfl) trivial (pu_ia se_42 rfl rfl (by omega) (by omega)) ?_
    refine Rg.rd 4 rfl rfl (by kernel_rfl) trivial (rd_lda ag_66 rfl (Rdc.el0 (hS.h (by repeat constructor)) hy rfl rfl) rfl) ?_
    refine Rg.rd 5 rfl rfl (by kernel_rfl) trivial (rd_lda ag_31 rfl (Rdc.cl 2 (by repeat constructor) rfl) rfl) ?_
    refine Rg.one (by kernel_rfl) (Stp.ac 6 rfl rfl (by kernel_rfl) trivial (as_callV rfl (hg y k) (by repeat constructor) (by repeat constructor))  ?_)
    rintro _ _ ⟨_, ⟨rfl, rfl⟩, rfl⟩
    refine Rg.pu 7 rfl rfl (by kernel_rfl) trivial (pu_lt rfl rfl) ?_
    refine Rg.end (by kernel_rfl) ?_
    refine Gs.then_n ?_
    refine Gs.cond rfl (fun hc1 => ?_) (fun hc1 => ?_)
    · skip
      have hby : before y.k k = true := by rw [← ordZ_lt]; exact hc1
      have hlo2 : ∀ m x, m < (i + j) / 2 + 1 → ps[m]? = some x → before x.k k = true := fun m x hm hx => by
        rcases Nat.lt_or_eq_of_le (Nat.lt_succ_iff.1 hm) with h | h
        · exact before_trans (asc_lt hasc h hx hy) hby
        · subst h; rw [hy] at hx; cases hx; exact hby
      refine Gs.reg ?_
      refine Go.Sl.L.pu rfl rfl trivial (pu_move rfl) ?_
      refine Go.Sl.L.pu rfl rfl trivial (pu_addI (z := (((i + j) / 2 + 1 : Nat) : Int)) rfl rfl (by omega) (by omega) (by omega)) ?_
      refine Go.Sl.L.pu rfl rfl trivial (pu_assign rfl) ?_
      refine Go.Sl.L.nil ?_
      refine Gs.blk_n ?_
      refine Gs.then_n ?_
      first | exact Gs.again1 ((i + j) / 2 + 1, j) ⟨by show (i + j) / 2 + 1 ≤ j; omega, hj, hlo2, hhi⟩ (by show j - ((i + j) / 2 + 1) < j - i; omega) (by repeat constructor) (by repeat constructor) | exact Gs.again1 (i, (i + j) / 2) ⟨by show i ≤ (i + j) / 2; omega, by show (i + j) / 2 ≤ ps.length; omega, hlo, hhi2⟩ (by show (i + j) / 2 - i < j - i; omega) (by repeat constructor) (by repeat constructor)
    · skip
      have hby : before y.k k = false := by rw [← ordZ_lt]; exact hc1
      have hhi2 : ∀ m x, (i + j) / 2 ≤ m → ps[m]? = some x → before x.k k = false := fun m x hm hx => by
        rcases Nat.lt_or_eq_of_le hm with h | h
        · cases hb : before x.k k with
          | false => rfl
          | true => rw [before_trans (asc_lt hasc h hy hx) hb] at hby; cases hby
        · subst h; rw [hy] at hx; cases hx; exact hby
      refine Gs.reg ?_
      refine Go.Sl.L.pu rfl rfl trivial (pu_move rfl) ?_
      refine Go.Sl.L.pu rfl rfl trivial (pu_assign rfl) ?_
      refine Go.Sl.L.nil ?_
      refine Gs.blk_n ?_
      refine Gs.then_n ?_
      first | exact Gs.again1 ((i + j) / 2 + 1, j) ⟨by show (i + j) / 2 + 1 ≤ j; omega, hj, hlo2, hhi⟩ (by show j - ((i + j) / 2 + 1) < j - i; omega) (by repeat constructor) (by repeat constructor) | exact Gs.again1 (i, (i + j) / 2) ⟨by show i ≤ (i + j) / 2; omega, by show (i + j) / 2 ≤ ps.length; omega, hlo, hhi2⟩ (by show (i + j) / 2 - i < j - i; omega) (by repeat constructor) (by repeat constructor)
  · skip
    have hge : i = j := by have := of_decide_eq_false hc0; omega
    subst hge
    refine Gs.exit ?_
    refine Gs.then_x ?_
    refine Gs.then_x ?_
    refine Gs.blk_hit ?_
    refine Gs.then_n ?_
    refine Gs.seq ?_
    refine Gs.regD mixed (by kernel_rfl) ?_
    refine Rg.pu 0 rfl rfl (by kernel_rfl) trivial (pu_move rfl) ?_
    refine Rg.pu 1 rfl rfl (by kernel_rfl) trivial (pu_move rfl) ?_
    refine Rg.pu 2 rfl rfl (by kernel_rfl) trivial (pu_move rfl) ?_
    refine Rg.pu 3 rfl rfl (by kernel_rfl) trivial (pu_lt rfl rfl) ?_
    refine Rg.puB 4 rfl rfl (by kernel_rfl) trivial (pu_move rfl) (fun hg4 => ?_) (fun hg4 => ?_)
    · skip
      have hlt : i < ps.length := by have := of_decide_eq_true hg4; omega
      obtain ⟨y, hy⟩ : ∃ x, ps[i]? = some x := ⟨ps[i], by simp [hlt]⟩
      obtain rfl := ha (by rintro rfl; simp at hy)
      have hval : ps[i]?.map PostV.k = some y.k := by rw [hy]; rfl
      refine Rg.pu 5 rfl rfl (by kernel_rfl) ⟨_, rfl, rfl⟩ (pu_move rfl) ?_
      refine Rg.pu 6 rfl rfl (by kernel_rfl) ⟨_, rfl, rfl⟩ (pu_move rfl) ?_
      refine Rg.pu 7 rfl rfl (by kernel_rfl) ⟨_, rfl, rfl⟩ (pu_move rfl) ?_
      refine Rg.pu 8 rfl rfl (by kernel_rfl) ⟨_, rfl, rfl⟩ (pu_ia se_42 rfl rfl (by omega) (by omega)) ?_
      refine Rg.rd 9 rfl rfl (by kernel_rfl) ⟨_, rfl, rfl⟩ (rd_lda ag_66 rfl (Rdc.el0 (hS.h (by repeat constructor)) hy rfl rfl) rfl) ?_
      refine Rg.rd 10 rfl rfl (by kernel_rfl) ⟨_, rfl, rfl⟩ (rd_lda ag_31 rfl (Rdc.cl 2 (by repeat constructor) rfl) rfl) ?_
      refine Rg.one (by kernel_rfl) (Stp.ac 11 rfl rfl (by kernel_rfl) ⟨_, rfl, rfl⟩ (as_callV rfl (hg y k) (by repeat constructor) (by repeat constructor))  ?_)
      rintro _ _ ⟨_, ⟨rfl, rfl⟩, rfl⟩
      refine Rg.pu 12 rfl rfl (by kernel_rfl) ⟨_, rfl, rfl⟩ (pu_eq rfl rfl) ?_
      refine Rg.pu 13 rfl rfl (by kernel_rfl) trivial (by first | exact pu_pick_t rfl rfl | exact pu_pick_f rfl rfl) ?_
      refine Rg.pu 14 rfl rfl (by kernel_rfl) trivial (pu_assign rfl) ?_
      refine Rg.pu 15 rfl rfl (by kernel_rfl) trivial (pu_assign rfl) ?_
      refine Rg.end (by kernel_rfl) ?_
      refine Gs.then_n ?_
      refine Gs.ret ?_
      exact Gs.fin2 Tryz.results78 rfl rfl _ (⟨⟨i, by first | (rw [hval, ordZ_eq]; simp; done) | (rw [hval]; simp), hj, hlo, hhi⟩, rfl⟩) (by repeat constructor)
    · skip
      have hge : i = ps.length := by have := of_decide_eq_false hg4; omega
      have hval : ps[i]?.map PostV.k = none := by rw [hge]; simp
      refine Rg.off 5 rfl rfl (by kernel_rfl) rfl rfl rfl rfl ?_
      refine Rg.off 6 rfl rfl (by kernel_rfl) rfl rfl rfl rfl ?_
      refine Rg.off 7 rfl rfl (by kernel_rfl) rfl rfl rfl rfl ?_
      refine Rg.off 8 rfl rfl (by kernel_rfl) rfl rfl rfl rfl ?_
      refine Rg.off 9 rfl rfl (by kernel_rfl) rfl rfl rfl rfl ?_
      refine Rg.off 10 rfl rfl (by kernel_rfl) rfl rfl rfl rfl ?_
      refine Rg.off 11 rfl rfl (by kernel_rfl) rfl rfl rfl rfl ?_
      refine Rg.off 12 rfl rfl (by kernel_rfl) rfl rfl rfl rfl ?_
      refine Rg.pu 13 rfl rfl (by kernel_rfl) trivial (by first | exact pu_pick_t rfl rfl | exact pu_pick_f rfl rfl) ?_
      refine Rg.pu 14 rfl rfl (by kernel_rfl) trivial (pu_assign rfl) ?_
      refine Rg.pu 15 rfl rfl (by kernel_rfl) trivial (pu_assign rfl) ?_
      refine Rg.end (by kernel_rfl) ?_
      refine Gs.then_n ?_
      refine Gs.ret ?_
      exact Gs.fin2 Tryz.results78 rfl rfl _ (⟨⟨i, by first | (rw [hval, ordZ_eq]; simp; done) | (rw [hval]; simp), hj, hlo, hhi⟩, rfl⟩) (by repeat constructor)
theorem zpost : postC PostV.zero = [int 0, int 0, .slice none 0 0] := rfl
end Go.Proofs.YtmbikfojljnnkaaGreatDoor

/- Walks: BinarySearch, IndexFunc, ContainsFunc at numbers; follow, each, And, Phrase (post). -/
namespace Go.Po
open Go Go.Sl Go.Gv
theorem rises_pw : ∀ {a : Int} {l : List Int}, risesFrom a l = true → l.Pairwise (· < ·) ∧ ∀ x ∈ l, a < x
  | _, [], _ => ⟨List.Pairwise.nil, fun _ h => (by cases h)⟩
  | a, n :: l, h => by
    simp only [risesFrom, Bool.and_eq_true, decide_eq_true_eq] at h
    obtain ⟨h1, h2⟩ := rises_pw h.2
    refine ⟨List.pairwise_cons.2 ⟨h2, h1⟩, fun x hx => ?_⟩
    rcases List.mem_cons.1 hx with rfl | hx
    · exact h.1
    · have := h2 x hx; omega
theorem pw_lt {l : List Int} (h : l.Pairwise (· < ·)) {i j : Nat} {x y : Int} (hij : i < j) (hx : l[i]? = some x) (hy : l[j]? = some y) : x < y := by
  obtain ⟨h1, rfl⟩ := List.getElem?_eq_some_iff.1 hx
  obtain ⟨h2, rfl⟩ := List.getElem?_eq_some_iff.1 hy
  exact List.pairwise_iff_getElem.1 h i j h1 h2 hij
theorem cut_mem {l : List Int} {z : Int} {i : Nat} (hlo : ∀ m x, m < i → l[m]? = some x → x < z) (hhi : ∀ m x, i ≤ m → l[m]? = some x → ¬ x < z) (hpw : l.Pairwise (· < ·)) : decide (z ∈ l) = decide (l[i]? = some z) := by
  refine decide_eq_decide.2 ⟨fun h => ?_, fun h => List.mem_of_getElem? h⟩
  obtain ⟨m, hm⟩ := List.mem_iff_getElem?.1 h
  rcases Nat.lt_or_ge m i with hlt | hge
  · have := hlo m z hlt hm; omega
  · rcases Nat.lt_or_eq_of_le hge with hlt | heq
    · have hl : m < l.length := (List.getElem?_eq_some_iff.1 hm).1
      have hi : l[i]? = some l[i] := by simp [show i < l.length by omega]
      have h1 := pw_lt hpw hlt hi hm
      exact (hhi i _ (Nat.le_refl i) hi h1).elim
    · rw [heq]; exact hm
/-- Do places follow one another? -/
def stepsFrom (a : Int) : Nat → List (List Int) → Bool
  | _, [] => true
  | i, l :: ls => decide (IntKind.i64.wrap (a + (i : Int)) ∈ l) && stepsFrom a (i + 1) ls
def followB : List (List Int) → Bool
  | [] => false
  | l :: ls => l.any fun a => stepsFrom a 0 (l :: ls)
theorem steps_snoc (a : Int) : ∀ (i : Nat) (ls : List (List Int)) (l : List Int), stepsFrom a i (ls ++ [l]) = (stepsFrom a i ls && decide (IntKind.i64.wrap (a + ((i + ls.length : Nat) : Int)) ∈ l))
  | i, [], l => by simp only [List.nil_append, stepsFrom, List.length_nil, Nat.add_zero, Bool.and_true, Bool.true_and]
  | i, m :: ls, l => by
    have h := steps_snoc a (i + 1) ls l
    simp only [List.cons_append, stepsFrom, h, List.length_cons, Bool.and_assoc]
    rw [show i + 1 + ls.length = i + (ls.length + 1) by omega]
theorem steps_take {a : Int} {ls : List (List Int)} {i : Nat} {l : List Int} (h : ls[i]? = some l) : stepsFrom a 0 (ls.take (i + 1)) = (stepsFrom a 0 (ls.take i) && decide (IntKind.i64.wrap (a + (i : Int)) ∈ l)) := by
  have hl := (List.getElem?_eq_some_iff.1 h).1
  rw [List.take_add_one, h]
  have := steps_snoc a 0 (ls.take i) l
  rw [List.length_take, Nat.zero_add, Nat.min_eq_left (by omega)] at this
  exact this
theorem steps_cut {a : Int} : ∀ {i : Nat} {ls ms : List (List Int)}, stepsFrom a i (ls ++ ms) = true → stepsFrom a i ls = true
  | _, [], _, _ => rfl
  | i, l :: ls, ms, h => by
    simp only [List.cons_append, stepsFrom, Bool.and_eq_true] at h ⊢
    exact ⟨h.1, steps_cut h.2⟩
theorem steps_not {a : Int} {ls : List (List Int)} {i : Nat} (h : stepsFrom a 0 (ls.take i) = false) : stepsFrom a 0 ls = false := by
  cases hr : stepsFrom a 0 ls with
  | false => rfl
  | true =>
    rw [← List.take_append_drop i ls] at hr
    rw [steps_cut hr] at h; cases h
end Go.Po
namespace Go.Proofs.YtmbikfojljnnkaaGreatDoor
open Go Go.Sl Go.Gv Go.Po
set_option maxRecDepth 100000
theorem nan1_spec (z : Int) : Ct Tryz.prog 146 [int z] [] (fun v hs => v = .bool false ∧ hs = []) := by
  refine Ct.intro Tryz.func146 rfl (by kernel_rfl) 6 Tryz.ntmps146 (Nat.le_of_ble_eq_true rfl) fun w0 R => ?_
  refine Gs.seq ?_
  refine Gs.reg ?_
  refine Go.Sl.L.pu rfl rfl trivial (pu_assign rfl) ?_
  refine Go.Sl.L.nil ?_
  refine Gs.then_n ?_
  refine Gs.seq ?_
  refine Gs.reg ?_
  refine Go.Sl.L.pu rfl rfl trivial (pu_move rfl) ?_
  refine Go.Sl.L.pu rfl rfl trivial (pu_move rfl) ?_
  refine Go.Sl.L.pu rfl rfl trivial (pu_ne rfl rfl) ?_
  refine Go.Sl.L.pu rfl rfl trivial (pu_assign rfl) ?_
  refine Go.Sl.L.nil ?_
  refine Gs.then_n ?_
  refine Gs.ret ?_
  exact Gs.fin1 Tryz.results146 rfl _ (⟨by simp, rfl⟩) (by repeat constructor)
theorem less_spec (x y : Int) : Ct Tryz.prog 111 [int x, int y] [] (fun v hs => v = .bool (decide (x < y)) ∧ hs = []) := by
  refine Ct.intro Tryz.func111 rfl (by kernel_rfl) 17 Tryz.ntmps111 (Nat.le_of_ble_eq_true rfl) fun w0 R => ?_
  refine Gs.seq ?_
  refine Gs.reg ?_
  refine Go.Sl.L.pu rfl rfl trivial (pu_assign rfl) ?_
  refine Go.Sl.L.nil ?_
  refine Gs.then_n ?_
  refine Gs.seq ?_
  refine Gs.reg ?_
  refine Go.Sl.L.pu rfl rfl trivial (pu_move rfl) ?_
  refine Go.Sl.L.ac rfl rfl trivial (as_call (nan1_spec x) (by repeat constructor) (by repeat constructor)) ?_
  rintro _ _ ⟨_, ⟨rfl, rfl⟩, rfl⟩
  refine Go.Sl.L.puBf rfl rfl trivial (pu_move rfl) rfl ?_
  refine Go.Sl.L.off rfl rfl rfl rfl rfl rfl ?_
  refine Go.Sl.L.off rfl rfl rfl rfl rfl rfl ?_
  refine Go.Sl.L.off rfl rfl rfl rfl rfl rfl ?_
  refine Go.Sl.L.pu rfl rfl trivial (by first | exact pu_pick_t rfl rfl | exact pu_pick_f rfl rfl) ?_
  refine Go.Sl.L.puBf rfl rfl trivial (pu_move rfl) rfl ?_
  refine Go.Sl.L.pu rfl rfl ⟨_, rfl, rfl⟩ (pu_move rfl) ?_
  refine Go.Sl.L.pu rfl rfl ⟨_, rfl, rfl⟩ (pu_move rfl) ?_
  refine Go.Sl.L.pu rfl rfl ⟨_, rfl, rfl⟩ (pu_lt rfl rfl) ?_
  refine Go.Sl.L.pu rfl rfl trivial (by first | exact pu_pick_t rfl rfl | exact pu_pick_f rfl rfl) ?_
  refine Go.Sl.L.pu rfl rfl trivial (pu_assign rfl) ?_
  refine Go.Sl.L.nil ?_
  refine Gs.then_n ?_
  refine Gs.ret ?_
  exact Gs.fin1 Tryz.results111 rfl _ (⟨rfl, rfl⟩) (by repeat constructor)
end Go.Proofs.YtmbikfojljnnkaaGreatDoor

/- Walks: follow, each, And, Phrase (post). -/
namespace Go.Po
open Go Go.Sl Go.Gv
/-- The posts of a key, of all lists that have one. -/
def foundV (ls : List (SlV PostV)) (k : Key) : List PostV := ls.filterMap fun l => lookP l.xs k
def eachV (q : List PostV → Bool) (ls : List (SlV PostV)) : List Key :=
  match ls with
  | [] => []
  | l0 :: r => if mayAll (ls.map fun l => l.xs.map PostV.p) then (l0.xs.filter fun p => decide ((p :: foundV r p.k).length = ls.length) && q (p :: foundV r p.k)).map PostV.k else []
theorem found_take {ls : List (SlV PostV)} {k : Key} {i : Nat} {l : SlV PostV} (h : ls[i]? = some l) : foundV (ls.take (i + 1)) k = foundV (ls.take i) k ++ (lookP l.xs k).toList := by
  rw [List.take_add_one, h]
  unfold foundV
  rw [List.filterMap_append]
  cases hl : lookP l.xs k <;> simp [hl]
theorem found_length (ls : List (SlV PostV)) (k : Key) : (foundV ls k).length ≤ ls.length := List.length_filterMap_le ..
theorem found_mem {ls : List (SlV PostV)} {k : Key} {p : PostV} (h : p ∈ foundV ls k) : ∃ l ∈ ls, p ∈ l.xs ∧ p.k = k := by
  obtain ⟨l, hl, hp⟩ := List.mem_filterMap.1 h
  exact ⟨l, hl, List.mem_of_find?_eq_some hp, by simpa using List.find?_some hp⟩
end Go.Po
namespace Go.Proofs.YtmbikfojljnnkaaGreatDoor
open Go Go.Sl Go.Gv Go.Po
set_option maxRecDepth 100000
/-- Places that may be searched. -/
def AtOk (S : HProp) (p : PostV) : Prop := Srd S 1 intC p.t.a p.t.xs ∧ p.t.xs.length ≤ 1000 ∧ risesB p.t.xs = true
theorem AtOk.pw {S : HProp} {p : PostV} (h : AtOk S p) : p.t.xs.Pairwise (· < ·) := by
  have := h.2.2
  simp only [risesB, Bool.and_eq_true] at this
  exact (rises_pw this.1).1
def followV (ps : List PostV) : Bool := followB (ps.map fun p => p.t.xs)
end Go.Proofs.YtmbikfojljnnkaaGreatDoor

/- Walks: each, And, Phrase (post). -/
namespace Go.Proofs.YtmbikfojljnnkaaGreatDoor
open Go Go.Sl Go.Gv Go.Po
set_option maxRecDepth 100000
theorem mayAll_of {ls : List (SlV PostV)} (h : mayAll (plain2 ls) = true) {l : SlV PostV} (hl : l ∈ ls) : mayB (plain1 l.xs) = true := by
  have := List.all_eq_true.1 h (plain1 l.xs) (List.mem_map.2 ⟨l, hl, rfl⟩)
  exact this
theorem AtOk.of {S : HProp} {a : Option Addr} {ls : List (SlV PostV)} (hS : LRd S a ls) (h : mayAll (plain2 ls) = true) {l : SlV PostV} (hl : l ∈ ls) {p : PostV} (hp : p ∈ l.xs) : AtOk S p :=
  ⟨((hS.2 l hl).1.2 p hp).1, ((hS.2 l hl).1.2 p hp).2, may_rises (mayAll_of h hl) p.p (List.mem_map.2 ⟨p, hp, rfl⟩)⟩
theorem filt_t {α β : Type} {f : α → Bool} {g : α → β} {l : List α} {i : Nat} {x : α} (h : l[i]? = some x) (hf : f x = true) : ((l.take (i + 1)).filter f).map g = ((l.take i).filter f).map g ++ [g x] := by
  rw [List.take_add_one, h]; simp [hf]
theorem filt_f {α β : Type} {f : α → Bool} {g : α → β} {l : List α} {i : Nat} {x : α} (h : l[i]? = some x) (hf : f x = false) : ((l.take (i + 1)).filter f).map g = ((l.take i).filter f).map g := by
  rw [List.take_add_one, h]; simp [hf]
end Go.Proofs.YtmbikfojljnnkaaGreatDoor

/- Walks: And, Into, Or (grapevineref10). -/
namespace Go.Sl
open Go
/-- What is pure, as an act: what it waits for is done by then. -/
theorem Pu.ac {P : Program} {w0 : World} {env : Env} {H : List HProp} {o : Oper} {v : Value} (h : Pu P o env v) : Ac P o w0 env H (fun u H'' => u = v ∧ H'' = H) := Ac.of_run fun ρ w r s => ⟨v, H, w, h ρ w r, ⟨rfl, rfl⟩, s⟩
end Go.Sl
namespace Go.Po
open Go Go.Sl Go.Gv
def hasAll (ls : List (SlV PostV)) (k : Key) : Bool := ls.all fun l => (lookP l.xs k).isSome
def andV (ls : List (SlV PostV)) : List Key :=
  match ls with
  | [] => []
  | l0 :: r => if mayAll (ls.map fun l => l.xs.map PostV.p) then (l0.xs.filter fun p => hasAll (l0 :: r) p.k).map PostV.k else []
theorem found_all (k : Key) : ∀ ls : List (SlV PostV), decide ((foundV ls k).length = ls.length) = hasAll ls k
  | [] => rfl
  | l :: ls => by
    have ih := found_all k ls
    have hle := found_length ls k
    unfold foundV hasAll at *
    cases hl : lookP l.xs k with
    | none =>
      rw [List.filterMap_cons_none (f := fun l : SlV PostV => lookP l.xs k) hl, List.all_cons, hl, List.length_cons]
      simp only [Option.isSome_none, Bool.false_and]
      exact decide_eq_false (by omega)
    | some p =>
      rw [List.filterMap_cons_some (f := fun l : SlV PostV => lookP l.xs k) hl, List.all_cons, hl, List.length_cons, List.length_cons, Option.isSome_some, Bool.true_and, ← ih]
      exact decide_eq_decide.2 ⟨fun h => by omega, fun h => by omega⟩
theorem look_self {l : List PostV} (h : ((l.map PostV.p).map Prod.fst).Pairwise (fun a b => before a b = true)) {p : PostV} (hp : p ∈ l) : lookP l p.k = some p := by
  induction l with
  | nil => cases hp
  | cons x l ih =>
    simp only [List.map_cons, List.pairwise_cons] at h
    unfold lookP
    rw [List.find?_cons]
    rcases List.mem_cons.1 hp with rfl | hp
    · simp
    · have hb := h.1 p.k (List.mem_map.2 ⟨p.p, List.mem_map.2 ⟨p, hp, rfl⟩, rfl⟩)
      have hne : ¬ x.k = p.k := fun e => by
        have hb' : before x.k p.k = true := hb
        rw [e, before_irr] at hb'; cases hb'
      simp only [hne, decide_false]; exact ih h.2 hp
theorem andV_eq (ls : List (SlV PostV)) : eachV (fun _ => true) ls = andV ls := by
  unfold eachV andV
  split
  · rfl
  · rename_i l0 r
    split
    · rename_i hm
      congr 1
      refine List.filter_congr fun p hp => ?_
      have h0 : mayB (l0.xs.map PostV.p) = true := List.all_eq_true.1 hm _ (by simp)
      have hl := look_self (may_asc h0) hp
      rw [Bool.and_true, ← found_all]
      unfold foundV
      rw [List.filterMap_cons_some (f := fun l : SlV PostV => lookP l.xs p.k) hl]
    · rfl
theorem int_if_ge {p : Bool} {i : Nat} : decide (0 ≤ (if p = true then (i : Int) else -1)) = p := by
  cases p <;> simp
end Go.Po
namespace Go.Proofs.YtmbikfojljnnkaaGreatDoor
open Go Go.Sl Go.Gv Go.Po
set_option maxRecDepth 100000
theorem at_le (ks : List Key) (k : Key) : at_ ks k ≤ ks.length := List.findIdx_le_length
theorem at_step {ks : List Key} {k x : Key} {i : Nat} (hi : i ≤ at_ ks k) (hx : ks[i]? = some x) : if before x k then i + 1 ≤ at_ ks k else i = at_ ks k := by
  obtain ⟨hl, rfl⟩ := List.getElem?_eq_some_iff.1 hx
  split
  · rename_i hb
    rcases Nat.lt_or_eq_of_le hi with h | h
    · exact h
    · have h2 : at_ ks k < ks.length := by omega
      have := List.findIdx_getElem (p := fun x => !before x k) (xs := ks) (w := h2)
      have e : ks[List.findIdx (fun x => !before x k) ks] = ks[i] := by congr 1; exact h.symm
      rw [e, hb] at this; cases this
  · rename_i hb
    rcases Nat.lt_or_eq_of_le hi with h | h
    · have := List.not_of_lt_findIdx (p := fun x => !before x k) (xs := ks) h
      simp at this; exact (hb this).elim
    · exact h
theorem into_spec (a : Option Addr) (c : Nat) (ks : List Key) (hl : ks.length ≤ 100000) (k : Key) :
    Ct Tryz.prog 20 [.slice a ks.length c, keyV k] [sl 31 2 keyC a c ks] (fun v hs => ∃ a' c', v = .slice a' (intoL ks k).length c' ∧ hs = [sl 31 2 keyC a' c' (intoL ks k)]) := by
  have hle := at_le ks k
  refine Ct.intro Tryz.func20 rfl (by kernel_rfl) 44 Tryz.ntmps20 (Nat.le_of_ble_eq_true rfl) fun w0 R => ?_
  refine Gs.slAddr (SlH.own (by repeat constructor) : SlH _ _ 2 keyC a ks) fun ab ao ha => ?_
  refine Gs.slLen (E := 31) (sz := 2) (enc := keyC) (a := a) (c := c) (xs := ks) (by repeat constructor) fun hlc => ?_
  refine Gs.seq ?_
  refine Gs.reg ?_
  refine Go.Sl.L.ac rfl rfl trivial (ac_box rfl rfl) ?_
  rintro _ _ ⟨b3, rfl, rfl⟩
  refine Go.Sl.L.pu rfl rfl trivial (pu_assign rfl) ?_
  refine Go.Sl.L.nil ?_
  refine Gs.then_n ?_
  refine Gs.seq ?_
  refine Gs.reg ?_
  refine Go.Sl.L.pu rfl rfl trivial (pu_assign rfl) ?_
  refine Go.Sl.L.nil ?_
  refine Gs.then_n ?_
  refine Gs.seq ?_
  refine Gs.block ?_
  refine Gs.loop1 (fun i : Nat => i ≤ at_ ks k) (fun i => [(0, .slice a ks.length c), (3, ptr b3), (5, int i)]) (fun i => [cl b3 31 (keyC k), sl 31 2 keyC a c ks] ++ R) (fun i => ks.length - i) 0 (Nat.zero_le _) (by repeat constructor) (by repeat constructor) (fun i hi => ?_)
  refine Gs.seq ?_
  refine Gs.seq ?_
  refine Gs.regD mixed (by kernel_rfl) ?_
  refine Rg.pu 0 rfl rfl (by kernel_rfl) trivial (pu_move rfl) ?_
  refine Rg.pu 1 rfl rfl (by kernel_rfl) trivial (pu_move rfl) ?_
  refine Rg.pu 2 rfl rfl (by kernel_rfl) trivial (pu_len Tryz.underlying47 rfl) ?_
  refine Rg.pu 3 rfl rfl (by kernel_rfl) trivial (pu_lt rfl rfl) ?_
  refine Rg.puB 4 rfl rfl (by kernel_rfl) trivial (pu_move rfl) (fun hg4 => ?_) (fun hg4 => ?_)
  · skip
    have hlt : i < ks.length := by have := of_decide_eq_true hg4; omega
    obtain ⟨x, hx⟩ : ∃ x, ks[i]? = some x := ⟨ks[i], by simp [hlt]⟩
    have hst := at_step hi hx
    obtain rfl := ha (by rintro rfl; simp at hlt)
    refine Rg.pu 5 rfl rfl (by kernel_rfl) ⟨_, rfl, rfl⟩ (pu_move rfl) ?_
    refine Rg.pu 6 rfl rfl (by kernel_rfl) ⟨_, rfl, rfl⟩ (pu_move rfl) ?_
    refine Rg.pu 7 rfl rfl (by kernel_rfl) ⟨_, rfl, rfl⟩ (pu_ia se_47 rfl rfl (by omega) (by omega)) ?_
    refine Rg.rd 8 rfl rfl (by kernel_rfl) ⟨_, rfl, rfl⟩ (rd_lda ag_31 rfl (Rdc.el0 (SlH.own (by repeat constructor)) hx rfl rfl) rfl) ?_
    refine Rg.rd 9 rfl rfl (by kernel_rfl) ⟨_, rfl, rfl⟩ (rd_lda ag_31 rfl (Rdc.cl 2 (by repeat constructor) rfl) rfl) ?_
    refine Rg.one (by kernel_rfl) (Stp.ac 10 rfl rfl (by kernel_rfl) ⟨_, rfl, rfl⟩ (as_call (before4_spec x k) (by repeat constructor) (by repeat constructor))  ?_)
    rintro _ _ ⟨_, ⟨rfl, rfl⟩, rfl⟩
    refine Rg.pu 11 rfl rfl (by kernel_rfl) trivial (by first | exact pu_pick_t rfl rfl | exact pu_pick_f rfl rfl) ?_
    refine Rg.end (by kernel_rfl) ?_
    refine Gs.then_n ?_
    refine Gs.cond rfl (fun hc0 => ?_) (fun hc0 => ?_)
    · skip
      rw [if_pos hc0] at hst
      refine Gs.skip ?_
      refine Gs.then_n ?_
      refine Gs.block ?_
      refine Gs.reg ?_
      refine Go.Sl.L.pu rfl rfl trivial (pu_move rfl) ?_
      refine Go.Sl.L.pu rfl rfl trivial (by first | exact pu_addI rfl rfl rfl (by omega) (by omega) | exact pu_add rfl rfl) ?_
      refine Go.Sl.L.pu rfl rfl trivial (pu_assign rfl) ?_
      refine Go.Sl.L.nil ?_
      refine Gs.blk_n ?_
      refine Gs.then_n ?_
      exact Gs.again1 (i + 1) (by omega) (by omega) (by repeat constructor) (by repeat constructor)
    · skip
      rw [if_neg (by rw [hc0]; decide)] at hst
      have he := hst
      refine Gs.exit ?_
      refine Gs.then_x ?_
      refine Gs.then_x ?_
      refine Gs.blk_hit ?_
      refine Gs.then_n ?_
      refine Gs.seq ?_
      refine Gs.seq ?_
      refine Gs.regD mixed (by kernel_rfl) ?_
      refine Rg.pu 0 rfl rfl (by kernel_rfl) trivial (pu_move rfl) ?_
      refine Rg.pu 1 rfl rfl (by kernel_rfl) trivial (pu_move rfl) ?_
      refine Rg.pu 2 rfl rfl (by kernel_rfl) trivial (pu_len Tryz.underlying47 rfl) ?_
      refine Rg.pu 3 rfl rfl (by kernel_rfl) trivial (pu_lt rfl rfl) ?_
      refine Rg.puB 4 rfl rfl (by kernel_rfl) trivial (pu_move rfl) (fun hg4 => ?_) (fun hg4 => ?_)
      · skip
        have hlt2 : i < ks.length := by have := of_decide_eq_true hg4; omega
        obtain ⟨x2, hx2⟩ : ∃ x, ks[i]? = some x := ⟨ks[i], by simp [hlt2]⟩
        try obtain rfl := ha (by rintro rfl; simp at hlt2)
        refine Rg.pu 5 rfl rfl (by kernel_rfl) ⟨_, rfl, rfl⟩ (pu_move rfl) ?_
        refine Rg.pu 6 rfl rfl (by kernel_rfl) ⟨_, rfl, rfl⟩ (pu_move rfl) ?_
        refine Rg.pu 7 rfl rfl (by kernel_rfl) ⟨_, rfl, rfl⟩ (pu_ia se_47 rfl rfl (by omega) (by omega)) ?_
        refine Rg.rd 8 rfl rfl (by kernel_rfl) ⟨_, rfl, rfl⟩ (rd_lda ag_31 rfl (Rdc.el0 (SlH.own (by repeat constructor)) hx2 rfl rfl) rfl) ?_
        refine Rg.rd 9 rfl rfl (by kernel_rfl) ⟨_, rfl, rfl⟩ (rd_lda ag_31 rfl (Rdc.cl 2 (by repeat constructor) rfl) rfl) ?_
        refine Rg.pu 10 rfl rfl (by kernel_rfl) ⟨_, rfl, rfl⟩ (pu_eqT (a := x2) (b := k) cmp_31 (by decide) Tryz.eqGuardType31 rfl rfl) ?_
        refine Rg.pu 11 rfl rfl (by kernel_rfl) trivial (by first | exact pu_pick_t rfl rfl | exact pu_pick_f rfl rfl) ?_
        refine Rg.end (by kernel_rfl) ?_
        refine Gs.then_n ?_
        refine Gs.cond rfl (fun hc1 => ?_) (fun hc1 => ?_)
        · skip
          have hin : intoL ks k = ks := by
            have h1 : x2 = k := of_decide_eq_true hc1
            unfold intoL; rw [if_pos (by rw [← he, hx2, h1])]
          refine Gs.seq ?_
          refine Gs.reg ?_
          refine Go.Sl.L.pu rfl rfl trivial (pu_move rfl) ?_
          refine Go.Sl.L.pu rfl rfl trivial (pu_assign rfl) ?_
          refine Go.Sl.L.nil ?_
          refine Gs.then_n ?_
          refine Gs.ret ?_
          refine Gs.then_r ?_
          exact Gs.fin1 Tryz.results20 rfl _ (⟨_, _, by rw [hin], by rw [hin]⟩) (by repeat constructor)
        · skip
          have hne : ¬ ks[at_ ks k]? = some k := fun e => by
            have h1 : x2 ≠ k := of_decide_eq_false hc1
            rw [← he, hx2] at e; exact h1 (Option.some.inj e)
          refine Gs.skip ?_
          refine Gs.then_n ?_
          refine Gs.seq ?_
          have hin : ks.take i ++ [k] ++ ks.drop i = intoL ks k := by unfold intoL; rw [if_neg hne, he]
          refine Gs.regD mixed (by kernel_rfl) ?_
          refine Rg.pu 0 rfl rfl (by kernel_rfl) trivial (pu_move rfl) ?_
          refine Rg.pu 1 rfl rfl (by kernel_rfl) trivial (pu_move rfl) ?_
          refine Rg.pu 2 rfl rfl (by kernel_rfl) trivial (pu_sliceH et_47 rfl rfl (by omega) (by omega)) ?_
          refine Rg.rd 4 rfl rfl (by kernel_rfl) trivial (rd_lda ag_31 rfl (Rdc.cl 2 (by repeat constructor) rfl) rfl) ?_
          refine Rg.pu 7 rfl rfl (by kernel_rfl) trivial (pu_move rfl) ?_
          refine Rg.pu 8 rfl rfl (by kernel_rfl) trivial (pu_move rfl) ?_
          refine Rg.pu 9 rfl rfl (by kernel_rfl) trivial (pu_sliceL et_47 rfl rfl (by omega) (by omega)) ?_
          refine Rg.two (by kernel_rfl) (Stp.acK 3 rfl rfl (by kernel_rfl) trivial (ac_copy et_47 ek_31 rfl rfl (SrcH.sl' (ys := ks.take i) Tryz.underlying47 ek_31 (by simp <;> omega) (SlH.cutH (SlH.own (by repeat constructor)) _ _ hlc)) (by first | omega | (simp; omega)) (by first | omega | (simp; omega))) (by rintro _ _ ⟨a36, c36, rfl, rfl⟩ w s; first | exact s.drop | exact s | exact Ent.sat (by repeat constructor) s) ?_) (Stp.ac 5 rfl rfl (by kernel_rfl) trivial (ac_lit encC_31 ([k]) et_47 ek_31 rfl (by repeat constructor) rfl rfl (by decide))  ?_)
          · skip
            rintro _ _ ⟨a36, c36, rfl, rfl⟩
            refine Rg.one (by kernel_rfl) (Stp.ac 5 rfl rfl (by kernel_rfl) trivial (ac_lit encC_31 ([k]) et_47 ek_31 rfl (by repeat constructor) rfl rfl (by decide))  ?_)
            rintro _ _ ⟨a38, rfl, rfl⟩
            refine Rg.one (by kernel_rfl) (Stp.ac 6 rfl rfl (by kernel_rfl) trivial (ac_append et_47 ek_31 rfl rfl (by repeat constructor) (SrcH.sl Tryz.underlying47 ek_31 (SlH.own (by repeat constructor))) (by first | omega | (simp; omega)) (by first | omega | (simp; omega)))  ?_)
            rintro _ _ ⟨a39, c39, rfl, rfl⟩
            refine Rg.one (by kernel_rfl) (Stp.ac 10 rfl rfl (by kernel_rfl) trivial (ac_append et_47 ek_31 rfl rfl (by repeat constructor) (SrcH.sl' (ys := ks.drop i) Tryz.underlying47 ek_31 (by simp <;> omega) (SlH.cutL (SlH.own (by repeat constructor)) _ _ hlc)) (by first | omega | (simp; omega)) (by first | omega | (simp; omega)))  ?_)
            rintro _ _ ⟨a43, c43, rfl, rfl⟩
            rw [hin]
            refine Rg.pu 11 rfl rfl (by kernel_rfl) trivial (pu_assign rfl) ?_
            refine Rg.end (by kernel_rfl) ?_
            refine Gs.then_n ?_
            refine Gs.ret ?_
            exact Gs.fin1 Tryz.results20 rfl _ (⟨_, _, rfl, rfl⟩) (by repeat constructor)
          · skip
            rintro _ _ ⟨a38, rfl, rfl⟩
            refine Rg.one (by kernel_rfl) (Stp.ac 3 rfl rfl (by kernel_rfl) trivial (ac_copy et_47 ek_31 rfl rfl (SrcH.sl' (ys := ks.take i) Tryz.underlying47 ek_31 (by simp <;> omega) (SlH.cutH (SlH.own (by repeat constructor)) _ _ hlc)) (by first | omega | (simp; omega)) (by first | omega | (simp; omega)))  ?_)
            rintro _ _ ⟨a36, c36, rfl, rfl⟩
            refine Rg.one (by kernel_rfl) (Stp.ac 6 rfl rfl (by kernel_rfl) trivial (ac_append et_47 ek_31 rfl rfl (by repeat constructor) (SrcH.sl Tryz.underlying47 ek_31 (SlH.own (by repeat constructor))) (by first | omega | (simp; omega)) (by first | omega | (simp; omega)))  ?_)
            rintro _ _ ⟨a39, c39, rfl, rfl⟩
            refine Rg.one (by kernel_rfl) (Stp.ac 10 rfl rfl (by kernel_rfl) trivial (ac_append et_47 ek_31 rfl rfl (by repeat constructor) (SrcH.sl' (ys := ks.drop i) Tryz.underlying47 ek_31 (by simp <;> omega) (SlH.cutL (SlH.own (by repeat constructor)) _ _ hlc)) (by first | omega | (simp; omega)) (by first | omega | (simp; omega)))  ?_)
            rintro _ _ ⟨a43, c43, rfl, rfl⟩
            rw [hin]
            refine Rg.pu 11 rfl rfl (by kernel_rfl) trivial (pu_assign rfl) ?_
            refine Rg.end (by kernel_rfl) ?_
            refine Gs.then_n ?_
            refine Gs.ret ?_
            exact Gs.fin1 Tryz.results20 rfl _ (⟨_, _, rfl, rfl⟩) (by repeat constructor)
      · skip
        have hne : ¬ ks[at_ ks k]? = some k := fun e => by
          have h1 := of_decide_eq_false hg4
          have h2 := (List.getElem?_eq_some_iff.1 e).1
          omega
        refine Rg.off 5 rfl rfl (by kernel_rfl) rfl rfl rfl rfl ?_
        refine Rg.off 6 rfl rfl (by kernel_rfl) rfl rfl rfl rfl ?_
        refine Rg.off 7 rfl rfl (by kernel_rfl) rfl rfl rfl rfl ?_
        refine Rg.off 8 rfl rfl (by kernel_rfl) rfl rfl rfl rfl ?_
        refine Rg.off 9 rfl rfl (by kernel_rfl) rfl rfl rfl rfl ?_
        refine Rg.off 10 rfl rfl (by kernel_rfl) rfl rfl rfl rfl ?_
        refine Rg.pu 11 rfl rfl (by kernel_rfl) trivial (by first | exact pu_pick_t rfl rfl | exact pu_pick_f rfl rfl) ?_
        refine Rg.end (by kernel_rfl) ?_
        refine Gs.then_n ?_
        refine Gs.cond_f rfl ?_
        refine Gs.skip ?_
        refine Gs.then_n ?_
        refine Gs.seq ?_
        have hin : ks.take i ++ [k] ++ ks.drop i = intoL ks k := by unfold intoL; rw [if_neg hne, he]
        refine Gs.regD mixed (by kernel_rfl) ?_
        refine Rg.pu 0 rfl rfl (by kernel_rfl) trivial (pu_move rfl) ?_
        refine Rg.pu 1 rfl rfl (by kernel_rfl) trivial (pu_move rfl) ?_
        refine Rg.pu 2 rfl rfl (by kernel_rfl) trivial (pu_sliceH et_47 rfl rfl (by omega) (by omega)) ?_
        refine Rg.rd 4 rfl rfl (by kernel_rfl) trivial (rd_lda ag_31 rfl (Rdc.cl 2 (by repeat constructor) rfl) rfl) ?_
        refine Rg.pu 7 rfl rfl (by kernel_rfl) trivial (pu_move rfl) ?_
        refine Rg.pu 8 rfl rfl (by kernel_rfl) trivial (pu_move rfl) ?_
        refine Rg.pu 9 rfl rfl (by kernel_rfl) trivial (pu_sliceL et_47 rfl rfl (by omega) (by omega)) ?_
        refine Rg.two (by kernel_rfl) (Stp.acK 3 rfl rfl (by kernel_rfl) trivial (ac_copy et_47 ek_31 rfl rfl (SrcH.sl' (ys := ks.take i) Tryz.underlying47 ek_31 (by simp <;> omega) (SlH.cutH (SlH.own (by repeat constructor)) _ _ hlc)) (by first | omega | (simp; omega)) (by first | omega | (simp; omega))) (by rintro _ _ ⟨a36, c36, rfl, rfl⟩ w s; first | exact s.drop | exact s | exact Ent.sat (by repeat constructor) s) ?_) (Stp.ac 5 rfl rfl (by kernel_rfl) trivial (ac_lit encC_31 ([k]) et_47 ek_31 rfl (by repeat constructor) rfl rfl (by decide))  ?_)
        · skip
          rintro _ _ ⟨a36, c36, rfl, rfl⟩
          refine Rg.one (by kernel_rfl) (Stp.ac 5 rfl rfl (by kernel_rfl) trivial (ac_lit encC_31 ([k]) et_47 ek_31 rfl (by repeat constructor) rfl rfl (by decide))  ?_)
          rintro _ _ ⟨a38, rfl, rfl⟩
          refine Rg.one (by kernel_rfl) (Stp.ac 6 rfl rfl (by kernel_rfl) trivial (ac_append et_47 ek_31 rfl rfl (by repeat constructor) (SrcH.sl Tryz.underlying47 ek_31 (SlH.own (by repeat constructor))) (by first | omega | (simp; omega)) (by first | omega | (simp; omega)))  ?_)
          rintro _ _ ⟨a39, c39, rfl, rfl⟩
          refine Rg.one (by kernel_rfl) (Stp.ac 10 rfl rfl (by kernel_rfl) trivial (ac_append et_47 ek_31 rfl rfl (by repeat constructor) (SrcH.sl' (ys := ks.drop i) Tryz.underlying47 ek_31 (by simp <;> omega) (SlH.cutL (SlH.own (by repeat constructor)) _ _ hlc)) (by first | omega | (simp; omega)) (by first | omega | (simp; omega)))  ?_)
          rintro _ _ ⟨a43, c43, rfl, rfl⟩
          rw [hin]
          refine Rg.pu 11 rfl rfl (by kernel_rfl) trivial (pu_assign rfl) ?_
          refine Rg.end (by kernel_rfl) ?_
          refine Gs.then_n ?_
          refine Gs.ret ?_
          exact Gs.fin1 Tryz.results20 rfl _ (⟨_, _, rfl, rfl⟩) (by repeat constructor)
        · skip
          rintro _ _ ⟨a38, rfl, rfl⟩
          refine Rg.one (by kernel_rfl) (Stp.ac 3 rfl rfl (by kernel_rfl) trivial (ac_copy et_47 ek_31 rfl rfl (SrcH.sl' (ys := ks.take i) Tryz.underlying47 ek_31 (by simp <;> omega) (SlH.cutH (SlH.own (by repeat constructor)) _ _ hlc)) (by first | omega | (simp; omega)) (by first | omega | (simp; omega)))  ?_)
          rintro _ _ ⟨a36, c36, rfl, rfl⟩
          refine Rg.one (by kernel_rfl) (Stp.ac 6 rfl rfl (by kernel_rfl) trivial (ac_append et_47 ek_31 rfl rfl (by repeat constructor) (SrcH.sl Tryz.underlying47 ek_31 (SlH.own (by repeat constructor))) (by first | omega | (simp; omega)) (by first | omega | (simp; omega)))  ?_)
          rintro _ _ ⟨a39, c39, rfl, rfl⟩
          refine Rg.one (by kernel_rfl) (Stp.ac 10 rfl rfl (by kernel_rfl) trivial (ac_append et_47 ek_31 rfl rfl (by repeat constructor) (SrcH.sl' (ys := ks.drop i) Tryz.underlying47 ek_31 (by simp <;> omega) (SlH.cutL (SlH.own (by repeat constructor)) _ _ hlc)) (by first | omega | (simp; omega)) (by first | omega | (simp; omega)))  ?_)
          rintro _ _ ⟨a43, c43, rfl, rfl⟩
          rw [hin]
          refine Rg.pu 11 rfl rfl (by kernel_rfl) trivial (pu_assign rfl) ?_
          refine Rg.end (by kernel_rfl) ?_
          refine Gs.then_n ?_
          refine Gs.ret ?_
          exact Gs.fin1 Tryz.results20 rfl _ (⟨_, _, rfl, rfl⟩) (by repeat constructor)
  · skip
    have he : i = at_ ks k := by have := of_decide_eq_false hg4; omega
    refine Rg.off 5 rfl rfl (by kernel_rfl) rfl rfl rfl rfl ?_
    refine Rg.off 6 rfl rfl (by kernel_rfl) rfl rfl rfl rfl ?_
    refine Rg.off 7 rfl rfl (by kernel_rfl) rfl rfl rfl rfl ?_
    refine Rg.off 8 rfl rfl (by kernel_rfl) rfl rfl rfl rfl ?_
    refine Rg.off 9 rfl rfl (by kernel_rfl) rfl rfl rfl rfl ?_
    refine Rg.off 10 rfl rfl (by kernel_rfl) rfl rfl rfl rfl ?_
    refine Rg.pu 11 rfl rfl (by kernel_rfl) trivial (by first | exact pu_pick_t rfl rfl | exact pu_pick_f rfl rfl) ?_
    refine Rg.end (by kernel_rfl) ?_
    refine Gs.then_n ?_
    refine Gs.cond_f rfl ?_
    refine Gs.exit ?_
    refine Gs.then_x ?_
    refine Gs.then_x ?_
    refine Gs.blk_hit ?_
    refine Gs.then_n ?_
    refine Gs.seq ?_
    refine Gs.seq ?_
    refine Gs.regD mixed (by kernel_rfl) ?_
    refine Rg.pu 0 rfl rfl (by kernel_rfl) trivial (pu_move rfl) ?_
    refine Rg.pu 1 rfl rfl (by kernel_rfl) trivial (pu_move rfl) ?_
    refine Rg.pu 2 rfl rfl (by kernel_rfl) trivial (pu_len Tryz.underlying47 rfl) ?_
    refine Rg.pu 3 rfl rfl (by kernel_rfl) trivial (pu_lt rfl rfl) ?_
    refine Rg.puB 4 rfl rfl (by kernel_rfl) trivial (pu_move rfl) (fun hg4 => ?_) (fun hg4 => ?_)
    · skip
      have hlt2 : i < ks.length := by have := of_decide_eq_true hg4; omega
      obtain ⟨x2, hx2⟩ : ∃ x, ks[i]? = some x := ⟨ks[i], by simp [hlt2]⟩
      try obtain rfl := ha (by rintro rfl; simp at hlt2)
      refine Rg.pu 5 rfl rfl (by kernel_rfl) ⟨_, rfl, rfl⟩ (pu_move rfl) ?_
      refine Rg.pu 6 rfl rfl (by kernel_rfl) ⟨_, rfl, rfl⟩ (pu_move rfl) ?_
      refine Rg.pu 7 rfl rfl (by kernel_rfl) ⟨_, rfl, rfl⟩ (pu_ia se_47 rfl rfl (by omega) (by omega)) ?_
      refine Rg.rd 8 rfl rfl (by kernel_rfl) ⟨_, rfl, rfl⟩ (rd_lda ag_31 rfl (Rdc.el0 (SlH.own (by repeat constructor)) hx2 rfl rfl) rfl) ?_
      refine Rg.rd 9 rfl rfl (by kernel_rfl) ⟨_, rfl, rfl⟩ (rd_lda ag_31 rfl (Rdc.cl 2 (by repeat constructor) rfl) rfl) ?_
      refine Rg.pu 10 rfl rfl (by kernel_rfl) ⟨_, rfl, rfl⟩ (pu_eqT (a := x2) (b := k) cmp_31 (by decide) Tryz.eqGuardType31 rfl rfl) ?_
      refine Rg.pu 11 rfl rfl (by kernel_rfl) trivial (by first | exact pu_pick_t rfl rfl | exact pu_pick_f rfl rfl) ?_
      refine Rg.end (by kernel_rfl) ?_
      refine Gs.then_n ?_
      refine Gs.cond rfl (fun hc1 => ?_) (fun hc1 => ?_)
      · skip
        have hin : intoL ks k = ks := by
          have h1 : x2 = k := of_decide_eq_true hc1
          unfold intoL; rw [if_pos (by rw [← he, hx2, h1])]
        refine Gs.seq ?_
        refine Gs.reg ?_
        refine Go.Sl.L.pu rfl rfl trivial (pu_move rfl) ?_
        refine Go.Sl.L.pu rfl rfl trivial (pu_assign rfl) ?_
        refine Go.Sl.L.nil ?_
        refine Gs.then_n ?_
        refine Gs.ret ?_
        refine Gs.then_r ?_
        exact Gs.fin1 Tryz.results20 rfl _ (⟨_, _, by rw [hin], by rw [hin]⟩) (by repeat constructor)
      · skip
        have hne : ¬ ks[at_ ks k]? = some k := fun e => by
          have h1 : x2 ≠ k := of_decide_eq_false hc1
          rw [← he, hx2] at e; exact h1 (Option.some.inj e)
        refine Gs.skip ?_
        refine Gs.then_n ?_
        refine Gs.seq ?_
        have hin : ks.take i ++ [k] ++ ks.drop i = intoL ks k := by unfold intoL; rw [if_neg hne, he]
        refine Gs.regD mixed (by kernel_rfl) ?_
        refine Rg.pu 0 rfl rfl (by kernel_rfl) trivial (pu_move rfl) ?_
        refine Rg.pu 1 rfl rfl (by kernel_rfl) trivial (pu_move rfl) ?_
        refine Rg.pu 2 rfl rfl (by kernel_rfl) trivial (pu_sliceH et_47 rfl rfl (by omega) (by omega)) ?_
        refine Rg.rd 4 rfl rfl (by kernel_rfl) trivial (rd_lda ag_31 rfl (Rdc.cl 2 (by repeat constructor) rfl) rfl) ?_
        refine Rg.pu 7 rfl rfl (by kernel_rfl) trivial (pu_move rfl) ?_
        refine Rg.pu 8 rfl rfl (by kernel_rfl) trivial (pu_move rfl) ?_
        refine Rg.pu 9 rfl rfl (by kernel_rfl) trivial (pu_sliceL et_47 rfl rfl (by omega) (by omega)) ?_
        refine Rg.two (by kernel_rfl) (Stp.acK 3 rfl rfl (by kernel_rfl) trivial (ac_copy et_47 ek_31 rfl rfl (SrcH.sl' (ys := ks.take i) Tryz.underlying47 ek_31 (by simp <;> omega) (SlH.cutH (SlH.own (by repeat constructor)) _ _ hlc)) (by first | omega | (simp; omega)) (by first | omega | (simp; omega))) (by rintro _ _ ⟨a36, c36, rfl, rfl⟩ w s; first | exact s.drop | exact s | exact Ent.sat (by repeat constructor) s) ?_) (Stp.ac 5 rfl rfl (by kernel_rfl) trivial (ac_lit encC_31 ([k]) et_47 ek_31 rfl (by repeat constructor) rfl rfl (by decide))  ?_)
        · skip
          rintro _ _ ⟨a36, c36, rfl, rfl⟩
          refine Rg.one (by kernel_rfl) (Stp.ac 5 rfl rfl (by kernel_rfl) trivial (ac_lit encC_31 ([k]) et_47 ek_31 rfl (by repeat constructor) rfl rfl (by decide))  ?_)
          rintro _ _ ⟨a38, rfl, rfl⟩
          refine Rg.one (by kernel_rfl) (Stp.ac 6 rfl rfl (by kernel_rfl) trivial (ac_append et_47 ek_31 rfl rfl (by repeat constructor) (SrcH.sl Tryz.underlying47 ek_31 (SlH.own (by repeat constructor))) (by first | omega | (simp; omega)) (by first | omega | (simp; omega)))  ?_)
          rintro _ _ ⟨a39, c39, rfl, rfl⟩
          refine Rg.one (by kernel_rfl) (Stp.ac 10 rfl rfl (by kernel_rfl) trivial (ac_append et_47 ek_31 rfl rfl (by repeat constructor) (SrcH.sl' (ys := ks.drop i) Tryz.underlying47 ek_31 (by simp <;> omega) (SlH.cutL (SlH.own (by repeat constructor)) _ _ hlc)) (by first | omega | (simp; omega)) (by first | omega | (simp; omega)))  ?_)
          rintro _ _ ⟨a43, c43, rfl, rfl⟩
          rw [hin]
          refine Rg.pu 11 rfl rfl (by kernel_rfl) trivial (pu_assign rfl) ?_
          refine Rg.end (by kernel_rfl) ?_
          refine Gs.then_n ?_
          refine Gs.ret ?_
          exact Gs.fin1 Tryz.results20 rfl _ (⟨_, _, rfl, rfl⟩) (by repeat constructor)
        · skip
          rintro _ _ ⟨a38, rfl, rfl⟩
          refine Rg.one (by kernel_rfl) (Stp.ac 3 rfl rfl (by kernel_rfl) trivial (ac_copy et_47 ek_31 rfl rfl (SrcH.sl' (ys := ks.take i) Tryz.underlying47 ek_31 (by simp <;> omega) (SlH.cutH (SlH.own (by repeat constructor)) _ _ hlc)) (by first | omega | (simp; omega)) (by first | omega | (simp; omega)))  ?_)
          rintro _ _ ⟨a36, c36, rfl, rfl⟩
          refine Rg.one (by kernel_rfl) (Stp.ac 6 rfl rfl (by kernel_rfl) trivial (ac_append et_47 ek_31 rfl rfl (by repeat constructor) (SrcH.sl Tryz.underlying47 ek_31 (SlH.own (by repeat constructor))) (by first | omega | (simp; omega)) (by first | omega | (simp; omega)))  ?_)
          rintro _ _ ⟨a39, c39, rfl, rfl⟩
          refine Rg.one (by kernel_rfl) (Stp.ac 10 rfl rfl (by kernel_rfl) trivial (ac_append et_47 ek_31 rfl rfl (by repeat constructor) (SrcH.sl' (ys := ks.drop i) Tryz.underlying47 ek_31 (by simp <;> omega) (SlH.cutL (SlH.own (by repeat constructor)) _ _ hlc)) (by first | omega | (simp; omega)) (by first | omega | (simp; omega)))  ?_)
          rintro _ _ ⟨a43, c43, rfl, rfl⟩
          rw [hin]
          refine Rg.pu 11 rfl rfl (by kernel_rfl) trivial (pu_assign rfl) ?_
          refine Rg.end (by kernel_rfl) ?_
          refine Gs.then_n ?_
          refine Gs.ret ?_
          exact Gs.fin1 Tryz.results20 rfl _ (⟨_, _, rfl, rfl⟩) (by repeat constructor)
    · skip
      have hne : ¬ ks[at_ ks k]? = some k := fun e => by
        have h1 := of_decide_eq_false hg4
        have h2 := (List.getElem?_eq_some_iff.1 e).1
        omega
      refine Rg.off 5 rfl rfl (by kernel_rfl) rfl rfl rfl rfl ?_
      refine Rg.off 6 rfl rfl (by kernel_rfl) rfl rfl rfl rfl ?_
      refine Rg.off 7 rfl rfl (by kernel_rfl) rfl rfl rfl rfl ?_
      refine Rg.off 8 rfl rfl (by kernel_rfl) rfl rfl rfl rfl ?_
      refine Rg.off 9 rfl rfl (by kernel_rfl) rfl rfl rfl rfl ?_
      refine Rg.off 10 rfl rfl (by kernel_rfl) rfl rfl rfl rfl ?_
      refine Rg.pu 11 rfl rfl (by kernel_rfl) trivial (by first | exact pu_pick_t rfl rfl | exact pu_pick_f rfl rfl) ?_
      refine Rg.end (by kernel_rfl) ?_
      refine Gs.then_n ?_
      refine Gs.cond_f rfl ?_
      refine Gs.skip ?_
      refine Gs.then_n ?_
      refine Gs.seq ?_
      have hin : ks.take i ++ [k] ++ ks.drop i = intoL ks k := by unfold intoL; rw [if_neg hne, he]
      refine Gs.regD mixed (by kernel_rfl) ?_
      refine Rg.pu 0 rfl rfl (by kernel_rfl) trivial (pu_move rfl) ?_
      refine Rg.pu 1 rfl rfl (by kernel_rfl) trivial (pu_move rfl) ?_
      refine Rg.pu 2 rfl rfl (by kernel_rfl) trivial (pu_sliceH et_47 rfl rfl (by omega) (by omega)) ?_
      refine Rg.rd 4 rfl rfl (by kernel_rfl) trivial (rd_lda ag_31 rfl (Rdc.cl 2 (by repeat constructor) rfl) rfl) ?_
      refine Rg.pu 7 rfl rfl (by kernel_rfl) trivial (pu_move rfl) ?_
      refine Rg.pu 8 rfl rfl (by kernel_rfl) trivial (pu_move rfl) ?_
      refine Rg.pu 9 rfl rfl (by kernel_rfl) trivial (pu_sliceL et_47 rfl rfl (by omega) (by omega)) ?_
      refine Rg.two (by kernel_rfl) (Stp.acK 3 rfl rfl (by kernel_rfl) trivial (ac_copy et_47 ek_31 rfl rfl (SrcH.sl' (ys := ks.take i) Tryz.underlying47 ek_31 (by simp <;> omega) (SlH.cutH (SlH.own (by repeat constructor)) _ _ hlc)) (by first | omega | (simp; omega)) (by first | omega | (simp; omega))) (by rintro _ _ ⟨a36, c36, rfl, rfl⟩ w s; first | exact s.drop | exact s | exact Ent.sat (by repeat constructor) s) ?_) (Stp.ac 5 rfl rfl (by kernel_rfl) trivial (ac_lit encC_31 ([k]) et_47 ek_31 rfl (by repeat constructor) rfl rfl (by decide))  ?_)
      · skip
        rintro _ _ ⟨a36, c36, rfl, rfl⟩
        refine Rg.one (by kernel_rfl) (Stp.ac 5 rfl rfl (by kernel_rfl) trivial (ac_lit encC_31 ([k]) et_47 ek_31 rfl (by repeat constructor) rfl rfl (by decide))  ?_)
        rintro _ _ ⟨a38, rfl, rfl⟩
        refine Rg.one (by kernel_rfl) (Stp.ac 6 rfl rfl (by kernel_rfl) trivial (ac_append et_47 ek_31 rfl rfl (by repeat constructor) (SrcH.sl Tryz.underlying47 ek_31 (SlH.own (by repeat constructor))) (by first | omega | (simp; omega)) (by first | omega | (simp; omega)))  ?_)
        rintro _ _ ⟨a39, c39, rfl, rfl⟩
        refine Rg.one (by kernel_rfl) (Stp.ac 10 rfl rfl (by kernel_rfl) trivial (ac_append et_47 ek_31 rfl rfl (by repeat constructor) (SrcH.sl' (ys := ks.drop i) Tryz.underlying47 ek_31 (by simp <;> omega) (SlH.cutL (SlH.own (by repeat constructor)) _ _ hlc)) (by first | omega | (simp; omega)) (by first | omega | (simp; omega)))  ?_)
        rintro _ _ ⟨a43, c43, rfl, rfl⟩
        rw [hin]
        refine Rg.pu 11 rfl rfl (by kernel_rfl) trivial (pu_assign rfl) ?_
        refine Rg.end (by kernel_rfl) ?_
        refine Gs.then_n ?_
        refine Gs.ret ?_
        exact Gs.fin1 Tryz.results20 rfl _ (⟨_, _, rfl, rfl⟩) (by repeat constructor)
      · skip
        rintro _ _ ⟨a38, rfl, rfl⟩
        refine Rg.one (by kernel_rfl) (Stp.ac 3 rfl rfl (by kernel_rfl) trivial (ac_copy et_47 ek_31 rfl rfl (SrcH.sl' (ys := ks.take i) Tryz.underlying47 ek_31 (by simp <;> omega) (SlH.cutH (SlH.own (by repeat constructor)) _ _ hlc)) (by first | omega | (simp; omega)) (by first | omega | (simp; omega)))  ?_)
        rintro _ _ ⟨a36, c36, rfl, rfl⟩
        refine Rg.one (by kernel_rfl) (Stp.ac 6 rfl rfl (by kernel_rfl) trivial (ac_append et_47 ek_31 rfl rfl (by repeat constructor) (SrcH.sl Tryz.underlying47 ek_31 (SlH.own (by repeat constructor))) (by first | omega | (simp; omega)) (by first | omega | (simp; omega)))  ?_)
        rintro _ _ ⟨a39, c39, rfl, rfl⟩
        refine Rg.one (by kernel_rfl) (Stp.ac 10 rfl rfl (by kernel_rfl) trivial (ac_append et_47 ek_31 rfl rfl (by repeat constructor) (SrcH.sl' (ys := ks.drop i) Tryz.underlying47 ek_31 (by simp <;> omega) (SlH.cutL (SlH.own (by repeat constructor)) _ _ hlc)) (by first | omega | (simp; omega)) (by first | omega | (simp; omega)))  ?_)
        rintro _ _ ⟨a43, c43, rfl, rfl⟩
        rw [hin]
        refine Rg.pu 11 rfl rfl (by kernel_rfl) trivial (pu_assign rfl) ?_
        refine Rg.end (by kernel_rfl) ?_
        refine Gs.then_n ?_
        refine Gs.ret ?_
        exact Gs.fin1 Tryz.results20 rfl _ (⟨_, _, rfl, rfl⟩) (by repeat constructor)
end Go.Proofs.YtmbikfojljnnkaaGreatDoor

/- Walks: Phrase, Or (grapevineref10). -/
namespace Go.Po
open Go Go.Sl Go.Gv
theorem andV_mem {ls : List (SlV PostV)} {k : Key} (h : k ∈ andV ls) : ls ≠ [] ∧ mayAll (ls.map fun l => l.xs.map PostV.p) = true ∧ ∀ l ∈ ls, ∃ p, lookP l.xs k = some p := by
  unfold andV at h
  split at h
  · cases h
  · rename_i l0 r
    split at h
    · rename_i hm
      obtain ⟨p, hp, rfl⟩ := List.mem_map.1 h
      refine ⟨by simp, hm, fun l hl => ?_⟩
      have := List.all_eq_true.1 (List.mem_filter.1 hp).2 l hl
      exact Option.isSome_iff_exists.1 this
    · cases h
theorem andV_length (ls : List (SlV PostV)) (h : ∀ l ∈ ls, l.xs.length ≤ 1000) : (andV ls).length ≤ 1000 := by
  unfold andV
  split
  · simp
  · rename_i l0 r
    split
    · rw [List.length_map]; exact Nat.le_trans (List.length_filter_le ..) (h l0 (by simp))
    · simp
theorem look_mem {l : List PostV} {k : Key} {p : PostV} (h : lookP l k = some p) : p ∈ l ∧ p.k = k :=
  ⟨List.mem_of_find?_eq_some h, by simpa using List.find?_some h⟩
/-- The places of a key, list by list. -/
def atsV (ls : List (SlV PostV)) (k : Key) : List (List Int) := (foundV ls k).map fun p => p.t.xs
theorem atsV_at {ls : List (SlV PostV)} {k : Key} (h : ∀ l ∈ ls, ∃ p, lookP l.xs k = some p) {i : Nat} {l : SlV PostV} {p : PostV} (hi : ls[i]? = some l) (hp : lookP l.xs k = some p) : (atsV ls k)[i]? = some p.t.xs := by
  induction ls generalizing i with
  | nil => simp at hi
  | cons x ls ih =>
    obtain ⟨q, hq⟩ := h x (by simp)
    unfold atsV foundV at *
    rw [List.filterMap_cons_some (f := fun l : SlV PostV => lookP l.xs k) hq]
    cases i with
    | zero =>
      simp only [List.getElem?_cons_zero, Option.some.injEq] at hi
      subst hi
      rw [hp] at hq; cases hq; rfl
    | succ i =>
      simp only [List.getElem?_cons_succ] at hi
      simp only [List.map_cons, List.getElem?_cons_succ]
      exact ih (fun l hl => h l (by simp [hl])) hi
theorem atsV_length {ls : List (SlV PostV)} {k : Key} (h : ∀ l ∈ ls, ∃ p, lookP l.xs k = some p) : (atsV ls k).length = ls.length := by
  unfold atsV
  rw [List.length_map]
  have := found_all k ls
  have h2 : hasAll ls k = true := List.all_eq_true.2 fun l hl => by obtain ⟨p, hp⟩ := h l hl; rw [hp]; rfl
  rw [h2] at this
  exact of_decide_eq_true this
/-- The keys that all lists have, where places follow one another. -/
def phraseV (ls : List (SlV PostV)) : List Key := (andV ls).filter fun k => followB (atsV ls k)
theorem followB_any {k : Key} {ls : List (SlV PostV)} {l0 : SlV PostV} {r : List (SlV PostV)} {p0 : PostV} (e : ls = l0 :: r) (hp : lookP l0.xs k = some p0) : followB (atsV ls k) = p0.t.xs.any fun a => stepsFrom a 0 (atsV ls k) := by
  subst e
  unfold atsV foundV
  rw [List.filterMap_cons_some (f := fun l : SlV PostV => lookP l.xs k) hp]
  rfl
end Go.Po
namespace Go.Proofs.YtmbikfojljnnkaaGreatDoor
open Go Go.Sl Go.Gv Go.Po
set_option maxRecDepth 100000
theorem ixP_get {ps : List PostV} {k : Key} {p : PostV} (h : lookP ps k = some p) : ps[ixP ps k]? = some p := by rw [ixP_look]; exact h
end Go.Proofs.YtmbikfojljnnkaaGreatDoor

/- Walks: Or (grapevineref10). -/
namespace Go.Po
open Go Go.Sl Go.Gv
def keysL (ls : List (SlV PostV)) : List Key := ls.flatMap fun l => l.xs.map PostV.k
def intoAll (ks : List Key) : List Key := ks.foldl intoL []
def orV (ls : List (SlV PostV)) : List Key := if mayAll (ls.map fun l => l.xs.map PostV.p) then intoAll (keysL ls) else []
theorem intoAll_snoc (ks : List Key) (k : Key) : intoAll (ks ++ [k]) = intoL (intoAll ks) k := by simp [intoAll]
theorem intoL_le (l : List Key) (k : Key) : (intoL l k).length ≤ l.length + 1 := by
  unfold intoL; split
  · omega
  · simp only [List.length_append, List.length_take, List.length_drop, List.length_cons, List.length_nil]; omega
theorem intoAll_le (ks : List Key) : (intoAll ks).length ≤ ks.length := by
  have : ∀ (ks acc : List Key), (ks.foldl intoL acc).length ≤ acc.length + ks.length := by
    intro ks
    induction ks with
    | nil => intro acc; simp
    | cons k ks ih =>
      intro acc
      have h1 := ih (intoL acc k)
      have h2 := intoL_le acc k
      simp only [List.foldl_cons, List.length_cons]; omega
  have := this ks []
  simpa [intoAll] using this
theorem keysL_take {ls : List (SlV PostV)} {i : Nat} {l : SlV PostV} (h : ls[i]? = some l) : keysL (ls.take (i + 1)) = keysL (ls.take i) ++ l.xs.map PostV.k := by
  rw [List.take_add_one, h]; simp [keysL]
theorem keysL_le (ls : List (SlV PostV)) (i : Nat) : (keysL (ls.take i)).length ≤ (keysL ls).length := by
  have : keysL ls = keysL (ls.take i) ++ keysL (ls.drop i) := by
    unfold keysL; rw [← List.flatMap_append, List.take_append_drop]
  rw [this, List.length_append]; omega
theorem mapk_take {l : List PostV} {j : Nat} {p : PostV} (h : l[j]? = some p) : (l.take (j + 1)).map PostV.k = (l.take j).map PostV.k ++ [p.k] := by
  rw [List.take_add_one, h]; simp
end Go.Po
namespace Go.Proofs.YtmbikfojljnnkaaGreatDoor
open Go Go.Sl Go.Gv Go.Po
set_option maxRecDepth 100000
end Go.Proofs.YtmbikfojljnnkaaGreatDoor

/- Walks: slices.Compact at keys. -/
namespace Go.Po
open Go Go.Sl Go.Gv
/-- Without those that are as the one ahead. -/
def dd : List Key → List Key
  | [] => []
  | [x] => [x]
  | x :: y :: l => if x = y then dd (y :: l) else x :: dd (y :: l)
theorem dd_snoc : ∀ (l : List Key) (x : Key), dd (l ++ [x]) = if l.getLast? = some x then dd l else dd l ++ [x]
  | [], x => by simp [dd]
  | [y], x => by
    by_cases h : y = x
    · simp [dd, h]
    · simp [dd, h]
  | y :: z :: l, x => by
    have ih := dd_snoc (z :: l) x
    have e : (y :: z :: l).getLast? = (z :: l).getLast? := by simp [List.getLast?_cons]
    rw [e]
    simp only [List.cons_append] at ih ⊢
    by_cases h : y = z
    · simp only [dd, h, if_true, ih]
    · simp only [dd, h, if_false, ih]
      split <;> rfl
theorem dd_take_t {l : List Key} {i : Nat} {x y : Key} (h0 : 0 < i) (hx : l[i]? = some x) (hy : l[i - 1]? = some y) (h : x = y) : dd (l.take (i + 1)) = dd (l.take i) := by
  have hl : (l.take i).getLast? = some y := by
    have e : i = i - 1 + 1 := by omega
    rw [e, List.take_add_one, hy]; simp
  rw [List.take_add_one, hx, show (some x).toList = [x] from rfl, dd_snoc, hl, h, if_pos rfl]
theorem dd_take_f {l : List Key} {i : Nat} {x y : Key} (h0 : 0 < i) (hx : l[i]? = some x) (hy : l[i - 1]? = some y) (h : x ≠ y) : dd (l.take (i + 1)) = dd (l.take i) ++ [x] := by
  have hl : (l.take i).getLast? = some y := by
    have e : i = i - 1 + 1 := by omega
    rw [e, List.take_add_one, hy]; simp
  rw [List.take_add_one, hx, show (some x).toList = [x] from rfl, dd_snoc, hl, if_neg (fun e => h (Option.some.inj e).symm)]
theorem drop_at {l m : List Key} {d i : Nat} (h : l.drop d = m.drop d) (hi : d ≤ i) : l[i]? = m[i]? := by
  have := congrArg (·[i - d]?) h
  simp only [List.getElem?_drop] at this
  rwa [show d + (i - d) = i by omega] at this
theorem set_take {l : List Key} {w : Nat} {x : Key} (h : w < l.length) : (l.set w x).take (w + 1) = l.take w ++ [x] := by
  rw [List.take_add_one, List.getElem?_set_self h, List.take_set_of_le (Nat.le_refl _)]; rfl
end Go.Po
namespace Go.Proofs.YtmbikfojljnnkaaGreatDoor
open Go Go.Sl Go.Gv Go.Po
set_option maxRecDepth 100000
theorem suba_0 {b o c sz : Nat} : suba (some ⟨b, o, none⟩) 0 c sz = some ⟨b, o, none⟩ := by
  unfold suba; split
  · rfl
  · simp [Addr.add]
end Go.Proofs.YtmbikfojljnnkaaGreatDoor

