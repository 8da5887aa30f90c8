/- Entries of a log in memory, and how they read. Walks: vector.May, Below; ref3.Many, May, Below. -/
import Derived.Test.YtjaafkakeccniaaGreatDoorMG
import Derived.Test.YtjaafkakeccniaaGreatDoorMD
namespace Go.Proofs.YtjaafkakeccniaaGreatDoor
open Go Go.Sl Go.Gv
set_option maxRecDepth 100000
structure EntV where
  kind : Int
  v : SlV Int
  w : SlV Int
  r : Rec
abbrev entC (e : EntV) : List Value := [int e.kind, .slice e.v.a e.v.xs.length e.v.c, .slice e.w.a e.w.xs.length e.w.c, int e.r.o, int e.r.q, int e.r.w, int e.r.c, .string e.r.t]
abbrev entV (e : EntV) : Value := .agg (entC e).toArray
def EntV.p (e : EntV) : EntP := ⟨e.kind, e.v.xs, e.w.xs, e.r⟩
abbrev encC_43 : EntV → List Value := entC
theorem ek_43 : EncOk 8 entC := ⟨fun _ => rfl, fun x v hv => by
  simp only [entC, List.mem_cons, List.not_mem_nil, or_false] at hv
  rcases hv with rfl | rfl | rfl | rfl | rfl | rfl | rfl | rfl <;> rfl⟩
/-- A part of the heap in which an entry's vectors read so. -/
def EVd (S : HProp) (e : EntV) : Prop := Srd S 1 intC e.v.a e.v.xs ∧ Srd S 1 intC e.w.a e.w.xs
/-- A part of the heap in which a list of entries reads so. -/
def ERd (S : HProp) (a : Option Addr) (es : List EntV) : Prop := Srd S 8 entC a es ∧ ∀ e ∈ es, EVd S e
abbrev plainV (es : List EntV) : List EntP := es.map EntV.p
/-- An entry's vectors, owned. -/
def entO (e : EntV) : HProp := two (sl 3 1 intC e.v.a e.v.c e.v.xs) (sl 3 1 intC e.w.a e.w.c e.w.xs)
/-- A list of entries, owned, their vectors too. -/
def elO (a : Option Addr) (c : Nat) (es : List EntV) : HProp := two (sl 43 8 entC a c es) (big (es.map entO))
theorem evd_entO (e : EntV) : EVd (entO e) e := ⟨Srd.two1 Srd.own, Srd.two2 Srd.own⟩
theorem EVd.two1 {A B : HProp} {e : EntV} (h : EVd A e) : EVd (two A B) e := ⟨Srd.two1 h.1, Srd.two1 h.2⟩
theorem EVd.two2 {A B : HProp} {e : EntV} (h : EVd B e) : EVd (two A B) e := ⟨Srd.two2 h.1, Srd.two2 h.2⟩
theorem EVd.bigs {A : HProp} {L : List HProp} {e : EntV} (h : EVd A e) (m : A ∈ L) : EVd (big L) e := ⟨Srd.bigs h.1 m, Srd.bigs h.2 m⟩
theorem ERd.two1 {A B : HProp} {a : Option Addr} {es : List EntV} (h : ERd A a es) : ERd (two A B) a es := ⟨Srd.two1 h.1, fun e he => (h.2 e he).two1⟩
theorem ERd.two2 {A B : HProp} {a : Option Addr} {es : List EntV} (h : ERd B a es) : ERd (two A B) a es := ⟨Srd.two2 h.1, fun e he => (h.2 e he).two2⟩
theorem erd_elO (a : Option Addr) (c : Nat) (es : List EntV) : ERd (elO a c es) a es :=
  ⟨Srd.two1 Srd.own, fun e he => EVd.two2 ((evd_entO e).bigs (List.mem_map.2 ⟨e, he, rfl⟩))⟩
/-! ### Vectors -/
def okN (x : Int) : Bool := decide (0 ≤ x) && decide (x ≤ 1023)
def manyB (n : Int) : Bool := decide (1 ≤ n) && decide (n ≤ 8)
theorem vecB_eq (v : List Int) (n : Int) : vecB v n = (manyB n && decide ((v.length : Int) = n) && v.all okN) := rfl
theorem all_take {v : List Int} {i : Nat} {x : Int} {p : Int → Bool} (h : v[i]? = some x) : (v.take (i + 1)).all p = ((v.take i).all p && p x) := by
  rw [List.take_add_one, h]; simp
theorem all_not {v : List Int} {i : Nat} {x : Int} {p : Int → Bool} (h : v[i]? = some x) (hx : p x = false) : v.all p = false := by
  rw [List.all_eq_false]; exact ⟨x, List.mem_of_getElem? h, by simp [hx]⟩
theorem below_len : ∀ {a b : List Int}, a.length ≠ b.length → belowB a b = false
  | [], [], h => (h rfl).elim
  | [], _ :: _, _ => rfl
  | _ :: _, [], _ => rfl
  | x :: a, y :: b, h => by
    have h1 := below_len (a := a) (b := b) (by simpa using h)
    show (decide (x ≤ y) && belowB a b) = false
    rw [h1, Bool.and_false]
theorem below_take : ∀ {a b : List Int} {i : Nat} {x y : Int}, a[i]? = some x → b[i]? = some y → belowB (a.take (i + 1)) (b.take (i + 1)) = (belowB (a.take i) (b.take i) && decide (x ≤ y))
  | [], _, _, _, _, h, _ => by cases h
  | _ :: _, [], _, _, _, _, h => by cases h
  | p :: a, q :: b, 0, x, y, h, k => by
    simp only [List.getElem?_cons_zero, Option.some.injEq] at h k
    subst h; subst k
    show (decide (p ≤ q) && true) = (true && decide (p ≤ q))
    rw [Bool.and_true, Bool.true_and]
  | p :: a, q :: b, i + 1, x, y, h, k => by
    have := below_take (a := a) (b := b) (i := i) (x := x) (y := y) (by simpa using h) (by simpa using k)
    show (decide (p ≤ q) && belowB (a.take (i + 1)) (b.take (i + 1))) = ((decide (p ≤ q) && belowB (a.take i) (b.take i)) && decide (x ≤ y))
    rw [this, Bool.and_assoc]
theorem below_not : ∀ {a b : List Int} {i : Nat} {x y : Int}, a[i]? = some x → b[i]? = some y → ¬ x ≤ y → belowB a b = false
  | [], _, _, _, _, h, _, _ => by cases h
  | _ :: _, [], _, _, _, _, h, _ => by cases h
  | p :: a, q :: b, 0, x, y, h, k, hxy => by
    simp only [List.getElem?_cons_zero, Option.some.injEq] at h k
    subst h; subst k
    show (decide (p ≤ q) && belowB a b) = false
    rw [decide_eq_false hxy, Bool.false_and]
  | p :: a, q :: b, i + 1, x, y, h, k, hxy => by
    have := below_not (a := a) (b := b) (i := i) (x := x) (y := y) (by simpa using h) (by simpa using k) hxy
    show (decide (p ≤ q) && belowB a b) = false
    rw [this, Bool.and_false]
theorem vecMay_spec {S : HProp} {a : Option Addr} {c : Nat} {v : List Int} (hS : Srd S 1 intC a v) (n : Int) :
    Ct Tryz.prog 40 [.slice a v.length c, int n] [S] (fun r hs => r = .bool (vecB v n) ∧ hs = [S]) := by
  refine Ct.intro Tryz.func40 rfl (by kernel_rfl) 32 Tryz.ntmps40 (Nat.le_of_ble_eq_true rfl) fun w0 R => ?_
  refine Gs.slAddr (hS.h (by repeat constructor)) fun ab ao ha => ?_
  refine Gs.seq ?_
  refine Gs.reg ?_
  refine Go.Sl.L.pu rfl rfl trivial (pu_assign rfl) ?_
  refine Go.Sl.L.nil ?_
  refine Gs.then_n ?_
  refine Gs.seq ?_
  refine Gs.seq ?_
  refine Gs.reg ?_
  refine Go.Sl.L.pu rfl rfl trivial (pu_move rfl) ?_
  refine Go.Sl.L.pu rfl rfl trivial (pu_lt rfl rfl) ?_
  refine Go.Sl.L.puB rfl rfl trivial (pu_move rfl) (fun hg2 => ?_) (fun hg2 => ?_)
  · skip
    have hno : vecB v n = false := by
      have := of_decide_eq_true hg2
      rw [vecB_eq, manyB, decide_eq_false (by omega : ¬ 1 ≤ n)]; rfl
    refine Go.Sl.L.off rfl rfl rfl rfl rfl rfl ?_
    refine Go.Sl.L.off rfl rfl rfl rfl rfl rfl ?_
    refine Go.Sl.L.pu rfl rfl trivial (by first | exact pu_pick_t rfl rfl | exact pu_pick_f rfl rfl) ?_
    refine Go.Sl.L.pu rfl rfl trivial (pu_move rfl) ?_
    refine Go.Sl.L.off rfl rfl rfl rfl rfl rfl ?_
    refine Go.Sl.L.off rfl rfl rfl rfl rfl rfl ?_
    refine Go.Sl.L.off rfl rfl rfl rfl rfl rfl ?_
    refine Go.Sl.L.off rfl rfl rfl rfl rfl rfl ?_
    refine Go.Sl.L.pu rfl rfl trivial (by first | exact pu_pick_t rfl rfl | exact pu_pick_f rfl rfl) ?_
    refine Go.Sl.L.nil ?_
    refine Gs.then_n ?_
    refine Gs.cond_t rfl ?_
    refine Gs.seq ?_
    refine Gs.reg ?_
    refine Go.Sl.L.pu rfl rfl trivial (pu_assign rfl) ?_
    refine Go.Sl.L.nil ?_
    refine Gs.then_n ?_
    refine Gs.ret ?_
    refine Gs.then_r ?_
    exact Gs.fin1 Tryz.results40 rfl _ (⟨by rw [hno], rfl⟩) (by repeat constructor)
  · skip
    have hn1 := of_decide_eq_false hg2
    refine Go.Sl.L.pu rfl rfl ⟨_, rfl, rfl⟩ (pu_move rfl) ?_
    refine Go.Sl.L.pu rfl rfl ⟨_, rfl, rfl⟩ (pu_gt rfl rfl) ?_
    refine Go.Sl.L.pu rfl rfl trivial (by first | exact pu_pick_t rfl rfl | exact pu_pick_f rfl rfl) ?_
    refine Go.Sl.L.puB rfl rfl trivial (pu_move rfl) (fun hg6 => ?_) (fun hg6 => ?_)
    · skip
      have hno : vecB v n = false := by
        have := of_decide_eq_true hg6
        rw [vecB_eq, manyB, decide_eq_false (by omega : ¬ n ≤ 8), Bool.and_false]; rfl
      refine Go.Sl.L.off rfl rfl rfl rfl rfl rfl ?_
      refine Go.Sl.L.off rfl rfl rfl rfl rfl rfl ?_
      refine Go.Sl.L.off rfl rfl rfl rfl rfl rfl ?_
      refine Go.Sl.L.off rfl rfl rfl rfl rfl rfl ?_
      refine Go.Sl.L.pu rfl rfl trivial (by first | exact pu_pick_t rfl rfl | exact pu_pick_f rfl rfl) ?_
      refine Go.Sl.L.nil ?_
      refine Gs.then_n ?_
      refine Gs.cond_t rfl ?_
      refine Gs.seq ?_
      refine Gs.reg ?_
      refine Go.Sl.L.pu rfl rfl trivial (pu_assign rfl) ?_
      refine Go.Sl.L.nil ?_
      refine Gs.then_n ?_
      refine Gs.ret ?_
      refine Gs.then_r ?_
      exact Gs.fin1 Tryz.results40 rfl _ (⟨by rw [hno], rfl⟩) (by repeat constructor)
    · skip
      have hn8 := of_decide_eq_false hg6
      have hmany : manyB n = true := by unfold manyB; rw [decide_eq_true (by omega : 1 ≤ n), decide_eq_true (by omega : n ≤ 8)]; rfl
      refine Go.Sl.L.pu rfl rfl ⟨_, rfl, rfl⟩ (pu_move rfl) ?_
      refine Go.Sl.L.pu rfl rfl ⟨_, rfl, rfl⟩ (pu_len Tryz.underlying23 rfl) ?_
      refine Go.Sl.L.pu rfl rfl ⟨_, rfl, rfl⟩ (pu_move rfl) ?_
      refine Go.Sl.L.pu rfl rfl ⟨_, rfl, rfl⟩ (pu_ne rfl rfl) ?_
      refine Go.Sl.L.pu rfl rfl trivial (by first | exact pu_pick_t rfl rfl | exact pu_pick_f rfl rfl) ?_
      refine Go.Sl.L.nil ?_
      refine Gs.then_n ?_
      refine Gs.cond rfl (fun hc0 => ?_) (fun hc0 => ?_)
      · skip
        have hno : vecB v n = false := by
          have := of_decide_eq_true hc0
          rw [vecB_eq, decide_eq_false this, Bool.and_false, Bool.false_and]
        refine Gs.seq ?_
        refine Gs.reg ?_
        refine Go.Sl.L.pu rfl rfl trivial (pu_assign rfl) ?_
        refine Go.Sl.L.nil ?_
        refine Gs.then_n ?_
        refine Gs.ret ?_
        refine Gs.then_r ?_
        exact Gs.fin1 Tryz.results40 rfl _ (⟨by rw [hno], rfl⟩) (by repeat constructor)
      · skip
        have hvl : (v.length : Int) = n := by have := of_decide_eq_false hc0; exact Decidable.not_not.1 this
        have hv0 : vecB v n = v.all okN := by rw [vecB_eq, hmany, decide_eq_true hvl]; rfl
        refine Gs.skip ?_
        refine Gs.then_n ?_
        refine Gs.seq ?_
        refine Gs.seq ?_
        refine Gs.reg ?_
        refine Go.Sl.L.pu rfl rfl trivial (pu_move rfl) ?_
        refine Go.Sl.L.pu rfl rfl trivial (pu_len Tryz.underlying23 rfl) ?_
        refine Go.Sl.L.pu rfl rfl trivial (pu_move rfl) ?_
        refine Go.Sl.L.nil ?_
        refine Gs.then_n ?_
        refine Gs.block ?_
        refine Gs.loop1 (fun i : Nat => i ≤ v.length ∧ (v.take i).all okN = true) (fun i => [(19, .slice a v.length c), (20, int v.length), (21, int i)]) (fun i => [S] ++ R) (fun i => v.length - i) 0 (⟨Nat.zero_le _, rfl⟩) (by repeat constructor) (by repeat constructor) (fun i ⟨hi, ht⟩ => ?_)
        refine Gs.seq ?_
        refine Gs.reg ?_
        refine Go.Sl.L.pu rfl rfl trivial (pu_lt rfl rfl) ?_
        refine Go.Sl.L.nil ?_
        refine Gs.then_n ?_
        refine Gs.seq ?_
        refine Gs.cond rfl (fun hc1 => ?_) (fun hc1 => ?_)
        · skip
          have hlt : i < v.length := by have := of_decide_eq_true hc1; omega
          obtain ⟨x, hx⟩ : ∃ x, v[i]? = some x := ⟨v[i], by simp [hlt]⟩
          obtain rfl := ha (by rintro rfl; simp at hlt)
          refine Gs.skip ?_
          refine Gs.then_n ?_
          refine Gs.seq ?_
          refine Gs.block ?_
          refine Gs.seq ?_
          refine Gs.reg ?_
          refine Go.Sl.L.pu rfl rfl trivial (pu_ia se_23 rfl rfl (by omega) (by omega)) ?_
          refine Go.Sl.L.rd rfl rfl trivial (rd_ld na_3 rfl (Rdc.el0 (hS.h (by repeat constructor)) hx rfl rfl)) ?_
          refine Go.Sl.L.pu rfl rfl trivial (pu_assign rfl) ?_
          refine Go.Sl.L.nil ?_
          refine Gs.then_n ?_
          refine Gs.seq ?_
          refine Gs.reg ?_
          refine Go.Sl.L.pu rfl rfl trivial (pu_move rfl) ?_
          refine Go.Sl.L.pu rfl rfl trivial (pu_lt rfl rfl) ?_
          refine Go.Sl.L.puB rfl rfl trivial (pu_move rfl) (fun hg2 => ?_) (fun hg2 => ?_)
          · skip
            have hok : okN x = false := by
              have := of_decide_eq_true hg2
              unfold okN; rw [decide_eq_false (by omega : ¬ 0 ≤ x), Bool.false_and]
            refine Go.Sl.L.off rfl rfl rfl rfl rfl rfl ?_
            refine Go.Sl.L.off rfl rfl rfl rfl rfl rfl ?_
            refine Go.Sl.L.pu rfl rfl trivial (by first | exact pu_pick_t rfl rfl | exact pu_pick_f rfl rfl) ?_
            refine Go.Sl.L.nil ?_
            refine Gs.then_n ?_
            refine Gs.cond_t rfl ?_
            refine Gs.seq ?_
            refine Gs.reg ?_
            refine Go.Sl.L.pu rfl rfl trivial (pu_assign rfl) ?_
            refine Go.Sl.L.nil ?_
            refine Gs.then_n ?_
            refine Gs.ret ?_
            refine Gs.blk_r ?_
            refine Gs.then_r ?_
            refine Gs.then_r ?_
            refine Gs.blk_r ?_
            refine Gs.then_r ?_
            exact Gs.fin1 Tryz.results40 rfl _ (⟨by rw [hv0, all_not hx hok], rfl⟩) (by repeat constructor)
          · skip
            have hx0 := of_decide_eq_false hg2
            refine Go.Sl.L.pu rfl rfl ⟨_, rfl, rfl⟩ (pu_move rfl) ?_
            refine Go.Sl.L.pu rfl rfl ⟨_, rfl, rfl⟩ (pu_gt rfl rfl) ?_
            refine Go.Sl.L.pu rfl rfl trivial (by first | exact pu_pick_t rfl rfl | exact pu_pick_f rfl rfl) ?_
            refine Go.Sl.L.nil ?_
            refine Gs.then_n ?_
            refine Gs.cond rfl (fun hc2 => ?_) (fun hc2 => ?_)
            · skip
              have hok : okN x = false := by
                have := of_decide_eq_true hc2
                unfold okN; rw [decide_eq_false (by omega : ¬ x ≤ 1023), Bool.and_false]
              refine Gs.seq ?_
              refine Gs.reg ?_
              refine Go.Sl.L.pu rfl rfl trivial (pu_assign rfl) ?_
              refine Go.Sl.L.nil ?_
              refine Gs.then_n ?_
              refine Gs.ret ?_
              refine Gs.blk_r ?_
              refine Gs.then_r ?_
              refine Gs.then_r ?_
              refine Gs.blk_r ?_
              refine Gs.then_r ?_
              exact Gs.fin1 Tryz.results40 rfl _ (⟨by rw [hv0, all_not hx hok], rfl⟩) (by repeat constructor)
            · skip
              have hok : okN x = true := by
                have := of_decide_eq_false hc2
                unfold okN; rw [decide_eq_true (by omega : 0 ≤ x), decide_eq_true (by omega : x ≤ 1023)]; rfl
              refine Gs.skip ?_
              refine Gs.blk_n ?_
              refine Gs.then_n ?_
              refine Gs.reg ?_
              refine Go.Sl.L.pu rfl rfl trivial (by first | exact pu_addI rfl rfl rfl (by omega) (by omega) | exact pu_add rfl rfl) ?_
              refine Go.Sl.L.pu rfl rfl trivial (pu_move rfl) ?_
              refine Go.Sl.L.nil ?_
              refine Gs.then_n ?_
              exact Gs.again1 (i + 1) ⟨by omega, by rw [all_take hx, ht, hok]; rfl⟩ (by omega) (by repeat constructor) (by repeat constructor)
        · skip
          have hge : i = v.length := by have := of_decide_eq_false hc1; omega
          rw [hge, List.take_length] at ht
          refine Gs.exit ?_
          refine Gs.then_x ?_
          refine Gs.then_x ?_
          refine Gs.blk_hit ?_
          refine Gs.then_n ?_
          refine Gs.seq ?_
          refine Gs.reg ?_
          refine Go.Sl.L.pu rfl rfl trivial (pu_assign rfl) ?_
          refine Go.Sl.L.nil ?_
          refine Gs.then_n ?_
          refine Gs.ret ?_
          exact Gs.fin1 Tryz.results40 rfl _ (⟨by rw [hv0, ht], rfl⟩) (by repeat constructor)
theorem below_spec {S : HProp} {a b : Option Addr} {c d : Nat} {v w : List Int} (hS : Srd S 1 intC a v) (hU : Srd S 1 intC b w) (hl : v.length ≤ 1000000) :
    Ct Tryz.prog 41 [.slice a v.length c, .slice b w.length d] [S] (fun r hs => r = .bool (belowB v w) ∧ hs = [S]) := by
  refine Ct.intro Tryz.func41 rfl (by kernel_rfl) 26 Tryz.ntmps41 (Nat.le_of_ble_eq_true rfl) fun w0 R => ?_
  refine Gs.slAddr (hS.h (by repeat constructor)) fun ab ao ha => ?_
  refine Gs.slAddr (hU.h (by repeat constructor)) fun ub uo hu => ?_
  refine Gs.seq ?_
  refine Gs.reg ?_
  refine Go.Sl.L.pu rfl rfl trivial (pu_assign rfl) ?_
  refine Go.Sl.L.nil ?_
  refine Gs.then_n ?_
  refine Gs.seq ?_
  refine Gs.seq ?_
  refine Gs.reg ?_
  refine Go.Sl.L.pu rfl rfl trivial (pu_move rfl) ?_
  refine Go.Sl.L.pu rfl rfl trivial (pu_len Tryz.underlying23 rfl) ?_
  refine Go.Sl.L.pu rfl rfl trivial (pu_move rfl) ?_
  refine Go.Sl.L.pu rfl rfl trivial (pu_len Tryz.underlying23 rfl) ?_
  refine Go.Sl.L.pu rfl rfl trivial (pu_ne rfl rfl) ?_
  refine Go.Sl.L.nil ?_
  refine Gs.then_n ?_
  refine Gs.cond rfl (fun hc0 => ?_) (fun hc0 => ?_)
  · skip
    have hno : belowB v w = false := below_len fun e => by have := of_decide_eq_true hc0; rw [e] at this; exact this rfl
    refine Gs.seq ?_
    refine Gs.reg ?_
    refine Go.Sl.L.pu rfl rfl trivial (pu_assign rfl) ?_
    refine Go.Sl.L.nil ?_
    refine Gs.then_n ?_
    refine Gs.ret ?_
    refine Gs.then_r ?_
    exact Gs.fin1 Tryz.results41 rfl _ (⟨by rw [hno], rfl⟩) (by repeat constructor)
  · skip
    have hle : v.length = w.length := by have := of_decide_eq_false hc0; omega
    refine Gs.skip ?_
    refine Gs.then_n ?_
    refine Gs.seq ?_
    refine Gs.seq ?_
    refine Gs.reg ?_
    refine Go.Sl.L.pu rfl rfl trivial (pu_move rfl) ?_
    refine Go.Sl.L.pu rfl rfl trivial (pu_len Tryz.underlying23 rfl) ?_
    refine Go.Sl.L.pu rfl rfl trivial (pu_move rfl) ?_
    refine Go.Sl.L.nil ?_
    refine Gs.then_n ?_
    refine Gs.block ?_
    refine Gs.loop1 (fun i : Nat => i ≤ v.length ∧ belowB (v.take i) (w.take i) = true) (fun i => [(0, .slice a v.length c), (1, .slice b w.length d), (12, int v.length), (13, int i)]) (fun i => [S] ++ R) (fun i => v.length - i) 0 (⟨Nat.zero_le _, rfl⟩) (by repeat constructor) (by repeat constructor) (fun i ⟨hi, ht⟩ => ?_)
    refine Gs.seq ?_
    refine Gs.reg ?_
    refine Go.Sl.L.pu rfl rfl trivial (pu_lt rfl rfl) ?_
    refine Go.Sl.L.nil ?_
    refine Gs.then_n ?_
    refine Gs.seq ?_
    refine Gs.cond rfl (fun hc1 => ?_) (fun hc1 => ?_)
    · skip
      have hlt : i < v.length := by have := of_decide_eq_true hc1; omega
      obtain ⟨x, hx⟩ : ∃ x, v[i]? = some x := ⟨v[i], by simp [hlt]⟩
      obtain ⟨y, hy⟩ : ∃ x, w[i]? = some x := ⟨w[i]'(by omega), by simp [← hle, hlt]⟩
      obtain rfl := ha (by rintro rfl; simp at hlt)
      obtain rfl := hu (by rintro rfl; simp at hy)
      refine Gs.skip ?_
      refine Gs.then_n ?_
      refine Gs.seq ?_
      refine Gs.block ?_
      refine Gs.seq ?_
      refine Gs.reg ?_
      refine Go.Sl.L.pu rfl rfl trivial (pu_move rfl) ?_
      refine Go.Sl.L.pu rfl rfl trivial (pu_assign rfl) ?_
      refine Go.Sl.L.nil ?_
      refine Gs.then_n ?_
      refine Gs.seq ?_
      refine Gs.regD mixed (by kernel_rfl) ?_
      refine Rg.pu 0 rfl rfl (by kernel_rfl) trivial (pu_move rfl) ?_
      refine Rg.pu 1 rfl rfl (by kernel_rfl) trivial (pu_move rfl) ?_
      refine Rg.pu 2 rfl rfl (by kernel_rfl) trivial (pu_ia se_23 rfl rfl (by omega) (by omega)) ?_
      refine Rg.rd 3 rfl rfl (by kernel_rfl) trivial (rd_ld na_3 rfl (Rdc.el0 (hS.h (by repeat constructor)) hx rfl rfl)) ?_
      refine Rg.pu 4 rfl rfl (by kernel_rfl) trivial (pu_move rfl) ?_
      refine Rg.pu 5 rfl rfl (by kernel_rfl) trivial (pu_move rfl) ?_
      refine Rg.pu 6 rfl rfl (by kernel_rfl) trivial (pu_ia se_23 rfl rfl (by omega) (by omega)) ?_
      refine Rg.rd 7 rfl rfl (by kernel_rfl) trivial (rd_ld na_3 rfl (Rdc.el0 (hU.h (by repeat constructor)) hy rfl rfl)) ?_
      refine Rg.pu 8 rfl rfl (by kernel_rfl) trivial (pu_gt rfl rfl) ?_
      refine Rg.end (by kernel_rfl) ?_
      refine Gs.then_n ?_
      refine Gs.cond rfl (fun hc2 => ?_) (fun hc2 => ?_)
      · skip
        have hno : belowB v w = false := below_not hx hy (by have := of_decide_eq_true hc2; omega)
        refine Gs.seq ?_
        refine Gs.reg ?_
        refine Go.Sl.L.pu rfl rfl trivial (pu_assign rfl) ?_
        refine Go.Sl.L.nil ?_
        refine Gs.then_n ?_
        refine Gs.ret ?_
        refine Gs.blk_r ?_
        refine Gs.then_r ?_
        refine Gs.then_r ?_
        refine Gs.blk_r ?_
        refine Gs.then_r ?_
        exact Gs.fin1 Tryz.results41 rfl _ (⟨by rw [hno], rfl⟩) (by repeat constructor)
      · skip
        have hxy : x ≤ y := by have := of_decide_eq_false hc2; omega
        refine Gs.skip ?_
        refine Gs.blk_n ?_
        refine Gs.then_n ?_
        refine Gs.reg ?_
        refine Go.Sl.L.pu rfl rfl trivial (by first | exact pu_addI rfl rfl rfl (by omega) (by omega) | exact pu_add rfl rfl) ?_
        refine Go.Sl.L.pu rfl rfl trivial (pu_move rfl) ?_
        refine Go.Sl.L.nil ?_
        refine Gs.then_n ?_
        exact Gs.again1 (i + 1) ⟨by omega, by rw [below_take hx hy, ht, decide_eq_true hxy]; rfl⟩ (by omega) (by repeat constructor) (by repeat constructor)
    · skip
      have hge : i = v.length := by have := of_decide_eq_false hc1; omega
      have ht1 : belowB v w = true := by rw [hge, List.take_length, hle, List.take_length] at ht; exact ht
      refine Gs.exit ?_
      refine Gs.then_x ?_
      refine Gs.then_x ?_
      refine Gs.blk_hit ?_
      refine Gs.then_n ?_
      refine Gs.seq ?_
      refine Gs.reg ?_
      refine Go.Sl.L.pu rfl rfl trivial (pu_assign rfl) ?_
      refine Go.Sl.L.nil ?_
      refine Gs.then_n ?_
      refine Gs.ret ?_
      exact Gs.fin1 Tryz.results41 rfl _ (⟨by rw [ht1], rfl⟩) (by repeat constructor)
theorem many3_spec (n : Int) : Ct Tryz.prog 13 [int n] [] (fun r hs => r = .bool (manyB n) ∧ hs = []) := by
  refine Ct.intro Tryz.func13 rfl (by kernel_rfl) 9 Tryz.ntmps13 (Nat.le_of_ble_eq_true rfl) fun w0 R => ?_
  refine Gs.seq ?_
  refine Gs.reg ?_
  refine Go.Sl.L.pu rfl rfl trivial (pu_assign rfl) ?_
  refine Go.Sl.L.nil ?_
  refine Gs.then_n ?_
  refine Gs.seq ?_
  refine Gs.reg ?_
  refine Go.Sl.L.pu rfl rfl trivial (pu_move rfl) ?_
  refine Go.Sl.L.pu rfl rfl trivial (pu_ge rfl rfl) ?_
  refine Go.Sl.L.puB rfl rfl trivial (pu_move rfl) (fun hg2 => ?_) (fun hg2 => ?_)
  · skip
    have hg := of_decide_eq_true hg2
    refine Go.Sl.L.pu rfl rfl ⟨_, rfl, rfl⟩ (pu_move rfl) ?_
    refine Go.Sl.L.pu rfl rfl ⟨_, rfl, rfl⟩ (pu_le rfl rfl) ?_
    refine Go.Sl.L.pu rfl rfl trivial (by first | exact pu_pick_t rfl rfl | exact pu_pick_f rfl rfl) ?_
    refine Go.Sl.L.pu rfl rfl trivial (pu_assign rfl) ?_
    refine Go.Sl.L.nil ?_
    refine Gs.then_n ?_
    refine Gs.ret ?_
    exact Gs.fin1 Tryz.results13 rfl _ (⟨by grind [manyB], rfl⟩) (by repeat constructor)
  · skip
    have hg := of_decide_eq_false hg2
    refine Go.Sl.L.off rfl rfl rfl rfl rfl rfl ?_
    refine Go.Sl.L.off rfl rfl rfl rfl rfl rfl ?_
    refine Go.Sl.L.pu rfl rfl trivial (by first | exact pu_pick_t rfl rfl | exact pu_pick_f rfl rfl) ?_
    refine Go.Sl.L.pu rfl rfl trivial (pu_assign rfl) ?_
    refine Go.Sl.L.nil ?_
    refine Gs.then_n ?_
    refine Gs.ret ?_
    exact Gs.fin1 Tryz.results13 rfl _ (⟨by grind [manyB], rfl⟩) (by repeat constructor)
theorem vecMay3_spec {S : HProp} {a : Option Addr} {c : Nat} {v : List Int} (hS : Srd S 1 intC a v) (n : Int) :
    Ct Tryz.prog 14 [.slice a v.length c, int n] [S] (fun r hs => r = .bool (vecB v n) ∧ hs = [S]) := by
  refine Ct.intro Tryz.func14 rfl (by kernel_rfl) 32 Tryz.ntmps14 (Nat.le_of_ble_eq_true rfl) fun w0 R => ?_
  refine Gs.slAddr (hS.h (by repeat constructor)) fun ab ao ha => ?_
  refine Gs.seq ?_
  refine Gs.reg ?_
  refine Go.Sl.L.pu rfl rfl trivial (pu_assign rfl) ?_
  refine Go.Sl.L.nil ?_
  refine Gs.then_n ?_
  refine Gs.seq ?_
  refine Gs.seq ?_
  refine Gs.reg ?_
  refine Go.Sl.L.pu rfl rfl trivial (pu_move rfl) ?_
  refine Go.Sl.L.ac rfl rfl trivial (as_call (many3_spec n) (by repeat constructor) (by repeat constructor)) ?_
  rintro _ _ ⟨_, ⟨rfl, rfl⟩, rfl⟩
  refine Go.Sl.L.pu rfl rfl trivial (pu_not rfl) ?_
  refine Go.Sl.L.puB rfl rfl trivial (pu_move rfl) (fun hg3 => ?_) (fun hg3 => ?_)
  · skip
    have hm : manyB n = false := by simpa using hg3
    have hno : vecB v n = false := by rw [vecB_eq, hm]; rfl
    refine Go.Sl.L.off rfl rfl rfl rfl rfl rfl ?_
    refine Go.Sl.L.off rfl rfl rfl rfl rfl rfl ?_
    refine Go.Sl.L.off rfl rfl rfl rfl rfl rfl ?_
    refine Go.Sl.L.off rfl rfl rfl rfl rfl rfl ?_
    refine Go.Sl.L.pu rfl rfl trivial (by first | exact pu_pick_t rfl rfl | exact pu_pick_f rfl rfl) ?_
    refine Go.Sl.L.nil ?_
    refine Gs.then_n ?_
    refine Gs.cond_t rfl ?_
    refine Gs.seq ?_
    refine Gs.reg ?_
    refine Go.Sl.L.pu rfl rfl trivial (pu_assign rfl) ?_
    refine Go.Sl.L.nil ?_
    refine Gs.then_n ?_
    refine Gs.ret ?_
    refine Gs.then_r ?_
    exact Gs.fin1 Tryz.results14 rfl _ (⟨by rw [hno], rfl⟩) (by repeat constructor)
  · skip
    have hmany : manyB n = true := by simpa using hg3
    have hm2 := hmany
    simp only [manyB, Bool.and_eq_true, decide_eq_true_eq] at hm2
    refine Go.Sl.L.pu rfl rfl ⟨_, rfl, rfl⟩ (pu_move rfl) ?_
    refine Go.Sl.L.pu rfl rfl ⟨_, rfl, rfl⟩ (pu_len Tryz.underlying23 rfl) ?_
    refine Go.Sl.L.pu rfl rfl ⟨_, rfl, rfl⟩ (pu_move rfl) ?_
    refine Go.Sl.L.pu rfl rfl ⟨_, rfl, rfl⟩ (pu_ne rfl rfl) ?_
    refine Go.Sl.L.pu rfl rfl trivial (by first | exact pu_pick_t rfl rfl | exact pu_pick_f rfl rfl) ?_
    refine Go.Sl.L.nil ?_
    refine Gs.then_n ?_
    refine Gs.cond rfl (fun hc0 => ?_) (fun hc0 => ?_)
    · skip
      have hno : vecB v n = false := by
        have := of_decide_eq_true hc0
        rw [vecB_eq, decide_eq_false this, Bool.and_false, Bool.false_and]
      refine Gs.seq ?_
      refine Gs.reg ?_
      refine Go.Sl.L.pu rfl rfl trivial (pu_assign rfl) ?_
      refine Go.Sl.L.nil ?_
      refine Gs.then_n ?_
      refine Gs.ret ?_
      refine Gs.then_r ?_
      exact Gs.fin1 Tryz.results14 rfl _ (⟨by rw [hno], rfl⟩) (by repeat constructor)
    · skip
      have hvl : (v.length : Int) = n := by have := of_decide_eq_false hc0; exact Decidable.not_not.1 this
      have hv0 : vecB v n = v.all okN := by rw [vecB_eq, hmany, decide_eq_true hvl]; rfl
      refine Gs.skip ?_
      refine Gs.then_n ?_
      refine Gs.seq ?_
      refine Gs.seq ?_
      refine Gs.reg ?_
      refine Go.Sl.L.pu rfl rfl trivial (pu_assign rfl) ?_
      refine Go.Sl.L.nil ?_
      refine Gs.then_n ?_
      refine Gs.block ?_
      refine Gs.loop1 (fun i : Nat => i ≤ v.length ∧ (v.take i).all okN = true) (fun i => [(0, .slice a v.length c), (1, int n), (5, int i)]) (fun i => [S] ++ R) (fun i => v.length - i) 0 (⟨Nat.zero_le _, rfl⟩) (by repeat constructor) (by repeat constructor) (fun i ⟨hi, ht⟩ => ?_)
      refine Gs.seq ?_
      refine Gs.seq ?_
      refine Gs.reg ?_
      refine Go.Sl.L.pu rfl rfl trivial (pu_move rfl) ?_
      refine Go.Sl.L.pu rfl rfl trivial (pu_move rfl) ?_
      refine Go.Sl.L.pu rfl rfl trivial (pu_lt rfl rfl) ?_
      refine Go.Sl.L.nil ?_
      refine Gs.then_n ?_
      refine Gs.cond rfl (fun hc1 => ?_) (fun hc1 => ?_)
      · skip
        have hlt : i < v.length := by have := of_decide_eq_true hc1; omega
        obtain ⟨x, hx⟩ : ∃ x, v[i]? = some x := ⟨v[i], by simp [hlt]⟩
        obtain rfl := ha (by rintro rfl; simp at hlt)
        refine Gs.skip ?_
        refine Gs.then_n ?_
        refine Gs.seq ?_
        refine Gs.block ?_
        refine Gs.seq ?_
        refine Gs.reg ?_
        refine Go.Sl.L.pu rfl rfl trivial (pu_move rfl) ?_
        refine Go.Sl.L.pu rfl rfl trivial (pu_move rfl) ?_
        refine Go.Sl.L.pu rfl rfl trivial (pu_ia se_23 rfl rfl (by omega) (by omega)) ?_
        refine Go.Sl.L.rd rfl rfl trivial (rd_ld na_3 rfl (Rdc.el0 (hS.h (by repeat constructor)) hx rfl rfl)) ?_
        refine Go.Sl.L.pu rfl rfl trivial (pu_lt rfl rfl) ?_
        refine Go.Sl.L.puB rfl rfl trivial (pu_move rfl) (fun hg5 => ?_) (fun hg5 => ?_)
        · skip
          have hok : okN x = false := by
            have := of_decide_eq_true hg5
            unfold okN; rw [decide_eq_false (by omega : ¬ 0 ≤ x), Bool.false_and]
          refine Go.Sl.L.off rfl rfl rfl rfl rfl rfl ?_
          refine Go.Sl.L.off rfl rfl rfl rfl rfl rfl ?_
          refine Go.Sl.L.off rfl rfl rfl rfl rfl rfl ?_
          refine Go.Sl.L.off rfl rfl rfl rfl rfl rfl ?_
          refine Go.Sl.L.off rfl rfl rfl rfl rfl rfl ?_
          refine Go.Sl.L.pu rfl rfl trivial (by first | exact pu_pick_t rfl rfl | exact pu_pick_f rfl rfl) ?_
          refine Go.Sl.L.nil ?_
          refine Gs.then_n ?_
          refine Gs.cond_t rfl ?_
          refine Gs.seq ?_
          refine Gs.reg ?_
          refine Go.Sl.L.pu rfl rfl trivial (pu_assign rfl) ?_
          refine Go.Sl.L.nil ?_
          refine Gs.then_n ?_
          refine Gs.ret ?_
          refine Gs.blk_r ?_
          refine Gs.then_r ?_
          refine Gs.then_r ?_
          refine Gs.blk_r ?_
          refine Gs.then_r ?_
          exact Gs.fin1 Tryz.results14 rfl _ (⟨by rw [hv0, all_not hx hok], rfl⟩) (by repeat constructor)
        · skip
          have hx0 := of_decide_eq_false hg5
          refine Go.Sl.L.pu rfl rfl ⟨_, rfl, rfl⟩ (pu_move rfl) ?_
          refine Go.Sl.L.pu rfl rfl ⟨_, rfl, rfl⟩ (pu_move rfl) ?_
          refine Go.Sl.L.pu rfl rfl ⟨_, rfl, rfl⟩ (pu_ia se_23 rfl rfl (by omega) (by omega)) ?_
          refine Go.Sl.L.rd rfl rfl ⟨_, rfl, rfl⟩ (rd_ld na_3 rfl (Rdc.el0 (hS.h (by repeat constructor)) hx rfl rfl)) ?_
          refine Go.Sl.L.pu rfl rfl ⟨_, rfl, rfl⟩ (pu_gt rfl rfl) ?_
          refine Go.Sl.L.pu rfl rfl trivial (by first | exact pu_pick_t rfl rfl | exact pu_pick_f rfl rfl) ?_
          refine Go.Sl.L.nil ?_
          refine Gs.then_n ?_
          refine Gs.cond rfl (fun hc2 => ?_) (fun hc2 => ?_)
          · skip
            have hok : okN x = false := by
              have := of_decide_eq_true hc2
              unfold okN; rw [decide_eq_false (by omega : ¬ x ≤ 1023), Bool.and_false]
            refine Gs.seq ?_
            refine Gs.reg ?_
            refine Go.Sl.L.pu rfl rfl trivial (pu_assign rfl) ?_
            refine Go.Sl.L.nil ?_
            refine Gs.then_n ?_
            refine Gs.ret ?_
            refine Gs.blk_r ?_
            refine Gs.then_r ?_
            refine Gs.then_r ?_
            refine Gs.blk_r ?_
            refine Gs.then_r ?_
            exact Gs.fin1 Tryz.results14 rfl _ (⟨by rw [hv0, all_not hx hok], rfl⟩) (by repeat constructor)
          · skip
            have hok : okN x = true := by
              have := of_decide_eq_false hc2
              unfold okN; rw [decide_eq_true (by omega : 0 ≤ x), decide_eq_true (by omega : x ≤ 1023)]; rfl
            refine Gs.skip ?_
            refine Gs.blk_n ?_
            refine Gs.then_n ?_
            refine Gs.reg ?_
            refine Go.Sl.L.pu rfl rfl trivial (pu_move rfl) ?_
            refine Go.Sl.L.pu rfl rfl trivial (by first | exact pu_addI rfl rfl rfl (by omega) (by omega) | exact pu_add rfl rfl) ?_
            refine Go.Sl.L.pu rfl rfl trivial (pu_assign rfl) ?_
            refine Go.Sl.L.nil ?_
            refine Gs.then_n ?_
            exact Gs.again1 (i + 1) ⟨by omega, by rw [all_take hx, ht, hok]; rfl⟩ (by omega) (by repeat constructor) (by repeat constructor)
      · skip
        have hge : i = v.length := by have := of_decide_eq_false hc1; omega
        rw [hge, List.take_length] at ht
        refine Gs.exit ?_
        refine Gs.then_x ?_
        refine Gs.then_x ?_
        refine Gs.blk_hit ?_
        refine Gs.then_n ?_
        refine Gs.seq ?_
        refine Gs.reg ?_
        refine Go.Sl.L.pu rfl rfl trivial (pu_assign rfl) ?_
        refine Go.Sl.L.nil ?_
        refine Gs.then_n ?_
        refine Gs.ret ?_
        exact Gs.fin1 Tryz.results14 rfl _ (⟨by rw [hv0, ht], rfl⟩) (by repeat constructor)
theorem below3_spec {S : HProp} {a b : Option Addr} {c d : Nat} {v w : List Int} (hS : Srd S 1 intC a v) (hU : Srd S 1 intC b w) (hl : v.length ≤ 1000000) :
    Ct Tryz.prog 15 [.slice a v.length c, .slice b w.length d] [S] (fun r hs => r = .bool (belowB v w) ∧ hs = [S]) := by
  refine Ct.intro Tryz.func15 rfl (by kernel_rfl) 26 Tryz.ntmps15 (Nat.le_of_ble_eq_true rfl) fun w0 R => ?_
  refine Gs.slAddr (hS.h (by repeat constructor)) fun ab ao ha => ?_
  refine Gs.slAddr (hU.h (by repeat constructor)) fun ub uo hu => ?_
  refine Gs.seq ?_
  refine Gs.reg ?_
  refine Go.Sl.L.pu rfl rfl trivial (pu_assign rfl) ?_
  refine Go.Sl.L.nil ?_
  refine Gs.then_n ?_
  refine Gs.seq ?_
  refine Gs.seq ?_
  refine Gs.reg ?_
  refine Go.Sl.L.pu rfl rfl trivial (pu_move rfl) ?_
  refine Go.Sl.L.pu rfl rfl trivial (pu_len Tryz.underlying23 rfl) ?_
  refine Go.Sl.L.pu rfl rfl trivial (pu_move rfl) ?_
  refine Go.Sl.L.pu rfl rfl trivial (pu_len Tryz.underlying23 rfl) ?_
  refine Go.Sl.L.pu rfl rfl trivial (pu_ne rfl rfl) ?_
  refine Go.Sl.L.nil ?_
  refine Gs.then_n ?_
  refine Gs.cond rfl (fun hc0 => ?_) (fun hc0 => ?_)
  · skip
    have hno : belowB v w = false := below_len fun e => by have := of_decide_eq_true hc0; rw [e] at this; exact this rfl
    refine Gs.seq ?_
    refine Gs.reg ?_
    refine Go.Sl.L.pu rfl rfl trivial (pu_assign rfl) ?_
    refine Go.Sl.L.nil ?_
    refine Gs.then_n ?_
    refine Gs.ret ?_
    refine Gs.then_r ?_
    exact Gs.fin1 Tryz.results15 rfl _ (⟨by rw [hno], rfl⟩) (by repeat constructor)
  · skip
    have hle : v.length = w.length := by have := of_decide_eq_false hc0; omega
    refine Gs.skip ?_
    refine Gs.then_n ?_
    refine Gs.seq ?_
    refine Gs.seq ?_
    refine Gs.reg ?_
    refine Go.Sl.L.pu rfl rfl trivial (pu_assign rfl) ?_
    refine Go.Sl.L.nil ?_
    refine Gs.then_n ?_
    refine Gs.block ?_
    refine Gs.loop1 (fun i : Nat => i ≤ v.length ∧ belowB (v.take i) (w.take i) = true) (fun i => [(0, .slice a v.length c), (1, .slice b w.length d), (5, int i)]) (fun i => [S] ++ R) (fun i => v.length - i) 0 (⟨Nat.zero_le _, rfl⟩) (by repeat constructor) (by repeat constructor) (fun i ⟨hi, ht⟩ => ?_)
    refine Gs.seq ?_
    refine Gs.seq ?_
    refine Gs.reg ?_
    refine Go.Sl.L.pu rfl rfl trivial (pu_move rfl) ?_
    refine Go.Sl.L.pu rfl rfl trivial (pu_move rfl) ?_
    refine Go.Sl.L.pu rfl rfl trivial (pu_len Tryz.underlying23 rfl) ?_
    refine Go.Sl.L.pu rfl rfl trivial (pu_lt rfl rfl) ?_
    refine Go.Sl.L.nil ?_
    refine Gs.then_n ?_
    refine Gs.cond rfl (fun hc1 => ?_) (fun hc1 => ?_)
    · skip
      have hlt : i < v.length := by have := of_decide_eq_true hc1; omega
      obtain ⟨x, hx⟩ : ∃ x, v[i]? = some x := ⟨v[i], by simp [hlt]⟩
      obtain ⟨y, hy⟩ : ∃ x, w[i]? = some x := ⟨w[i]'(by omega), by simp [← hle, hlt]⟩
      obtain rfl := ha (by rintro rfl; simp at hlt)
      obtain rfl := hu (by rintro rfl; simp at hy)
      refine Gs.skip ?_
      refine Gs.then_n ?_
      refine Gs.seq ?_
      refine Gs.block ?_
      refine Gs.seq ?_
      refine Gs.regD mixed (by kernel_rfl) ?_
      refine Rg.pu 0 rfl rfl (by kernel_rfl) trivial (pu_move rfl) ?_
      refine Rg.pu 1 rfl rfl (by kernel_rfl) trivial (pu_move rfl) ?_
      refine Rg.pu 2 rfl rfl (by kernel_rfl) trivial (pu_ia se_23 rfl rfl (by omega) (by omega)) ?_
      refine Rg.rd 3 rfl rfl (by kernel_rfl) trivial (rd_ld na_3 rfl (Rdc.el0 (hS.h (by repeat constructor)) hx rfl rfl)) ?_
      refine Rg.pu 4 rfl rfl (by kernel_rfl) trivial (pu_move rfl) ?_
      refine Rg.pu 5 rfl rfl (by kernel_rfl) trivial (pu_move rfl) ?_
      refine Rg.pu 6 rfl rfl (by kernel_rfl) trivial (pu_ia se_23 rfl rfl (by omega) (by omega)) ?_
      refine Rg.rd 7 rfl rfl (by kernel_rfl) trivial (rd_ld na_3 rfl (Rdc.el0 (hU.h (by repeat constructor)) hy rfl rfl)) ?_
      refine Rg.pu 8 rfl rfl (by kernel_rfl) trivial (pu_gt rfl rfl) ?_
      refine Rg.end (by kernel_rfl) ?_
      refine Gs.then_n ?_
      refine Gs.cond rfl (fun hc2 => ?_) (fun hc2 => ?_)
      · skip
        have hno : belowB v w = false := below_not hx hy (by have := of_decide_eq_true hc2; omega)
        refine Gs.seq ?_
        refine Gs.reg ?_
        refine Go.Sl.L.pu rfl rfl trivial (pu_assign rfl) ?_
        refine Go.Sl.L.nil ?_
        refine Gs.then_n ?_
        refine Gs.ret ?_
        refine Gs.blk_r ?_
        refine Gs.then_r ?_
        refine Gs.then_r ?_
        refine Gs.blk_r ?_
        refine Gs.then_r ?_
        exact Gs.fin1 Tryz.results15 rfl _ (⟨by rw [hno], rfl⟩) (by repeat constructor)
      · skip
        have hxy : x ≤ y := by have := of_decide_eq_false hc2; omega
        refine Gs.skip ?_
        refine Gs.blk_n ?_
        refine Gs.then_n ?_
        refine Gs.reg ?_
        refine Go.Sl.L.pu rfl rfl trivial (pu_move rfl) ?_
        refine Go.Sl.L.pu rfl rfl trivial (by first | exact pu_addI rfl rfl rfl (by omega) (by omega) | exact pu_add rfl rfl) ?_
        refine Go.Sl.L.pu rfl rfl trivial (pu_assign rfl) ?_
        refine Go.Sl.L.nil ?_
        refine Gs.then_n ?_
        exact Gs.again1 (i + 1) ⟨by omega, by rw [below_take hx hy, ht, decide_eq_true hxy]; rfl⟩ (by omega) (by repeat constructor) (by repeat constructor)
    · skip
      have hge : i = v.length := by have := of_decide_eq_false hc1; omega
      have ht1 : belowB v w = true := by rw [hge, List.take_length, hle, List.take_length] at ht; exact ht
      refine Gs.exit ?_
      refine Gs.then_x ?_
      refine Gs.then_x ?_
      refine Gs.blk_hit ?_
      refine Gs.then_n ?_
      refine Gs.seq ?_
      refine Gs.reg ?_
      refine Go.Sl.L.pu rfl rfl trivial (pu_assign rfl) ?_
      refine Go.Sl.L.nil ?_
      refine Gs.then_n ?_
      refine Gs.ret ?_
      exact Gs.fin1 Tryz.results15 rfl _ (⟨by rw [ht1], rfl⟩) (by repeat constructor)
end Go.Proofs.YtjaafkakeccniaaGreatDoor
