/- Walks: awake (grapevinelaw10). -/
import Derived.Test.YtonilkceolbkmaaPoW
import Derived.Test.YtonilkceolbkmaaJoin
namespace Go.Proofs.Ytonilkceolbkmaa
open Go Go.Sl Go.Gv Go.Po
set_option maxRecDepth 100000
abbrev blk (b : Nat) : Option Addr := some ⟨b, 0, none⟩
abbrev aP (x : Nat) : PostV := ⟨⟨1, 2⟩, ⟨blk x, [0, 3], 2⟩⟩
abbrev bP (x : Nat) : PostV := ⟨⟨1, 2⟩, ⟨blk x, [4], 1⟩⟩
abbrev aL (x y : Nat) : SlV PostV := ⟨blk y, [aP x], 1⟩
abbrev bL (x y : Nat) : SlV PostV := ⟨blk y, [bP x], 1⟩
/-- What is there of the two lists. -/
abbrev aH (x y z u : Nat) : List HProp := [sl 37 3 postC (blk y) 1 [aP x], sl 3 1 intC (blk x) 2 [0, 3], sl 37 3 postC (blk u) 1 [bP z], sl 3 1 intC (blk z) 1 [4]]
abbrev lit2 (w : Nat) (l m : SlV PostV) : HProp := sl 30 1 slC (blk w) 2 [l, m]
theorem lrd_ab (w x y z u : Nat) : LRd (big (lit2 w (aL x y) (bL z u) :: aH x y z u)) (blk w) [aL x y, bL z u] := by
  refine ⟨Srd.bigs (A := lit2 w (aL x y) (bL z u)) Srd.own (by simp), fun l hl => ?_⟩
  simp only [List.mem_cons, List.not_mem_nil, or_false] at hl
  rcases hl with rfl | rfl
  · refine ⟨⟨Srd.bigs (A := sl 37 3 postC (blk y) 1 [aP x]) Srd.own (by simp), fun p hp => ?_⟩, (Nat.le_of_ble_eq_true rfl)⟩
    simp only [List.mem_cons, List.not_mem_nil, or_false] at hp; subst hp
    exact ⟨Srd.bigs (A := sl 3 1 intC (blk x) 2 [0, 3]) Srd.own (by simp), (Nat.le_of_ble_eq_true rfl)⟩
  · refine ⟨⟨Srd.bigs (A := sl 37 3 postC (blk u) 1 [bP z]) Srd.own (by simp), fun p hp => ?_⟩, (Nat.le_of_ble_eq_true rfl)⟩
    simp only [List.mem_cons, List.not_mem_nil, or_false] at hp; subst hp
    exact ⟨Srd.bigs (A := sl 3 1 intC (blk z) 1 [4]) Srd.own (by simp), (Nat.le_of_ble_eq_true rfl)⟩
theorem lrd_ba (w x y z u : Nat) : LRd (big (lit2 w (bL z u) (aL x y) :: aH x y z u)) (blk w) [bL z u, aL x y] := by
  refine ⟨Srd.bigs (A := lit2 w (bL z u) (aL x y)) Srd.own (by simp), fun l hl => ?_⟩
  simp only [List.mem_cons, List.not_mem_nil, or_false] at hl
  rcases hl with rfl | rfl
  · refine ⟨⟨Srd.bigs (A := sl 37 3 postC (blk u) 1 [bP z]) Srd.own (by simp), fun p hp => ?_⟩, (Nat.le_of_ble_eq_true rfl)⟩
    simp only [List.mem_cons, List.not_mem_nil, or_false] at hp; subst hp
    exact ⟨Srd.bigs (A := sl 3 1 intC (blk z) 1 [4]) Srd.own (by simp), (Nat.le_of_ble_eq_true rfl)⟩
  · refine ⟨⟨Srd.bigs (A := sl 37 3 postC (blk y) 1 [aP x]) Srd.own (by simp), fun p hp => ?_⟩, (Nat.le_of_ble_eq_true rfl)⟩
    simp only [List.mem_cons, List.not_mem_nil, or_false] at hp; subst hp
    exact ⟨Srd.bigs (A := sl 3 1 intC (blk x) 2 [0, 3]) Srd.own (by simp), (Nat.le_of_ble_eq_true rfl)⟩
theorem prd_a (x y z u : Nat) : PRd (big (aH x y z u)) (blk y) [aP x] := by
  refine ⟨Srd.bigs (A := sl 37 3 postC (blk y) 1 [aP x]) Srd.own (by simp), fun p hp => ?_⟩
  simp only [List.mem_cons, List.not_mem_nil, or_false] at hp; subst hp
  exact ⟨Srd.bigs (A := sl 3 1 intC (blk x) 2 [0, 3]) Srd.own (by simp), (Nat.le_of_ble_eq_true rfl)⟩
section
variable (w x y z u : Nat)
theorem aw_phrase : Ct Try.prog 12 [.slice (blk w) 2 2] (lit2 w (aL x y) (bL z u) :: aH x y z u) (fun v hs => ∃ a c, v = .slice a 1 c ∧ hs = lit2 w (aL x y) (bL z u) :: aH x y z u ++ [sl 34 2 keyC a c [⟨1, 2⟩]]) := by
  refine (Ct.bigs (pphrase_spec (c := 2) (ls := [aL x y, bL z u]) (lrd_ab w x y z u) (Nat.le_of_ble_eq_true rfl) (Nat.le_of_ble_eq_true rfl)) (by rintro _ _ ⟨_, _, _, rfl⟩; exact ⟨_, rfl⟩)).mono ?_
  rintro _ _ ⟨_, ⟨a, c, rfl, ⟨⟩⟩, rfl⟩
  exact ⟨a, c, rfl, rfl⟩
theorem aw_phrase2 : Ct Try.prog 12 [.slice (blk w) 2 2] (lit2 w (bL z u) (aL x y) :: aH x y z u) (fun v hs => ∃ a c, v = .slice a 0 c ∧ hs = lit2 w (bL z u) (aL x y) :: aH x y z u ++ [sl 34 2 keyC a c []]) := by
  refine (Ct.bigs (pphrase_spec (c := 2) (ls := [bL z u, aL x y]) (lrd_ba w x y z u) (Nat.le_of_ble_eq_true rfl) (Nat.le_of_ble_eq_true rfl)) (by rintro _ _ ⟨_, _, _, rfl⟩; exact ⟨_, rfl⟩)).mono ?_
  rintro _ _ ⟨_, ⟨a, c, rfl, ⟨⟩⟩, rfl⟩
  exact ⟨a, c, rfl, rfl⟩
theorem aw_and : Ct Try.prog 10 [.slice (blk w) 2 2] (lit2 w (aL x y) (bL z u) :: aH x y z u) (fun v hs => ∃ a c, v = .slice a 1 c ∧ hs = lit2 w (aL x y) (bL z u) :: aH x y z u ++ [sl 34 2 keyC a c [⟨1, 2⟩]]) := by
  refine (Ct.bigs (pand_spec (c := 2) (ls := [aL x y, bL z u]) (lrd_ab w x y z u) (Nat.le_of_ble_eq_true rfl) (Nat.le_of_ble_eq_true rfl)) (by rintro _ _ ⟨_, _, _, rfl⟩; exact ⟨_, rfl⟩)).mono ?_
  rintro _ _ ⟨_, ⟨a, c, rfl, ⟨⟩⟩, rfl⟩
  exact ⟨a, c, rfl, rfl⟩
theorem aw_or : Ct Try.prog 11 [.slice (blk w) 2 2] (lit2 w (aL x y) (bL z u) :: aH x y z u) (fun v hs => ∃ a c, v = .slice a 1 c ∧ hs = lit2 w (aL x y) (bL z u) :: aH x y z u ++ [sl 34 2 keyC a c [⟨1, 2⟩]]) := by
  refine (Ct.bigs (por_spec (c := 2) (ls := [aL x y, bL z u]) (lrd_ab w x y z u) (Nat.le_of_ble_eq_true rfl) (Nat.le_of_ble_eq_true rfl)) (by rintro _ _ ⟨_, _, _, rfl⟩; exact ⟨_, rfl⟩)).mono ?_
  rintro _ _ ⟨_, ⟨a, c, rfl, ⟨⟩⟩, rfl⟩
  rw [porV_eq]
  exact ⟨a, c, rfl, rfl⟩
theorem aw_same (a b : Option Addr) (c d : Nat) (k : Key) : Ct Try.prog 13 [.slice a 1 c, .slice b 1 d] [sl 34 2 keyC a c [k], sl 34 2 keyC b d [k]] (fun v hs => v = .bool true ∧ hs = [sl 34 2 keyC a c [k], sl 34 2 keyC b d [k]]) := by
  refine (Ct.two (sameKeys_spec (c := c) (d := d) (xs := [k]) (ys := [k]) (Srd.two1 Srd.own) (Srd.two2 Srd.own) (Nat.le_of_ble_eq_true rfl)) (by rintro _ _ ⟨_, rfl⟩; exact ⟨_, rfl⟩)).mono ?_
  rintro _ _ ⟨_, ⟨rfl, ⟨⟩⟩, rfl⟩
  exact ⟨by rw [decide_eq_true rfl], rfl⟩
theorem aw_may : Ct Try.prog 17 [.slice (blk y) 1 1] (aH x y z u) (fun v hs => v = .bool true ∧ hs = aH x y z u) := by
  refine (Ct.bigs (may_spec (c := 1) (ps := [aP x]) (prd_a x y z u) (Nat.le_of_ble_eq_true rfl)) (by rintro _ _ ⟨_, rfl⟩; exact ⟨_, rfl⟩)).mono ?_
  rintro _ _ ⟨_, ⟨rfl, ⟨⟩⟩, rfl⟩
  exact ⟨rfl, rfl⟩
theorem aw_less (a b : Option Addr) (c d : Nat) (k : Key) : Ct Try.prog 22 [.slice a 1 c, .slice b 1 d] [sl 34 2 keyC a c [k], sl 34 2 keyC b d [k]] (fun v hs => ∃ a' c', v = .slice a' 0 c' ∧ hs = []) := by
  refine (Ct.two (pless_spec (c := c) (d := d) (xs := [k]) (ys := [k]) (Srd.two1 Srd.own) (Srd.two2 Srd.own) (Nat.le_of_ble_eq_true rfl) (Nat.le_of_ble_eq_true rfl)) (by rintro _ _ ⟨_, _, _, rfl⟩; exact ⟨_, rfl⟩)).less ?_
  rintro _ _ ⟨_, ⟨a', c', rfl, ⟨⟩⟩, rfl⟩
  exact ⟨[], ⟨a', c', by rw [show lessK [k] [k] = [] by simp [lessK]]; rfl, rfl⟩, .nil⟩
theorem aw_put : Ct Try.prog 20 [.slice none 0 0, postV (aP x)] (aH x y z u) (fun v hs => ∃ a' c', v = .slice a' 1 c' ∧ hs = aH x y z u) := by
  refine (Ct.bigs (pput_spec (a := none) (c := 0) (ps := []) (p := aP x) (S := big (aH x y z u)) ⟨fun _ _ _ _ _ _ h => (h rfl).elim, fun _ h => by cases h⟩ (Nat.le_of_ble_eq_true rfl) (Srd.bigs (A := sl 3 1 intC (blk x) 2 [0, 3]) Srd.own (by simp)) (Nat.le_of_ble_eq_true rfl)) (by rintro _ _ ⟨_, _, _, _, _, rfl⟩; exact ⟨_, rfl⟩)).less ?_
  rintro _ _ ⟨_, ⟨a', c', qs, rfl, hq, ⟨⟩⟩, rfl⟩
  have hl : qs.length = 1 := by have := congrArg List.length hq; rw [List.length_map] at this; exact this
  exact ⟨aH x y z u, ⟨a', c', by rw [hl], rfl⟩, by repeat constructor⟩
theorem aw_drop : Ct Try.prog 21 [.slice (blk y) 1 1, keyV ⟨1, 2⟩] (aH x y z u) (fun v hs => ∃ a' c', v = .slice a' 0 c' ∧ hs = aH x y z u) := by
  refine (Ct.bigs (pdrop_spec (c := 1) (ps := [aP x]) (prd_a x y z u) (Nat.le_of_ble_eq_true rfl) ⟨1, 2⟩) (by rintro _ _ ⟨_, _, _, _, _, rfl⟩; exact ⟨_, rfl⟩)).less ?_
  rintro _ _ ⟨_, ⟨a', c', qs, rfl, hq, ⟨⟩⟩, rfl⟩
  have hl : qs.length = 0 := by have := congrArg List.length hq; rw [List.length_map] at this; exact this
  exact ⟨aH x y z u, ⟨a', c', by rw [hl], rfl⟩, by repeat constructor⟩
end
theorem awake_spec : Ct Try.prog 9 [] [] (fun v hs => v = .bool true ∧ hs = []) := by
  refine Ct.intro Try.func9 rfl (by kernel_rfl) 74 Try.ntmps9 (Nat.le_of_ble_eq_true rfl) fun w0 R => ?_
  refine Gs.seq ?_
  refine Gs.reg ?_
  refine Go.Sl.L.pu rfl rfl trivial (pu_assign rfl) ?_
  refine Go.Sl.L.nil ?_
  refine Gs.then_n ?_
  refine Gs.seq ?_
  refine Gs.reg ?_
  refine Go.Sl.L.pu rfl rfl trivial (pu_build bd_34 (by repeat constructor) rfl) ?_
  refine Go.Sl.L.ac rfl rfl trivial (ac_alloc zv_34 rfl) ?_
  rintro _ _ ⟨b1, rfl, rfl⟩
  refine Go.Sl.L.ac0 rfl trivial (ac_st sz_34 rfl rfl (by repeat constructor) rfl rfl rfl rfl) ?_
  rintro _ _ rfl
  refine Go.Sl.L.nil ?_
  refine Gs.then_n ?_
  refine Gs.seq ?_
  refine Gs.cutS (σ := Nat × Nat × Nat × Nat) (fun s => [(1, ptr b1), (2, .slice (blk s.2.1) 1 1), (3, .slice (blk s.2.2.2) 1 1)]) (fun s => cl b1 34 (keyC ⟨1, 2⟩) :: aH s.1 s.2.1 s.2.2.1 s.2.2.2 ++ R) ?_ ?_
  · skip
    refine Gs.regD mixed (by kernel_rfl) ?_
    refine Rg.rd 0 rfl rfl (by kernel_rfl) trivial (rd_lda ag_34 rfl (Rdc.cl 2 (by repeat constructor) rfl) rfl) ?_
    refine Rg.rd 4 rfl rfl (by kernel_rfl) trivial (rd_lda ag_34 rfl (Rdc.cl 2 (by repeat constructor) rfl) rfl) ?_
    refine Rg.two (by kernel_rfl) (Stp.acK 1 rfl rfl (by kernel_rfl) trivial (ac_lit encC_3 ([(0 : Int), 3]) et_35 ek_3 rfl (by repeat constructor) rfl rfl (by decide)) (by rintro _ _ ⟨a6, rfl, rfl⟩ w s; first | exact s.drop | exact s | exact Ent.sat (by repeat constructor) s) ?_) (Stp.acK 5 rfl rfl (by kernel_rfl) trivial (ac_lit encC_3 ([(4 : Int)]) et_35 ek_3 rfl (by repeat constructor) rfl rfl (by decide)) (by rintro _ _ ⟨a10, rfl, rfl⟩ w s; first | exact s.drop | exact s | exact Ent.sat (by repeat constructor) s) ?_)
    · skip
      rintro _ _ ⟨a6, rfl, rfl⟩
      refine Rg.pu 2 rfl rfl (by kernel_rfl) trivial (pu_build bd_37 (by repeat constructor) rfl) ?_
      refine Rg.two (by kernel_rfl) (Stp.acK 3 rfl rfl (by kernel_rfl) trivial (ac_lit encC_37 ([aP a6]) et_30 ek_37 rfl (by repeat constructor) rfl rfl (by decide)) (by rintro _ _ ⟨a8, rfl, rfl⟩ w s; first | exact s.drop | exact s | exact Ent.sat (by repeat constructor) s) ?_) (Stp.acK 5 rfl rfl (by kernel_rfl) trivial (ac_lit encC_3 ([(4 : Int)]) et_35 ek_3 rfl (by repeat constructor) rfl rfl (by decide)) (by rintro _ _ ⟨a10, rfl, rfl⟩ w s; first | exact s.drop | exact s | exact Ent.sat (by repeat constructor) s) ?_)
      · skip
        rintro _ _ ⟨a8, rfl, rfl⟩
        refine Rg.pu 8 rfl rfl (by kernel_rfl) trivial (pu_assign rfl) ?_
        refine Rg.one (by kernel_rfl) (Stp.acK 5 rfl rfl (by kernel_rfl) trivial (ac_lit encC_3 ([(4 : Int)]) et_35 ek_3 rfl (by repeat constructor) rfl rfl (by decide)) (by rintro _ _ ⟨a10, rfl, rfl⟩ w s; first | exact s.drop | exact s | exact Ent.sat (by repeat constructor) s) ?_)
        rintro _ _ ⟨a10, rfl, rfl⟩
        refine Rg.pu 6 rfl rfl (by kernel_rfl) trivial (pu_build bd_37 (by repeat constructor) rfl) ?_
        refine Rg.one (by kernel_rfl) (Stp.ac 7 rfl rfl (by kernel_rfl) trivial (ac_lit encC_37 ([bP a10]) et_30 ek_37 rfl (by repeat constructor) rfl rfl (by decide))  ?_)
        rintro _ _ ⟨a12, rfl, rfl⟩
        refine Rg.pu 9 rfl rfl (by kernel_rfl) trivial (pu_assign rfl) ?_
        refine Rg.end (by kernel_rfl) ?_
        refine Gs.then_n ?_
        refine Gs.cutEndS (E := fun s => [(1, ptr b1), (2, .slice (blk s.2.1) 1 1), (3, .slice (blk s.2.2.2) 1 1)]) (I := fun s => cl b1 34 (keyC ⟨1, 2⟩) :: aH s.1 s.2.1 s.2.2.1 s.2.2.2 ++ R) (a6, a8, a10, a12) ?_ ?_
        · repeat constructor
        · repeat constructor
      · skip
        rintro _ _ ⟨a10, rfl, rfl⟩
        refine Rg.pu 6 rfl rfl (by kernel_rfl) trivial (pu_build bd_37 (by repeat constructor) rfl) ?_
        refine Rg.two (by kernel_rfl) (Stp.acK 3 rfl rfl (by kernel_rfl) trivial (ac_lit encC_37 ([aP a6]) et_30 ek_37 rfl (by repeat constructor) rfl rfl (by decide)) (by rintro _ _ ⟨a8, rfl, rfl⟩ w s; first | exact s.drop | exact s | exact Ent.sat (by repeat constructor) s) ?_) (Stp.acK 7 rfl rfl (by kernel_rfl) trivial (ac_lit encC_37 ([bP a10]) et_30 ek_37 rfl (by repeat constructor) rfl rfl (by decide)) (by rintro _ _ ⟨a12, rfl, rfl⟩ w s; first | exact s.drop | exact s | exact Ent.sat (by repeat constructor) s) ?_)
        · skip
          rintro _ _ ⟨a8, rfl, rfl⟩
          refine Rg.pu 8 rfl rfl (by kernel_rfl) trivial (pu_assign rfl) ?_
          refine Rg.one (by kernel_rfl) (Stp.ac 7 rfl rfl (by kernel_rfl) trivial (ac_lit encC_37 ([bP a10]) et_30 ek_37 rfl (by repeat constructor) rfl rfl (by decide))  ?_)
          rintro _ _ ⟨a12, rfl, rfl⟩
          refine Rg.pu 9 rfl rfl (by kernel_rfl) trivial (pu_assign rfl) ?_
          refine Rg.end (by kernel_rfl) ?_
          refine Gs.then_n ?_
          refine Gs.cutEndS (E := fun s => [(1, ptr b1), (2, .slice (blk s.2.1) 1 1), (3, .slice (blk s.2.2.2) 1 1)]) (I := fun s => cl b1 34 (keyC ⟨1, 2⟩) :: aH s.1 s.2.1 s.2.2.1 s.2.2.2 ++ R) (a6, a8, a10, a12) ?_ ?_
          · repeat constructor
          · repeat constructor
        · skip
          rintro _ _ ⟨a12, rfl, rfl⟩
          refine Rg.one (by kernel_rfl) (Stp.ac 3 rfl rfl (by kernel_rfl) trivial (ac_lit encC_37 ([aP a6]) et_30 ek_37 rfl (by repeat constructor) rfl rfl (by decide))  ?_)
          rintro _ _ ⟨a8, rfl, rfl⟩
          refine Rg.pu 8 rfl rfl (by kernel_rfl) trivial (pu_assign rfl) ?_
          refine Rg.pu 9 rfl rfl (by kernel_rfl) trivial (pu_assign rfl) ?_
          refine Rg.end (by kernel_rfl) ?_
          refine Gs.then_n ?_
          refine Gs.cutEndS (E := fun s => [(1, ptr b1), (2, .slice (blk s.2.1) 1 1), (3, .slice (blk s.2.2.2) 1 1)]) (I := fun s => cl b1 34 (keyC ⟨1, 2⟩) :: aH s.1 s.2.1 s.2.2.1 s.2.2.2 ++ R) (a6, a8, a10, a12) ?_ ?_
          · repeat constructor
          · repeat constructor
    · skip
      rintro _ _ ⟨a10, rfl, rfl⟩
      refine Rg.pu 6 rfl rfl (by kernel_rfl) trivial (pu_build bd_37 (by repeat constructor) rfl) ?_
      refine Rg.two (by kernel_rfl) (Stp.acK 1 rfl rfl (by kernel_rfl) trivial (ac_lit encC_3 ([(0 : Int), 3]) et_35 ek_3 rfl (by repeat constructor) rfl rfl (by decide)) (by rintro _ _ ⟨a6, rfl, rfl⟩ w s; first | exact s.drop | exact s | exact Ent.sat (by repeat constructor) s) ?_) (Stp.acK 7 rfl rfl (by kernel_rfl) trivial (ac_lit encC_37 ([bP a10]) et_30 ek_37 rfl (by repeat constructor) rfl rfl (by decide)) (by rintro _ _ ⟨a12, rfl, rfl⟩ w s; first | exact s.drop | exact s | exact Ent.sat (by repeat constructor) s) ?_)
      · skip
        rintro _ _ ⟨a6, rfl, rfl⟩
        refine Rg.pu 2 rfl rfl (by kernel_rfl) trivial (pu_build bd_37 (by repeat constructor) rfl) ?_
        refine Rg.two (by kernel_rfl) (Stp.acK 3 rfl rfl (by kernel_rfl) trivial (ac_lit encC_37 ([aP a6]) et_30 ek_37 rfl (by repeat constructor) rfl rfl (by decide)) (by rintro _ _ ⟨a8, rfl, rfl⟩ w s; first | exact s.drop | exact s | exact Ent.sat (by repeat constructor) s) ?_) (Stp.acK 7 rfl rfl (by kernel_rfl) trivial (ac_lit encC_37 ([bP a10]) et_30 ek_37 rfl (by repeat constructor) rfl rfl (by decide)) (by rintro _ _ ⟨a12, rfl, rfl⟩ w s; first | exact s.drop | exact s | exact Ent.sat (by repeat constructor) s) ?_)
        · skip
          rintro _ _ ⟨a8, rfl, rfl⟩
          refine Rg.pu 8 rfl rfl (by kernel_rfl) trivial (pu_assign rfl) ?_
          refine Rg.one (by kernel_rfl) (Stp.ac 7 rfl rfl (by kernel_rfl) trivial (ac_lit encC_37 ([bP a10]) et_30 ek_37 rfl (by repeat constructor) rfl rfl (by decide))  ?_)
          rintro _ _ ⟨a12, rfl, rfl⟩
          refine Rg.pu 9 rfl rfl (by kernel_rfl) trivial (pu_assign rfl) ?_
          refine Rg.end (by kernel_rfl) ?_
          refine Gs.then_n ?_
          refine Gs.cutEndS (E := fun s => [(1, ptr b1), (2, .slice (blk s.2.1) 1 1), (3, .slice (blk s.2.2.2) 1 1)]) (I := fun s => cl b1 34 (keyC ⟨1, 2⟩) :: aH s.1 s.2.1 s.2.2.1 s.2.2.2 ++ R) (a6, a8, a10, a12) ?_ ?_
          · repeat constructor
          · repeat constructor
        · skip
          rintro _ _ ⟨a12, rfl, rfl⟩
          refine Rg.one (by kernel_rfl) (Stp.ac 3 rfl rfl (by kernel_rfl) trivial (ac_lit encC_37 ([aP a6]) et_30 ek_37 rfl (by repeat constructor) rfl rfl (by decide))  ?_)
          rintro _ _ ⟨a8, rfl, rfl⟩
          refine Rg.pu 8 rfl rfl (by kernel_rfl) trivial (pu_assign rfl) ?_
          refine Rg.pu 9 rfl rfl (by kernel_rfl) trivial (pu_assign rfl) ?_
          refine Rg.end (by kernel_rfl) ?_
          refine Gs.then_n ?_
          refine Gs.cutEndS (E := fun s => [(1, ptr b1), (2, .slice (blk s.2.1) 1 1), (3, .slice (blk s.2.2.2) 1 1)]) (I := fun s => cl b1 34 (keyC ⟨1, 2⟩) :: aH s.1 s.2.1 s.2.2.1 s.2.2.2 ++ R) (a6, a8, a10, a12) ?_ ?_
          · repeat constructor
          · repeat constructor
      · skip
        rintro _ _ ⟨a12, rfl, rfl⟩
        refine Rg.one (by kernel_rfl) (Stp.acK 1 rfl rfl (by kernel_rfl) trivial (ac_lit encC_3 ([(0 : Int), 3]) et_35 ek_3 rfl (by repeat constructor) rfl rfl (by decide)) (by rintro _ _ ⟨a6, rfl, rfl⟩ w s; first | exact s.drop | exact s | exact Ent.sat (by repeat constructor) s) ?_)
        rintro _ _ ⟨a6, rfl, rfl⟩
        refine Rg.pu 2 rfl rfl (by kernel_rfl) trivial (pu_build bd_37 (by repeat constructor) rfl) ?_
        refine Rg.one (by kernel_rfl) (Stp.ac 3 rfl rfl (by kernel_rfl) trivial (ac_lit encC_37 ([aP a6]) et_30 ek_37 rfl (by repeat constructor) rfl rfl (by decide))  ?_)
        rintro _ _ ⟨a8, rfl, rfl⟩
        refine Rg.pu 8 rfl rfl (by kernel_rfl) trivial (pu_assign rfl) ?_
        refine Rg.pu 9 rfl rfl (by kernel_rfl) trivial (pu_assign rfl) ?_
        refine Rg.end (by kernel_rfl) ?_
        refine Gs.then_n ?_
        refine Gs.cutEndS (E := fun s => [(1, ptr b1), (2, .slice (blk s.2.1) 1 1), (3, .slice (blk s.2.2.2) 1 1)]) (I := fun s => cl b1 34 (keyC ⟨1, 2⟩) :: aH s.1 s.2.1 s.2.2.1 s.2.2.2 ++ R) (a6, a8, a10, a12) ?_ ?_
        · repeat constructor
        · repeat constructor
  · skip
    rintro ⟨x, y, z, u⟩
    refine Gs.seq ?_
    refine Gs.regD mixed (by kernel_rfl) ?_
    refine Rg.cutAt (σ := Unit) [0, 1, 2, 3, 4, 5, 6] (fun _ => [(1, ptr b1), (2, .slice (blk y) 1 1), (3, .slice (blk u) 1 1), (19, .bool true)]) (fun _ => cl b1 34 (keyC ⟨1, 2⟩) :: aH x y z u ++ R) ?_ (fun J6 => ?_)
    · skip
      rintro _
      refine Rg.cutAt (σ := Unit) [0, 1, 2, 3, 4, 5, 6, 7, 8, 9, 10, 11, 12, 13, 14, 15, 16, 17, 18, 19, 20, 21, 22] (fun _ => [(1, ptr b1), (2, .slice (blk y) 1 1), (3, .slice (blk u) 1 1), (28, .bool true), (35, .bool true)]) (fun _ => cl b1 34 (keyC ⟨1, 2⟩) :: aH x y z u ++ R) ?_ (fun J22 => ?_)
      · skip
        rintro _
        refine Rg.cutAt (σ := Unit) [0, 1, 2, 3, 4, 5, 6, 7, 8, 9, 10, 11, 12, 13, 14, 15, 16, 17, 18, 19, 20, 21, 22, 23, 24, 25, 26, 27, 28, 29, 30, 31] (fun _ => [(1, ptr b1), (2, .slice (blk y) 1 1), (3, .slice (blk u) 1 1), (37, .bool true), (44, .bool true)]) (fun _ => cl b1 34 (keyC ⟨1, 2⟩) :: aH x y z u ++ R) ?_ (fun J31 => ?_)
        · skip
          rintro _
          refine Rg.cutAt (σ := Option Addr × Nat) [0, 1, 2, 3, 4, 5, 6, 7, 8, 9, 10, 11, 12, 13, 14, 15, 16, 17, 18, 19, 20, 21, 22, 23, 24, 25, 26, 27, 28, 29, 30, 31, 32, 33, 34, 35, 36, 37, 38, 39, 40, 41, 42] (fun s => [(1, ptr b1), (2, .slice (blk y) 1 1), (3, .slice (blk u) 1 1), (50, .bool true), (55, .slice s.1 0 s.2)]) (fun _ => cl b1 34 (keyC ⟨1, 2⟩) :: aH x y z u ++ R) ?_ (fun J42 => ?_)
          · skip
            rintro ⟨ma, mc⟩
            refine Rg.pu 43 rfl rfl (by kernel_rfl) ⟨_, rfl, rfl⟩ (pu_len Try.underlying25 rfl) ?_
            refine Rg.pu 44 rfl rfl (by kernel_rfl) ⟨_, rfl, rfl⟩ (pu_eq rfl rfl) ?_
            refine Rg.pu 45 rfl rfl (by kernel_rfl) trivial (by first | exact pu_pick_t rfl rfl | exact pu_pick_f rfl rfl) ?_
            refine Rg.puBt 46 rfl rfl (by kernel_rfl) trivial (pu_move rfl) rfl ?_
            refine Rg.pu 47 rfl rfl (by kernel_rfl) ⟨_, rfl, rfl⟩ (pu_move rfl) ?_
            refine Rg.pu 48 rfl rfl (by kernel_rfl) ⟨_, rfl, rfl⟩ (pu_ia se_30 rfl rfl (by omega) (by omega)) ?_
            refine Rg.rd 49 rfl rfl (by kernel_rfl) ⟨_, rfl, rfl⟩ (rd_lda ag_37 rfl (Rdc.el0 (i := 0) (x := aP x) (xs := [aP x]) (enc := postC) (sz := 3) (SlH.own (E := 37) (c := 1) (by repeat constructor)) rfl rfl rfl) rfl) ?_
            refine Rg.one (by kernel_rfl) (Stp.ac 50 rfl rfl (by kernel_rfl) ⟨_, rfl, rfl⟩ (as_call (aw_put x y z u) (by repeat constructor) (by repeat constructor))  ?_)
            rintro _ _ ⟨_, ⟨pa, pc, rfl, rfl⟩, rfl⟩
            refine Rg.pu 51 rfl rfl (by kernel_rfl) ⟨_, rfl, rfl⟩ (pu_len Try.underlying30 rfl) ?_
            refine Rg.pu 52 rfl rfl (by kernel_rfl) ⟨_, rfl, rfl⟩ (pu_eq rfl rfl) ?_
            refine Rg.pu 53 rfl rfl (by kernel_rfl) trivial (by first | exact pu_pick_t rfl rfl | exact pu_pick_f rfl rfl) ?_
            refine Rg.puBt 54 rfl rfl (by kernel_rfl) trivial (pu_move rfl) rfl ?_
            refine Rg.pu 55 rfl rfl (by kernel_rfl) ⟨_, rfl, rfl⟩ (pu_move rfl) ?_
            refine Rg.rd 56 rfl rfl (by kernel_rfl) ⟨_, rfl, rfl⟩ (rd_lda ag_34 rfl (Rdc.cl 2 (by repeat constructor) rfl) rfl) ?_
            refine Rg.one (by kernel_rfl) (Stp.ac 57 rfl rfl (by kernel_rfl) ⟨_, rfl, rfl⟩ (as_call (aw_drop x y z u) (by repeat constructor) (by repeat constructor))  ?_)
            rintro _ _ ⟨_, ⟨da, dc, rfl, rfl⟩, rfl⟩
            refine Rg.pu 58 rfl rfl (by kernel_rfl) ⟨_, rfl, rfl⟩ (pu_len Try.underlying30 rfl) ?_
            refine Rg.pu 59 rfl rfl (by kernel_rfl) ⟨_, rfl, rfl⟩ (pu_eq rfl rfl) ?_
            refine Rg.pu 60 rfl rfl (by kernel_rfl) trivial (by first | exact pu_pick_t rfl rfl | exact pu_pick_f rfl rfl) ?_
            refine Rg.pu 61 rfl rfl (by kernel_rfl) trivial (pu_assign rfl) ?_
            refine Rg.end (by kernel_rfl) ?_
            refine Gs.then_n ?_
            refine Gs.ret ?_
            exact Gs.fin1 Try.results9 rfl _ (⟨rfl, rfl⟩) (by repeat constructor)
          · skip
            refine Rg.pu 32 rfl rfl (by kernel_rfl) trivial (by first | exact pu_pick_t rfl rfl | exact pu_pick_f rfl rfl) ?_
            refine Rg.pu 33 rfl rfl (by kernel_rfl) trivial (pu_move rfl) ?_
            refine Rg.pu 34 rfl rfl (by kernel_rfl) ⟨_, rfl, rfl⟩ (pu_move rfl) ?_
            refine Rg.one (by kernel_rfl) (Stp.ac 35 rfl rfl (by kernel_rfl) ⟨_, rfl, rfl⟩ (as_call (aw_may x y z u) (by repeat constructor) (by repeat constructor))  ?_)
            rintro _ _ ⟨_, ⟨rfl, rfl⟩, rfl⟩
            refine Rg.pu 36 rfl rfl (by kernel_rfl) trivial (by first | exact pu_pick_t rfl rfl | exact pu_pick_f rfl rfl) ?_
            refine Rg.puBt 37 rfl rfl (by kernel_rfl) trivial (pu_move rfl) rfl ?_
            refine Rg.rd 38 rfl rfl (by kernel_rfl) ⟨_, rfl, rfl⟩ (rd_lda ag_34 rfl (Rdc.cl 2 (by repeat constructor) rfl) rfl) ?_
            refine Rg.rd 40 rfl rfl (by kernel_rfl) ⟨_, rfl, rfl⟩ (rd_lda ag_34 rfl (Rdc.cl 2 (by repeat constructor) rfl) rfl) ?_
            refine Rg.two (by kernel_rfl) (Stp.acK 39 rfl rfl (by kernel_rfl) ⟨_, rfl, rfl⟩ (ac_lit encC_34 ([(⟨1, 2⟩ : Key)]) et_25 ek_34 rfl (by repeat constructor) rfl rfl (by decide)) (by rintro _ _ ⟨a52, rfl, rfl⟩ w s; first | exact s.drop | exact s | exact Ent.sat (by repeat constructor) s) ?_) (Stp.acK 41 rfl rfl (by kernel_rfl) ⟨_, rfl, rfl⟩ (ac_lit encC_34 ([(⟨1, 2⟩ : Key)]) et_25 ek_34 rfl (by repeat constructor) rfl rfl (by decide)) (by rintro _ _ ⟨a54, rfl, rfl⟩ w s; first | exact s.drop | exact s | exact Ent.sat (by repeat constructor) s) ?_)
            · skip
              rintro _ _ ⟨a52, rfl, rfl⟩
              refine Rg.one (by kernel_rfl) (Stp.ac 41 rfl rfl (by kernel_rfl) ⟨_, rfl, rfl⟩ (ac_lit encC_34 ([(⟨1, 2⟩ : Key)]) et_25 ek_34 rfl (by repeat constructor) rfl rfl (by decide))  ?_)
              rintro _ _ ⟨a54, rfl, rfl⟩
              refine Rg.one (by kernel_rfl) (Stp.ac 42 rfl rfl (by kernel_rfl) ⟨_, rfl, rfl⟩ (as_call (aw_less (blk a52) (blk a54) 1 1 ⟨1, 2⟩) (by repeat constructor) (by repeat constructor))  ?_)
              rintro _ _ ⟨_, ⟨ma, mc, rfl, rfl⟩, rfl⟩
              exact Rg.join (by kernel_rfl) (by kernel_rfl) (by repeat constructor) (by repeat constructor) (J42 (ma, mc))
            · skip
              rintro _ _ ⟨a54, rfl, rfl⟩
              refine Rg.one (by kernel_rfl) (Stp.ac 39 rfl rfl (by kernel_rfl) ⟨_, rfl, rfl⟩ (ac_lit encC_34 ([(⟨1, 2⟩ : Key)]) et_25 ek_34 rfl (by repeat constructor) rfl rfl (by decide))  ?_)
              rintro _ _ ⟨a52, rfl, rfl⟩
              refine Rg.one (by kernel_rfl) (Stp.ac 42 rfl rfl (by kernel_rfl) ⟨_, rfl, rfl⟩ (as_call (aw_less (blk a52) (blk a54) 1 1 ⟨1, 2⟩) (by repeat constructor) (by repeat constructor))  ?_)
              rintro _ _ ⟨_, ⟨ma, mc, rfl, rfl⟩, rfl⟩
              exact Rg.join (by kernel_rfl) (by kernel_rfl) (by repeat constructor) (by repeat constructor) (J42 (ma, mc))
        · skip
          refine Rg.pu 23 rfl rfl (by kernel_rfl) trivial (by first | exact pu_pick_t rfl rfl | exact pu_pick_f rfl rfl) ?_
          refine Rg.pu 24 rfl rfl (by kernel_rfl) trivial (pu_move rfl) ?_
          refine Rg.pu 25 rfl rfl (by kernel_rfl) ⟨_, rfl, rfl⟩ (pu_move rfl) ?_
          refine Rg.pu 26 rfl rfl (by kernel_rfl) ⟨_, rfl, rfl⟩ (pu_move rfl) ?_
          refine Rg.rd 29 rfl rfl (by kernel_rfl) ⟨_, rfl, rfl⟩ (rd_lda ag_34 rfl (Rdc.cl 2 (by repeat constructor) rfl) rfl) ?_
          refine Rg.two (by kernel_rfl) (Stp.acK 27 rfl rfl (by kernel_rfl) ⟨_, rfl, rfl⟩ (ac_lit encC_30 ([aL x y, bL z u]) et_22 ek_30 rfl (by repeat constructor) rfl rfl (by decide)) (by rintro _ _ ⟨a40, rfl, rfl⟩ w s; first | exact s.drop | exact s | exact Ent.sat (by repeat constructor) s) ?_) (Stp.ac 30 rfl rfl (by kernel_rfl) ⟨_, rfl, rfl⟩ (ac_lit encC_34 ([(⟨1, 2⟩ : Key)]) et_25 ek_34 rfl (by repeat constructor) rfl rfl (by decide))  ?_)
          · skip
            rintro _ _ ⟨a40, rfl, rfl⟩
            refine Rg.two (by kernel_rfl) (Stp.acR 28 [29] rfl rfl (by kernel_rfl) ⟨_, rfl, rfl⟩ (as_call (aw_or a40 x y z u) (by repeat constructor) (by repeat constructor)) (by rintro _ _ ⟨_, ⟨ka, kc, rfl, rfl⟩, rfl⟩; exact (Reads.cons rfl rfl rfl ⟨_, rfl, rfl⟩ rfl (rd_lda ag_34 rfl (Rdc.cl 2 (by repeat constructor) rfl) rfl) Reads.nil)) ?_) (Stp.ac 30 rfl rfl (by kernel_rfl) ⟨_, rfl, rfl⟩ (ac_lit encC_34 ([(⟨1, 2⟩ : Key)]) et_25 ek_34 rfl (by repeat constructor) rfl rfl (by decide))  ?_)
            · skip
              rintro _ _ ⟨_, ⟨ka, kc, rfl, rfl⟩, rfl⟩
              refine Rg.one (by kernel_rfl) (Stp.ac 30 rfl rfl (by kernel_rfl) ⟨_, rfl, rfl⟩ (ac_lit encC_34 ([(⟨1, 2⟩ : Key)]) et_25 ek_34 rfl (by repeat constructor) rfl rfl (by decide))  ?_)
              rintro _ _ ⟨a43, rfl, rfl⟩
              refine Rg.one (by kernel_rfl) (Stp.ac 31 rfl rfl (by kernel_rfl) ⟨_, rfl, rfl⟩ (as_call (aw_same ka (blk a43) kc 1 ⟨1, 2⟩) (by repeat constructor) (by repeat constructor))  ?_)
              rintro _ _ ⟨_, ⟨rfl, rfl⟩, rfl⟩
              exact Rg.join (by kernel_rfl) (by kernel_rfl) (by repeat constructor) (by repeat constructor) (J31 ())
            · skip
              rintro _ _ ⟨a43, rfl, rfl⟩
              refine Rg.one (by kernel_rfl) (Stp.ac 28 rfl rfl (by kernel_rfl) ⟨_, rfl, rfl⟩ (as_call (aw_or a40 x y z u) (by repeat constructor) (by repeat constructor))  ?_)
              rintro _ _ ⟨_, ⟨ka, kc, rfl, rfl⟩, rfl⟩
              refine Rg.one (by kernel_rfl) (Stp.ac 31 rfl rfl (by kernel_rfl) ⟨_, rfl, rfl⟩ (as_call (aw_same ka (blk a43) kc 1 ⟨1, 2⟩) (by repeat constructor) (by repeat constructor))  ?_)
              rintro _ _ ⟨_, ⟨rfl, rfl⟩, rfl⟩
              exact Rg.join (by kernel_rfl) (by kernel_rfl) (by repeat constructor) (by repeat constructor) (J31 ())
          · skip
            rintro _ _ ⟨a43, rfl, rfl⟩
            refine Rg.one (by kernel_rfl) (Stp.ac 27 rfl rfl (by kernel_rfl) ⟨_, rfl, rfl⟩ (ac_lit encC_30 ([aL x y, bL z u]) et_22 ek_30 rfl (by repeat constructor) rfl rfl (by decide))  ?_)
            rintro _ _ ⟨a40, rfl, rfl⟩
            refine Rg.one (by kernel_rfl) (Stp.ac 28 rfl rfl (by kernel_rfl) ⟨_, rfl, rfl⟩ (as_call (aw_or a40 x y z u) (by repeat constructor) (by repeat constructor))  ?_)
            rintro _ _ ⟨_, ⟨ka, kc, rfl, rfl⟩, rfl⟩
            refine Rg.one (by kernel_rfl) (Stp.ac 31 rfl rfl (by kernel_rfl) ⟨_, rfl, rfl⟩ (as_call (aw_same ka (blk a43) kc 1 ⟨1, 2⟩) (by repeat constructor) (by repeat constructor))  ?_)
            rintro _ _ ⟨_, ⟨rfl, rfl⟩, rfl⟩
            exact Rg.join (by kernel_rfl) (by kernel_rfl) (by repeat constructor) (by repeat constructor) (J31 ())
      · skip
        refine Rg.pu 7 rfl rfl (by kernel_rfl) trivial (pu_move rfl) ?_
        refine Rg.pu 8 rfl rfl (by kernel_rfl) ⟨_, rfl, rfl⟩ (pu_move rfl) ?_
        refine Rg.pu 9 rfl rfl (by kernel_rfl) ⟨_, rfl, rfl⟩ (pu_move rfl) ?_
        refine Rg.one (by kernel_rfl) (Stp.ac 10 rfl rfl (by kernel_rfl) ⟨_, rfl, rfl⟩ (ac_lit encC_30 ([bL z u, aL x y]) et_22 ek_30 rfl (by repeat constructor) rfl rfl (by decide))  ?_)
        rintro _ _ ⟨a23, rfl, rfl⟩
        refine Rg.one (by kernel_rfl) (Stp.ac 11 rfl rfl (by kernel_rfl) ⟨_, rfl, rfl⟩ (as_call (aw_phrase2 a23 x y z u) (by repeat constructor) (by repeat constructor))  ?_)
        rintro _ _ ⟨_, ⟨kb, kd, rfl, rfl⟩, rfl⟩
        refine Rg.pu 12 rfl rfl (by kernel_rfl) ⟨_, rfl, rfl⟩ (pu_len Try.underlying25 rfl) ?_
        refine Rg.pu 13 rfl rfl (by kernel_rfl) ⟨_, rfl, rfl⟩ (pu_eq rfl rfl) ?_
        refine Rg.pu 14 rfl rfl (by kernel_rfl) trivial (by first | exact pu_pick_t rfl rfl | exact pu_pick_f rfl rfl) ?_
        refine Rg.puBt 15 rfl rfl (by kernel_rfl) trivial (pu_move rfl) rfl ?_
        refine Rg.pu 16 rfl rfl (by kernel_rfl) ⟨_, rfl, rfl⟩ (pu_move rfl) ?_
        refine Rg.pu 17 rfl rfl (by kernel_rfl) ⟨_, rfl, rfl⟩ (pu_move rfl) ?_
        refine Rg.rd 20 rfl rfl (by kernel_rfl) ⟨_, rfl, rfl⟩ (rd_lda ag_34 rfl (Rdc.cl 2 (by repeat constructor) rfl) rfl) ?_
        refine Rg.two (by kernel_rfl) (Stp.acK 18 rfl rfl (by kernel_rfl) ⟨_, rfl, rfl⟩ (ac_lit encC_30 ([aL x y, bL z u]) et_22 ek_30 rfl (by repeat constructor) rfl rfl (by decide)) (by rintro _ _ ⟨a31, rfl, rfl⟩ w s; first | exact s.drop | exact s | exact Ent.sat (by repeat constructor) s) ?_) (Stp.ac 21 rfl rfl (by kernel_rfl) ⟨_, rfl, rfl⟩ (ac_lit encC_34 ([(⟨1, 2⟩ : Key)]) et_25 ek_34 rfl (by repeat constructor) rfl rfl (by decide))  ?_)
        · skip
          rintro _ _ ⟨a31, rfl, rfl⟩
          refine Rg.two (by kernel_rfl) (Stp.acR 19 [20] rfl rfl (by kernel_rfl) ⟨_, rfl, rfl⟩ (as_call (aw_and a31 x y z u) (by repeat constructor) (by repeat constructor)) (by rintro _ _ ⟨_, ⟨ka, kc, rfl, rfl⟩, rfl⟩; exact (Reads.cons rfl rfl rfl ⟨_, rfl, rfl⟩ rfl (rd_lda ag_34 rfl (Rdc.cl 2 (by repeat constructor) rfl) rfl) Reads.nil)) ?_) (Stp.ac 21 rfl rfl (by kernel_rfl) ⟨_, rfl, rfl⟩ (ac_lit encC_34 ([(⟨1, 2⟩ : Key)]) et_25 ek_34 rfl (by repeat constructor) rfl rfl (by decide))  ?_)
          · skip
            rintro _ _ ⟨_, ⟨ka, kc, rfl, rfl⟩, rfl⟩
            refine Rg.one (by kernel_rfl) (Stp.ac 21 rfl rfl (by kernel_rfl) ⟨_, rfl, rfl⟩ (ac_lit encC_34 ([(⟨1, 2⟩ : Key)]) et_25 ek_34 rfl (by repeat constructor) rfl rfl (by decide))  ?_)
            rintro _ _ ⟨a34, rfl, rfl⟩
            refine Rg.one (by kernel_rfl) (Stp.ac 22 rfl rfl (by kernel_rfl) ⟨_, rfl, rfl⟩ (as_call (aw_same ka (blk a34) kc 1 ⟨1, 2⟩) (by repeat constructor) (by repeat constructor))  ?_)
            rintro _ _ ⟨_, ⟨rfl, rfl⟩, rfl⟩
            exact Rg.join (by kernel_rfl) (by kernel_rfl) (by repeat constructor) (by repeat constructor) (J22 ())
          · skip
            rintro _ _ ⟨a34, rfl, rfl⟩
            refine Rg.one (by kernel_rfl) (Stp.ac 19 rfl rfl (by kernel_rfl) ⟨_, rfl, rfl⟩ (as_call (aw_and a31 x y z u) (by repeat constructor) (by repeat constructor))  ?_)
            rintro _ _ ⟨_, ⟨ka, kc, rfl, rfl⟩, rfl⟩
            refine Rg.one (by kernel_rfl) (Stp.ac 22 rfl rfl (by kernel_rfl) ⟨_, rfl, rfl⟩ (as_call (aw_same ka (blk a34) kc 1 ⟨1, 2⟩) (by repeat constructor) (by repeat constructor))  ?_)
            rintro _ _ ⟨_, ⟨rfl, rfl⟩, rfl⟩
            exact Rg.join (by kernel_rfl) (by kernel_rfl) (by repeat constructor) (by repeat constructor) (J22 ())
        · skip
          rintro _ _ ⟨a34, rfl, rfl⟩
          refine Rg.one (by kernel_rfl) (Stp.ac 18 rfl rfl (by kernel_rfl) ⟨_, rfl, rfl⟩ (ac_lit encC_30 ([aL x y, bL z u]) et_22 ek_30 rfl (by repeat constructor) rfl rfl (by decide))  ?_)
          rintro _ _ ⟨a31, rfl, rfl⟩
          refine Rg.one (by kernel_rfl) (Stp.ac 19 rfl rfl (by kernel_rfl) ⟨_, rfl, rfl⟩ (as_call (aw_and a31 x y z u) (by repeat constructor) (by repeat constructor))  ?_)
          rintro _ _ ⟨_, ⟨ka, kc, rfl, rfl⟩, rfl⟩
          refine Rg.one (by kernel_rfl) (Stp.ac 22 rfl rfl (by kernel_rfl) ⟨_, rfl, rfl⟩ (as_call (aw_same ka (blk a34) kc 1 ⟨1, 2⟩) (by repeat constructor) (by repeat constructor))  ?_)
          rintro _ _ ⟨_, ⟨rfl, rfl⟩, rfl⟩
          exact Rg.join (by kernel_rfl) (by kernel_rfl) (by repeat constructor) (by repeat constructor) (J22 ())
    · skip
      refine Rg.pu 0 rfl rfl (by kernel_rfl) trivial (pu_move rfl) ?_
      refine Rg.pu 1 rfl rfl (by kernel_rfl) trivial (pu_move rfl) ?_
      refine Rg.rd 4 rfl rfl (by kernel_rfl) trivial (rd_lda ag_34 rfl (Rdc.cl 2 (by repeat constructor) rfl) rfl) ?_
      refine Rg.two (by kernel_rfl) (Stp.acK 2 rfl rfl (by kernel_rfl) trivial (ac_lit encC_30 ([aL x y, bL z u]) et_22 ek_30 rfl (by repeat constructor) rfl rfl (by decide)) (by rintro _ _ ⟨a15, rfl, rfl⟩ w s; first | exact s.drop | exact s | exact Ent.sat (by repeat constructor) s) ?_) (Stp.ac 5 rfl rfl (by kernel_rfl) trivial (ac_lit encC_34 ([(⟨1, 2⟩ : Key)]) et_25 ek_34 rfl (by repeat constructor) rfl rfl (by decide))  ?_)
      · skip
        rintro _ _ ⟨a15, rfl, rfl⟩
        refine Rg.two (by kernel_rfl) (Stp.acR 3 [4] rfl rfl (by kernel_rfl) trivial (as_call (aw_phrase a15 x y z u) (by repeat constructor) (by repeat constructor)) (by rintro _ _ ⟨_, ⟨ka, kc, rfl, rfl⟩, rfl⟩; exact (Reads.cons rfl rfl rfl trivial rfl (rd_lda ag_34 rfl (Rdc.cl 2 (by repeat constructor) rfl) rfl) Reads.nil)) ?_) (Stp.ac 5 rfl rfl (by kernel_rfl) trivial (ac_lit encC_34 ([(⟨1, 2⟩ : Key)]) et_25 ek_34 rfl (by repeat constructor) rfl rfl (by decide))  ?_)
        · skip
          rintro _ _ ⟨_, ⟨ka, kc, rfl, rfl⟩, rfl⟩
          refine Rg.one (by kernel_rfl) (Stp.ac 5 rfl rfl (by kernel_rfl) trivial (ac_lit encC_34 ([(⟨1, 2⟩ : Key)]) et_25 ek_34 rfl (by repeat constructor) rfl rfl (by decide))  ?_)
          rintro _ _ ⟨a18, rfl, rfl⟩
          refine Rg.one (by kernel_rfl) (Stp.ac 6 rfl rfl (by kernel_rfl) trivial (as_call (aw_same ka (blk a18) kc 1 ⟨1, 2⟩) (by repeat constructor) (by repeat constructor))  ?_)
          rintro _ _ ⟨_, ⟨rfl, rfl⟩, rfl⟩
          exact Rg.join (by kernel_rfl) (by kernel_rfl) (by repeat constructor) (by repeat constructor) (J6 ())
        · skip
          rintro _ _ ⟨a18, rfl, rfl⟩
          refine Rg.one (by kernel_rfl) (Stp.ac 3 rfl rfl (by kernel_rfl) trivial (as_call (aw_phrase a15 x y z u) (by repeat constructor) (by repeat constructor))  ?_)
          rintro _ _ ⟨_, ⟨ka, kc, rfl, rfl⟩, rfl⟩
          refine Rg.one (by kernel_rfl) (Stp.ac 6 rfl rfl (by kernel_rfl) trivial (as_call (aw_same ka (blk a18) kc 1 ⟨1, 2⟩) (by repeat constructor) (by repeat constructor))  ?_)
          rintro _ _ ⟨_, ⟨rfl, rfl⟩, rfl⟩
          exact Rg.join (by kernel_rfl) (by kernel_rfl) (by repeat constructor) (by repeat constructor) (J6 ())
      · skip
        rintro _ _ ⟨a18, rfl, rfl⟩
        refine Rg.one (by kernel_rfl) (Stp.ac 2 rfl rfl (by kernel_rfl) trivial (ac_lit encC_30 ([aL x y, bL z u]) et_22 ek_30 rfl (by repeat constructor) rfl rfl (by decide))  ?_)
        rintro _ _ ⟨a15, rfl, rfl⟩
        refine Rg.one (by kernel_rfl) (Stp.ac 3 rfl rfl (by kernel_rfl) trivial (as_call (aw_phrase a15 x y z u) (by repeat constructor) (by repeat constructor))  ?_)
        rintro _ _ ⟨_, ⟨ka, kc, rfl, rfl⟩, rfl⟩
        refine Rg.one (by kernel_rfl) (Stp.ac 6 rfl rfl (by kernel_rfl) trivial (as_call (aw_same ka (blk a18) kc 1 ⟨1, 2⟩) (by repeat constructor) (by repeat constructor))  ?_)
        rintro _ _ ⟨_, ⟨rfl, rfl⟩, rfl⟩
        exact Rg.join (by kernel_rfl) (by kernel_rfl) (by repeat constructor) (by repeat constructor) (J6 ())
end Go.Proofs.Ytonilkceolbkmaa
