/- What the closing leans on: part 10. -/
import Derived.Test.YtklgiidfompdpaaGreatDoorZi
import Derived.Lib.MapLaws
import Derived.Lib.ValidLaws
import Derived.Laws.Cover4
import Derived.Laws.IdiomStrings
import Derived.Shelf.Strings.FuncGrows
import Derived.Shelf.Strconv.Itoa3
import Derived.Shelf.Strings.OnBuilder
import Derived.Test.YtklgiidfompdpaaGreatDoorProg
import Derived.Test.YtklgiidfompdpaaGreatDoorZc
import Derived.Test.YtklgiidfompdpaaGreatDoorZe
import Derived.Test.YtklgiidfompdpaaGreatDoorZg
import Derived.Sort.Grow
import Derived.WalkMore
namespace Go.Qu
open Go Go.Sl Go.Gv Go.Ix
theorem part_le {l : List AskV} {f : AskV → Nat} {i : Nat} {y : AskV} (h : l[i]? = some y) : ((l.take i).map f).sum + f y ≤ (l.map f).sum := by
  rw [← sum_take h]
  have e : l = l.take (i + 1) ++ l.drop (i + 1) := (List.take_append_drop _ _).symm
  have : (l.map f).sum = ((l.take (i + 1)).map f).sum + ((l.drop (i + 1)).map f).sum := by rw [← List.sum_append, ← List.map_append, ← e]
  omega
theorem terms_part (d : Nat) (l : List AskV) (hl : ∀ x ∈ l, FewA d x) : (l.map (termsA d)).sum ≤ 30 * (l.map (sizeA d)).sum := by
  induction l with
  | nil => exact Nat.le_refl _
  | cons x l ih =>
    have e1 := ih fun y hy => hl y (by simp [hy])
    have e2 := terms_le d x (hl x (by simp))
    simp only [List.map_cons, List.sum_cons]; omega
end Go.Qu
namespace Go.Proofs.YtklgiidfompdpaaGreatDoor
open Go Go.Sl Go.Gv Go.Kv Go.Po Go.Ix Go.Qu
set_option maxRecDepth 100000
theorem terms14_spec {S : HProp} : ∀ (d : Nat) {x : AskV} (hA : ARd S x) (hF : FewA d x) (hz : sizeA d x ≤ 1000),
    Ct Tryz.prog 57 [askV x] [S] (fun v hs => v = int (termsA d x : Nat) ∧ hs = [S])
  | 0, x, hA, hF, hz => hF.elim
  | d + 1, x, hA, hF, hz => by
    have ih := @terms14_spec S d
    have htl := terms_le (d + 1) x hF
    obtain ⟨hf1, hf2, hf3, hf4⟩ := hF
    obtain ⟨v0, hv0⟩ : ∃ z, z = termsA (d + 1) x := ⟨_, rfl⟩
    have hvd : v0 = if x.ss = [] then max x.ws.length 1 else (x.ss.map (termsA d)).sum := hv0
    have hsz : 1 + (x.ss.map (sizeA d)).sum ≤ 1000 := hz
    have hsl := sum_len d x.ss
    rw [← hv0] at htl ⊢
    refine Ct.intro Tryz.func57 rfl (by kernel_rfl) 29 Tryz.ntmps57 (Nat.le_of_ble_eq_true rfl) fun w0 R => ?_
    refine Gs.slAddr (hA.s.h (by repeat constructor)) fun ab ao ha => ?_
    refine Gs.seq ?_
    refine Gs.reg ?_
    refine Go.Sl.L.ac rfl rfl trivial (ac_box rfl rfl) ?_
    rintro _ _ ⟨xb, rfl, rfl⟩
    refine Go.Sl.L.pu rfl rfl trivial (pu_assign rfl) ?_
    refine Go.Sl.L.nil ?_
    refine Gs.then_n ?_
    refine Gs.seq ?_
    refine Gs.seq ?_
    refine Gs.reg ?_
    refine Go.Sl.L.pu rfl rfl trivial (pu_fa fa_26_3 rfl) ?_
    refine Go.Sl.L.rd rfl rfl trivial (rd_ld na_24 rfl (Rdc.cl1 (by repeat constructor) rfl)) ?_
    refine Go.Sl.L.pu rfl rfl trivial (pu_len Tryz.underlying24 rfl) ?_
    refine Go.Sl.L.pu rfl rfl trivial (pu_eq rfl rfl) ?_
    refine Go.Sl.L.nil ?_
    refine Gs.then_n ?_
    refine Gs.cond rfl (fun hc0 => ?_) (fun hc0 => ?_)
    · skip
      have he : x.ss = [] := by have := of_decide_eq_true hc0; exact List.length_eq_zero_iff.1 (by omega)
      rw [if_pos he] at hvd
      refine Gs.seq ?_
      refine Gs.reg ?_
      refine Go.Sl.L.pu rfl rfl trivial (pu_fa fa_26_2 rfl) ?_
      refine Go.Sl.L.rd rfl rfl trivial (rd_ld na_23 rfl (Rdc.cl1 (by repeat constructor) rfl)) ?_
      refine Go.Sl.L.pu rfl rfl trivial (pu_len Tryz.underlying23 rfl) ?_
      refine Go.Sl.L.pu rfl rfl trivial (pu_max rfl rfl) ?_
      rw [show max ((x.w.xs.length : Nat) : Int) (1 : Int) = ((v0 : Nat) : Int) by rw [hvd]; show max ((x.w.xs.length : Nat) : Int) (1 : Int) = ((max x.w.xs.length 1 : Nat) : Int); omega]
      refine Go.Sl.L.pu rfl rfl trivial (pu_assign rfl) ?_
      refine Go.Sl.L.nil ?_
      refine Gs.then_n ?_
      refine Gs.ret ?_
      refine Gs.then_r ?_
      exact Gs.fin1 Tryz.results57 rfl _ (⟨rfl, rfl⟩) (by repeat constructor)
    · skip
      have he : ¬ x.ss = [] := fun e => by have := of_decide_eq_false hc0; rw [e] at this; exact this rfl
      rw [if_neg he] at hvd
      have hsa := ha he
      have hs := hA.s
      rw [hsa] at hs
      refine Gs.skip ?_
      refine Gs.then_n ?_
      refine Gs.seq ?_
      refine Gs.reg ?_
      refine Go.Sl.L.pu rfl rfl trivial (pu_assign rfl) ?_
      refine Go.Sl.L.nil ?_
      refine Gs.then_n ?_
      refine Gs.seq ?_
      refine Gs.seq ?_
      refine Gs.reg ?_
      refine Go.Sl.L.pu rfl rfl trivial (pu_assign rfl) ?_
      refine Go.Sl.L.nil ?_
      refine Gs.then_n ?_
      refine Gs.block ?_
      refine Gs.loop1 (fun i : Nat => i ≤ x.ss.length) (fun i => [(1, ptr xb), (3, int (((x.ss.take i).map (termsA d)).sum : Nat)), (4, int i)]) (fun i => [cl xb 26 (askC x), S] ++ R) (fun i => x.ss.length - i) 0 (Nat.zero_le _) (by repeat constructor) (by repeat constructor) (fun i hi => ?_)
      refine Gs.seq ?_
      refine Gs.seq ?_
      refine Gs.reg ?_
      refine Go.Sl.L.pu rfl rfl trivial (pu_move rfl) ?_
      refine Go.Sl.L.pu rfl rfl trivial (pu_fa fa_26_3 rfl) ?_
      refine Go.Sl.L.rd rfl rfl trivial (rd_ld na_24 rfl (Rdc.cl1 (by repeat constructor) rfl)) ?_
      refine Go.Sl.L.pu rfl rfl trivial (pu_len Tryz.underlying24 rfl) ?_
      refine Go.Sl.L.pu rfl rfl trivial (pu_lt rfl rfl) ?_
      refine Go.Sl.L.nil ?_
      refine Gs.then_n ?_
      refine Gs.cond rfl (fun hc1 => ?_) (fun hc1 => ?_)
      · skip
        have hlt : i < x.ss.length := by have := of_decide_eq_true hc1; omega
        obtain ⟨y, hy⟩ : ∃ y, x.ss[i]? = some y := ⟨x.ss[i], by simp [hlt]⟩
        have hym := List.mem_of_getElem? hy
        have hyt := terms_le d y (hf4 y hym)
        have hpt := part_le hy (f := sizeA d)
        have hpm := terms_part d (x.ss.take i) (fun z hz => hf4 z (List.mem_of_mem_take hz))
        refine Gs.skip ?_
        refine Gs.then_n ?_
        refine Gs.seq ?_
        refine Gs.block ?_
        refine Gs.reg ?_
        refine Go.Sl.L.pu rfl rfl trivial (pu_move rfl) ?_
        refine Go.Sl.L.pu rfl rfl trivial (pu_fa fa_26_3 rfl) ?_
        refine Go.Sl.L.rd rfl rfl trivial (rd_ld na_24 rfl (Rdc.cl1 (by repeat constructor) rfl)) ?_
        rw [hsa]
        refine Go.Sl.L.pu rfl rfl trivial (pu_move rfl) ?_
        refine Go.Sl.L.pu rfl rfl trivial (pu_ia se_24 rfl rfl (by omega) (by omega)) ?_
        refine Go.Sl.L.rd rfl rfl trivial (rd_lda ag_26 rfl (Rdc.el0 (hs.h (by repeat constructor)) hy rfl rfl) rfl) ?_
        refine Go.Sl.L.ac rfl rfl trivial (as_call (ih (hA.sub y hym) (hf4 y hym) (by omega)) (by repeat constructor) (by repeat constructor)) ?_
        rintro _ _ ⟨_, ⟨rfl, rfl⟩, rfl⟩
        refine Go.Sl.L.pu rfl rfl trivial (pu_addI (z := ((((x.ss.take (i + 1)).map (termsA d)).sum : Nat) : Int)) rfl rfl (by rw [sum_take hy]; omega) (by omega) (by omega)) ?_
        refine Go.Sl.L.pu rfl rfl trivial (pu_assign rfl) ?_
        refine Go.Sl.L.nil ?_
        refine Gs.blk_n ?_
        refine Gs.then_n ?_
        refine Gs.reg ?_
        refine Go.Sl.L.pu rfl rfl trivial (pu_move rfl) ?_
        refine Go.Sl.L.pu rfl rfl trivial (pu_addI (z := ((i + 1 : Nat) : Int)) rfl rfl (by omega) (by omega) (by omega)) ?_
        refine Go.Sl.L.pu rfl rfl trivial (pu_assign rfl) ?_
        refine Go.Sl.L.nil ?_
        refine Gs.then_n ?_
        exact Gs.again1 (i + 1) (by omega) (by omega) (by repeat constructor) (by repeat constructor)
      · skip
        have hge : i = x.ss.length := by have := of_decide_eq_false hc1; omega
        rw [hge, List.take_length, ← hvd]
        refine Gs.exit ?_
        refine Gs.then_x ?_
        refine Gs.then_x ?_
        refine Gs.blk_hit ?_
        refine Gs.then_n ?_
        refine Gs.seq ?_
        refine Gs.reg ?_
        refine Go.Sl.L.pu rfl rfl trivial (pu_move rfl) ?_
        refine Go.Sl.L.pu rfl rfl trivial (pu_assign rfl) ?_
        refine Go.Sl.L.nil ?_
        refine Gs.then_n ?_
        refine Gs.ret ?_
        exact Gs.fin1 Tryz.results57 rfl _ (⟨rfl, rfl⟩) (by repeat constructor)
theorem termsA_spec {S : HProp} : ∀ (d : Nat) {x : AskV} (hA : ARd S x) (hF : FewA d x) (hz : sizeA d x ≤ 1000),
    Ct Tryz.prog 68 [askV x] [S] (fun v hs => v = int (termsA d x : Nat) ∧ hs = [S])
  | 0, x, hA, hF, hz => hF.elim
  | d + 1, x, hA, hF, hz => by
    have ih := @termsA_spec S d
    have htl := terms_le (d + 1) x hF
    obtain ⟨hf1, hf2, hf3, hf4⟩ := hF
    obtain ⟨v0, hv0⟩ : ∃ z, z = termsA (d + 1) x := ⟨_, rfl⟩
    have hvd : v0 = if x.ss = [] then max x.ws.length 1 else (x.ss.map (termsA d)).sum := hv0
    have hsz : 1 + (x.ss.map (sizeA d)).sum ≤ 1000 := hz
    have hsl := sum_len d x.ss
    rw [← hv0] at htl ⊢
    refine Ct.intro Tryz.func68 rfl (by kernel_rfl) 27 Tryz.ntmps68 (Nat.le_of_ble_eq_true rfl) fun w0 R => ?_
    refine Gs.slAddr (hA.s.h (by repeat constructor)) fun ab ao ha => ?_
    refine Gs.seq ?_
    refine Gs.reg ?_
    refine Go.Sl.L.ac rfl rfl trivial (ac_box rfl rfl) ?_
    rintro _ _ ⟨xb, rfl, rfl⟩
    refine Go.Sl.L.pu rfl rfl trivial (pu_assign rfl) ?_
    refine Go.Sl.L.nil ?_
    refine Gs.then_n ?_
    refine Gs.seq ?_
    refine Gs.seq ?_
    refine Gs.reg ?_
    refine Go.Sl.L.pu rfl rfl trivial (pu_fa fa_26_3 rfl) ?_
    refine Go.Sl.L.rd rfl rfl trivial (rd_ld na_24 rfl (Rdc.cl1 (by repeat constructor) rfl)) ?_
    refine Go.Sl.L.pu rfl rfl trivial (pu_len Tryz.underlying24 rfl) ?_
    refine Go.Sl.L.pu rfl rfl trivial (pu_eq rfl rfl) ?_
    refine Go.Sl.L.nil ?_
    refine Gs.then_n ?_
    refine Gs.cond rfl (fun hc0 => ?_) (fun hc0 => ?_)
    · skip
      have he : x.ss = [] := by have := of_decide_eq_true hc0; exact List.length_eq_zero_iff.1 (by omega)
      rw [if_pos he] at hvd
      refine Gs.seq ?_
      refine Gs.reg ?_
      refine Go.Sl.L.pu rfl rfl trivial (pu_fa fa_26_2 rfl) ?_
      refine Go.Sl.L.rd rfl rfl trivial (rd_ld na_23 rfl (Rdc.cl1 (by repeat constructor) rfl)) ?_
      refine Go.Sl.L.pu rfl rfl trivial (pu_len Tryz.underlying23 rfl) ?_
      refine Go.Sl.L.pu rfl rfl trivial (pu_max rfl rfl) ?_
      rw [show max ((x.w.xs.length : Nat) : Int) (1 : Int) = ((v0 : Nat) : Int) by rw [hvd]; show max ((x.w.xs.length : Nat) : Int) (1 : Int) = ((max x.w.xs.length 1 : Nat) : Int); omega]
      refine Go.Sl.L.pu rfl rfl trivial (pu_assign rfl) ?_
      refine Go.Sl.L.nil ?_
      refine Gs.then_n ?_
      refine Gs.ret ?_
      refine Gs.then_r ?_
      exact Gs.fin1 Tryz.results68 rfl _ (⟨rfl, rfl⟩) (by repeat constructor)
    · skip
      have he : ¬ x.ss = [] := fun e => by have := of_decide_eq_false hc0; rw [e] at this; exact this rfl
      rw [if_neg he] at hvd
      have hsa := ha he
      have hs := hA.s
      rw [hsa] at hs
      refine Gs.skip ?_
      refine Gs.then_n ?_
      refine Gs.seq ?_
      refine Gs.reg ?_
      refine Go.Sl.L.pu rfl rfl trivial (pu_assign rfl) ?_
      refine Go.Sl.L.nil ?_
      refine Gs.then_n ?_
      refine Gs.seq ?_
      refine Gs.seq ?_
      refine Gs.reg ?_
      refine Go.Sl.L.pu rfl rfl trivial (pu_fa fa_26_3 rfl) ?_
      refine Go.Sl.L.rd rfl rfl trivial (rd_ld na_24 rfl (Rdc.cl1 (by repeat constructor) rfl)) ?_
      refine Go.Sl.L.pu rfl rfl trivial (pu_len Tryz.underlying24 rfl) ?_
      refine Go.Sl.L.pu rfl rfl trivial (pu_move rfl) ?_
      refine Go.Sl.L.nil ?_
      refine Gs.then_n ?_
      refine Gs.block ?_
      refine Gs.loop1 (fun i : Nat => i ≤ x.ss.length) (fun i => [(1, ptr xb), (3, int (((x.ss.take i).map (termsA d)).sum : Nat)), (15, .slice x.sa x.ss.length x.sc), (16, int x.ss.length), (17, int i)]) (fun i => [cl xb 26 (askC x), S] ++ R) (fun i => x.ss.length - i) 0 (Nat.zero_le _) (by repeat constructor) (by repeat constructor) (fun i hi => ?_)
      refine Gs.seq ?_
      refine Gs.reg ?_
      refine Go.Sl.L.pu rfl rfl trivial (pu_lt rfl rfl) ?_
      refine Go.Sl.L.nil ?_
      refine Gs.then_n ?_
      refine Gs.seq ?_
      refine Gs.cond rfl (fun hc1 => ?_) (fun hc1 => ?_)
      · skip
        have hlt : i < x.ss.length := by have := of_decide_eq_true hc1; omega
        obtain ⟨y, hy⟩ : ∃ y, x.ss[i]? = some y := ⟨x.ss[i], by simp [hlt]⟩
        have hym := List.mem_of_getElem? hy
        have hyt := terms_le d y (hf4 y hym)
        have hpt := part_le hy (f := sizeA d)
        rw [hsa]
        have hpm := terms_part d (x.ss.take i) (fun z hz => hf4 z (List.mem_of_mem_take hz))
        refine Gs.skip ?_
        refine Gs.then_n ?_
        refine Gs.seq ?_
        refine Gs.block ?_
        refine Gs.seq ?_
        refine Gs.reg ?_
        refine Go.Sl.L.pu rfl rfl trivial (pu_ia se_24 rfl rfl (by omega) (by omega)) ?_
        refine Go.Sl.L.rd rfl rfl trivial (rd_lda ag_26 rfl (Rdc.el0 (hs.h (by repeat constructor)) hy rfl rfl) rfl) ?_
        refine Go.Sl.L.ac rfl rfl trivial (ac_alloc zv_26 rfl) ?_
        rintro _ _ ⟨vb, rfl, rfl⟩
        refine Go.Sl.L.ac0 rfl trivial (ac_st sz_26 rfl rfl (by repeat constructor) rfl rfl rfl rfl) ?_
        rintro _ _ rfl
        refine Go.Sl.L.nil ?_
        refine Gs.then_n ?_
        refine Gs.reg ?_
        refine Go.Sl.L.pu rfl rfl trivial (pu_move rfl) ?_
        refine Go.Sl.L.rd rfl rfl trivial (rd_lda ag_26 rfl (Rdc.cl 4 (by repeat constructor) rfl) rfl) ?_
        refine Go.Sl.L.ac rfl rfl trivial (as_call (ih (hA.sub y hym) (hf4 y hym) (by omega)) (by repeat constructor) (by repeat constructor)) ?_
        rintro _ _ ⟨_, ⟨rfl, rfl⟩, rfl⟩
        refine Go.Sl.L.pu rfl rfl trivial (pu_addI (z := ((((x.ss.take (i + 1)).map (termsA d)).sum : Nat) : Int)) rfl rfl (by rw [sum_take hy]; omega) (by omega) (by omega)) ?_
        refine Go.Sl.L.pu rfl rfl trivial (pu_assign rfl) ?_
        refine Go.Sl.L.nil ?_
        refine Gs.blk_n ?_
        refine Gs.then_n ?_
        refine Gs.reg ?_
        refine Go.Sl.L.pu rfl rfl trivial (pu_addI (z := ((i + 1 : Nat) : Int)) rfl rfl (by omega) (by omega) (by omega)) ?_
        refine Go.Sl.L.pu rfl rfl trivial (pu_move rfl) ?_
        refine Go.Sl.L.nil ?_
        refine Gs.then_n ?_
        rw [← hsa]
        exact Gs.again1 (i + 1) (by omega) (by omega) (by repeat constructor) (by repeat constructor)
      · skip
        have hge : i = x.ss.length := by have := of_decide_eq_false hc1; omega
        rw [hge, List.take_length, ← hvd]
        refine Gs.exit ?_
        refine Gs.then_x ?_
        refine Gs.then_x ?_
        refine Gs.blk_hit ?_
        refine Gs.then_n ?_
        refine Gs.seq ?_
        refine Gs.reg ?_
        refine Go.Sl.L.pu rfl rfl trivial (pu_move rfl) ?_
        refine Go.Sl.L.pu rfl rfl trivial (pu_assign rfl) ?_
        refine Go.Sl.L.nil ?_
        refine Gs.then_n ?_
        refine Gs.ret ?_
        exact Gs.fin1 Tryz.results68 rfl _ (⟨rfl, rfl⟩) (by repeat constructor)
end Go.Proofs.YtklgiidfompdpaaGreatDoor
namespace Go.Ix
open Go Go.Lib
end Go.Ix
namespace Go.Proofs.YtklgiidfompdpaaGreatDoor
open Go Go.Sl Go.Gv Go.Kv Go.Po Go.Ix
end Go.Proofs.YtklgiidfompdpaaGreatDoor
namespace Go.Sl
open Go
section
variable {P : Program} {w0 : World} {env : Env} {H : List HProp} {d : Option Tmp} {x : Operand} {src dst e ty : TypeId} {pos : String} {af : Array Edge} {g : Option (Nat × Bool)}
end
end Go.Sl
namespace Go.Ix
open Go Go.Lib
end Go.Ix
namespace Go.Proofs.YtklgiidfompdpaaGreatDoor
open Go Go.Sl Go.Gv Go.Kv Go.Po Go.Ix
set_option maxRecDepth 100000
end Go.Proofs.YtklgiidfompdpaaGreatDoor
namespace Go.Proofs.YtklgiidfompdpaaGreatDoor
open Go Go.Sl Go.Gv Go.Kv Go.Po Go.Ix
set_option maxRecDepth 100000
end Go.Proofs.YtklgiidfompdpaaGreatDoor
namespace Go.Proofs
open Go.Shelf
def Tryz.laysCF_ren : Go.Shelf.Ren := ⟨fun | 17 => 207 | 15 => 252 | 20 => 271 | n => n, fun | 9 => 9 | 23 => 114 | 4 => 4 | 3 => 3 | 0 => 0 | 21 => 21 | n => n, fun | n => n⟩
theorem Tryz.laysCF : Go.Proofs.LaysGw.n17 Tryz.prog Tryz.laysCF_ren := {
  mixed := by kernel_rfl
  f15 := Tryz.func252.trans (congrArg some (by kernel_rfl))
  f17 := Tryz.func207.trans (congrArg some (by kernel_rfl))
  f20 := Tryz.func271.trans (congrArg some (by kernel_rfl))
  t0 := Tryz.underlying0
  a0 := Tryz.isAgg0
  z0 := Tryz.sizeOf0
  v0 := Tryz.zeroValue0
  i0 := by kernel_rfl
  t3 := Tryz.underlying3
  a3 := Tryz.isAgg3
  z3 := Tryz.sizeOf3
  v3 := Tryz.zeroValue3
  i3 := by kernel_rfl
  t4 := Tryz.underlying4
  a4 := Tryz.isAgg4
  z4 := Tryz.sizeOf4
  v4 := Tryz.zeroValue4
  i4 := by kernel_rfl
  t9 := Tryz.underlying9
  a9 := Tryz.isAgg9
  z9 := Tryz.sizeOf9
  v9 := Tryz.zeroValue9
  i9 := by kernel_rfl
  t21 := Tryz.underlying21
  a21 := Tryz.isAgg21
  z21 := Tryz.sizeOf21
  v21 := Tryz.zeroValue21
  i21 := by kernel_rfl
  t23 := Tryz.underlying114
  a23 := Tryz.isAgg114
  z23 := Tryz.sizeOf114
  v23 := Tryz.zeroValue114
  i23 := by kernel_rfl }
def Tryz.laysItoa_ren : Go.Shelf.Ren := ⟨fun | 171 => 155 | 243 => 201 | 246 => 249 | 283 => 265 | 284 => 266 | 285 => 267 | 286 => 268 | 129 => 194 | 317 => 275 | 318 => 276 | 319 => 277 | 320 => 278 | 337 => 279 | 338 => 280 | n => n, fun | 3 => 3 | 9 => 9 | 2 => 2 | 4 => 4 | 171 => 298 | 0 => 0 | 53 => 229 | 37 => 174 | 5 => 5 | 173 => 300 | 212 => 309 | 51 => 193 | 20 => 20 | 213 => 310 | 46 => 185 | 232 => 311 | 233 => 312 | n => n, fun | 17 => 6 | 18 => 8 | 19 => 9 | n => n⟩
theorem Tryz.laysItoa : Go.Proofs.LaysM.n171 Tryz.prog Tryz.laysItoa_ren := {
  mixed := by kernel_rfl
  f129 := Tryz.func194.trans (congrArg some (by kernel_rfl))
  f171 := Tryz.func155.trans (congrArg some (by kernel_rfl))
  f243 := Tryz.func201.trans (congrArg some (by kernel_rfl))
  f246 := Tryz.func249.trans (congrArg some (by kernel_rfl))
  f283 := Tryz.func265.trans (congrArg some (by kernel_rfl))
  f284 := Tryz.func266.trans (congrArg some (by kernel_rfl))
  f285 := Tryz.func267.trans (congrArg some (by kernel_rfl))
  f286 := Tryz.func268.trans (congrArg some (by kernel_rfl))
  f317 := Tryz.func275.trans (congrArg some (by kernel_rfl))
  f318 := Tryz.func276.trans (congrArg some (by kernel_rfl))
  f319 := Tryz.func277.trans (congrArg some (by kernel_rfl))
  f320 := Tryz.func278.trans (congrArg some (by kernel_rfl))
  f337 := Tryz.func279.trans (congrArg some (by kernel_rfl))
  f338 := Tryz.func280.trans (congrArg some (by kernel_rfl))
  t0 := Tryz.underlying0
  a0 := Tryz.isAgg0
  z0 := Tryz.sizeOf0
  v0 := Tryz.zeroValue0
  t2 := Tryz.underlying2
  a2 := Tryz.isAgg2
  z2 := Tryz.sizeOf2
  v2 := Tryz.zeroValue2
  t3 := Tryz.underlying3
  a3 := Tryz.isAgg3
  z3 := Tryz.sizeOf3
  v3 := Tryz.zeroValue3
  t4 := Tryz.underlying4
  a4 := Tryz.isAgg4
  z4 := Tryz.sizeOf4
  v4 := Tryz.zeroValue4
  t5 := Tryz.underlying5
  a5 := Tryz.isAgg5
  z5 := Tryz.sizeOf5
  v5 := Tryz.zeroValue5
  t9 := Tryz.underlying9
  a9 := Tryz.isAgg9
  z9 := Tryz.sizeOf9
  v9 := Tryz.zeroValue9
  t20 := Tryz.underlying20
  a20 := Tryz.isAgg20
  z20 := Tryz.sizeOf20
  v20 := Tryz.zeroValue20
  t37 := Tryz.underlying174
  a37 := Tryz.isAgg174
  z37 := Tryz.sizeOf174
  v37 := Tryz.zeroValue174
  t46 := Tryz.underlying185
  a46 := Tryz.isAgg185
  z46 := Tryz.sizeOf185
  v46 := Tryz.zeroValue185
  t51 := Tryz.underlying193
  a51 := Tryz.isAgg193
  z51 := Tryz.sizeOf193
  v51 := Tryz.zeroValue193
  t53 := Tryz.underlying229
  a53 := Tryz.isAgg229
  z53 := Tryz.sizeOf229
  v53 := Tryz.zeroValue229
  t171 := Tryz.underlying298
  a171 := Tryz.isAgg298
  z171 := Tryz.sizeOf298
  v171 := Tryz.zeroValue298
  t173 := Tryz.underlying300
  a173 := Tryz.isAgg300
  z173 := Tryz.sizeOf300
  v173 := Tryz.zeroValue300
  t212 := Tryz.underlying309
  a212 := Tryz.isAgg309
  z212 := Tryz.sizeOf309
  v212 := Tryz.zeroValue309
  t213 := Tryz.underlying310
  a213 := Tryz.isAgg310
  z213 := Tryz.sizeOf310
  t232 := Tryz.underlying311
  a232 := Tryz.isAgg311
  z232 := Tryz.sizeOf311
  v232 := Tryz.zeroValue311
  t233 := Tryz.underlying312
  a233 := Tryz.isAgg312
  z233 := Tryz.sizeOf312
  v233 := Tryz.zeroValue312
  g17 := by kernel_rfl
  g18 := by kernel_rfl
  g19 := by kernel_rfl
  i0 := by kernel_rfl
  i2 := by kernel_rfl
  i3 := by kernel_rfl
  i4 := by kernel_rfl
  i5 := by kernel_rfl
  i9 := by kernel_rfl
  i20 := by kernel_rfl
  i37 := by kernel_rfl
  i46 := by kernel_rfl
  i51 := by kernel_rfl
  i53 := by kernel_rfl
  i171 := by kernel_rfl
  i173 := by kernel_rfl
  i212 := by kernel_rfl
  i232 := by kernel_rfl
  i233 := by kernel_rfl
  m17 := by kernel_rfl
  m18 := by kernel_rfl
  m19 := by kernel_rfl }
def Tryz.laysJoin_ren : Go.Shelf.Ren := ⟨fun | 156 => 156 | 165 => 202 | 166 => 203 | 169 => 143 | 240 => 182 | 241 => 250 | 276 => 238 | 277 => 269 | n => n, fun | 31 => 23 | 9 => 9 | 3 => 3 | 4 => 4 | 0 => 0 | 20 => 20 | 72 => 176 | 76 => 179 | 70 => 173 | 37 => 174 | 75 => 178 | 127 => 220 | 164 => 268 | 5 => 5 | 80 => 181 | n => n, fun | n => n⟩
theorem Tryz.laysJoin : Go.Proofs.Lays.n156 Tryz.prog Tryz.laysJoin_ren := {
  mixed := by kernel_rfl
  f156 := Tryz.func156.trans (congrArg some (by kernel_rfl))
  f165 := Tryz.func202.trans (congrArg some (by kernel_rfl))
  f166 := Tryz.func203.trans (congrArg some (by kernel_rfl))
  f169 := Tryz.func143.trans (congrArg some (by kernel_rfl))
  f240 := Tryz.func182.trans (congrArg some (by kernel_rfl))
  f241 := Tryz.func250.trans (congrArg some (by kernel_rfl))
  f276 := Tryz.func238.trans (congrArg some (by kernel_rfl))
  f277 := Tryz.func269.trans (congrArg some (by kernel_rfl))
  t0 := Tryz.underlying0
  a0 := Tryz.isAgg0
  z0 := Tryz.sizeOf0
  v0 := Tryz.zeroValue0
  t3 := Tryz.underlying3
  a3 := Tryz.isAgg3
  z3 := Tryz.sizeOf3
  v3 := Tryz.zeroValue3
  t4 := Tryz.underlying4
  a4 := Tryz.isAgg4
  z4 := Tryz.sizeOf4
  v4 := Tryz.zeroValue4
  t9 := Tryz.underlying9
  a9 := Tryz.isAgg9
  z9 := Tryz.sizeOf9
  v9 := Tryz.zeroValue9
  t20 := Tryz.underlying20
  a20 := Tryz.isAgg20
  z20 := Tryz.sizeOf20
  v20 := Tryz.zeroValue20
  t31 := Tryz.underlying23
  a31 := Tryz.isAgg23
  z31 := Tryz.sizeOf23
  v31 := Tryz.zeroValue23
  t37 := Tryz.underlying174
  a37 := Tryz.isAgg174
  z37 := Tryz.sizeOf174
  v37 := Tryz.zeroValue174
  t70 := Tryz.underlying173
  a70 := Tryz.isAgg173
  z70 := Tryz.sizeOf173
  v70 := Tryz.zeroValue173
  t72 := Tryz.underlying176
  a72 := Tryz.isAgg176
  z72 := Tryz.sizeOf176
  v72 := Tryz.zeroValue176
  t75 := Tryz.underlying178
  a75 := Tryz.isAgg178
  z75 := Tryz.sizeOf178
  v75 := Tryz.zeroValue178
  t76 := Tryz.underlying179
  a76 := Tryz.isAgg179
  z76 := Tryz.sizeOf179
  v76 := Tryz.zeroValue179
  t127 := Tryz.underlying220
  a127 := Tryz.isAgg220
  z127 := Tryz.sizeOf220
  v127 := Tryz.zeroValue220
  t164 := Tryz.underlying268
  a164 := Tryz.isAgg268
  z164 := Tryz.sizeOf268
  v164 := Tryz.zeroValue268 }
end Go.Proofs
namespace Go.Ix
open Go Go.Sl Go.Gv
end Go.Ix
namespace Go.Proofs.YtklgiidfompdpaaGreatDoor
open Go Go.Sl Go.Gv Go.Kv Go.Po Go.Ix Go.Qu Go.Shelf
set_option maxRecDepth 100000
def oneB (s : ByteArray) : Bool := decide (s ≠ ⟨#[]⟩) && validS s && !decide (0 ≤ Lib.idxFunc notW true s)
/-- May a word not be a question's? -/
def oddB (s : ByteArray) : Bool := decide (40 < s.size) || !oneB s || decide (normB s ≠ s)
theorem containsO_spec {h0 : Hp} (T : TabX h0) (s : ByteArray) : Ct Tryz.prog 207 [.string s, .func (.func 94) #[] #[]] [ro h0] (fun v hs => v = .bool (decide (0 ≤ Lib.idxFunc notW true s)) ∧ hs = [ro h0]) :=
  Ct.ofBelow Tryz.func207 rfl (by kernel_rfl) (V := fun _ => .bool (decide (0 ≤ Lib.idxFunc notW true s))) (fun w0 w R st => Any.strings_ContainsFunc_grows Tryz.laysCF 94 #[] (enters_of Tryz.func94 (by kernel_rfl) rfl) notW s w (other_pays T (Sat.ro st))) (fun _ => ⟨rfl, rfl⟩)
theorem oneT_spec {h0 : Hp} (T : TabX h0) (s : ByteArray) (hs : s.size ≤ 100000) : Ct Tryz.prog 164 [.string s] [ro h0] (fun v hs => v = .bool (oneB s) ∧ hs = [ro h0]) := by
  refine Ct.intro Tryz.func164 rfl (by kernel_rfl) 14 Tryz.ntmps164 (Nat.le_of_ble_eq_true rfl) fun w0 R => ?_
  refine Gs.seq ?_
  refine Gs.reg ?_
  refine Go.Sl.L.pu rfl rfl trivial (pu_assign rfl) ?_
  refine Go.Sl.L.nil ?_
  refine Gs.then_n ?_
  refine Gs.seq ?_
  refine Gs.reg ?_
  refine Go.Sl.L.pu rfl rfl trivial (pu_move rfl) ?_
  refine Go.Sl.L.pu rfl rfl trivial (pu_neS rfl rfl) ?_
  refine Go.Sl.L.puB rfl rfl trivial (pu_move rfl) (fun hg2 => ?_) (fun hg2 => ?_)
  · skip
    refine Go.Sl.L.pu rfl rfl ⟨_, rfl, rfl⟩ (pu_move rfl) ?_
    refine Go.Sl.L.ac rfl rfl ⟨_, rfl, rfl⟩ (as_call (valid_spec T.1 s (by omega)) (by repeat constructor) (by repeat constructor)) ?_
    rintro _ _ ⟨_, ⟨rfl, rfl⟩, rfl⟩
    refine Go.Sl.L.pu rfl rfl trivial (by first | exact pu_pick_t rfl rfl | exact pu_pick_f rfl rfl) ?_
    refine Go.Sl.L.puB rfl rfl trivial (pu_move rfl) (fun hg6 => ?_) (fun hg6 => ?_)
    · skip
      refine Go.Sl.L.pu rfl rfl ⟨_, rfl, rfl⟩ (pu_move rfl) ?_
      refine Go.Sl.L.ac rfl rfl ⟨_, rfl, rfl⟩ (as_call (containsO_spec T s) (by repeat constructor) (by repeat constructor)) ?_
      rintro _ _ ⟨_, ⟨rfl, rfl⟩, rfl⟩
      refine Go.Sl.L.pu rfl rfl ⟨_, rfl, rfl⟩ (pu_not rfl) ?_
      refine Go.Sl.L.pu rfl rfl trivial (by first | exact pu_pick_t rfl rfl | exact pu_pick_f rfl rfl) ?_
      refine Go.Sl.L.pu rfl rfl trivial (pu_assign rfl) ?_
      refine Go.Sl.L.nil ?_
      refine Gs.then_n ?_
      refine Gs.ret ?_
      exact Gs.fin1 Tryz.results164 rfl _ (⟨by
        first
          | rw [show oneB s = !decide (0 ≤ Lib.idxFunc notW true s) by unfold oneB; rw [show decide (s ≠ ⟨#[]⟩) = true from hg2, hg6]; rfl]
          | rw [show oneB s = false by unfold oneB; rw [show decide (s ≠ ⟨#[]⟩) = true from hg2, hg6]; rfl]
          | rw [show oneB s = false by unfold oneB; rw [show decide (s ≠ ⟨#[]⟩) = false from hg2]; rfl], rfl⟩) (by repeat constructor)
    · skip
      refine Go.Sl.L.off rfl rfl rfl rfl rfl rfl ?_
      refine Go.Sl.L.off rfl rfl rfl rfl rfl rfl ?_
      refine Go.Sl.L.off rfl rfl rfl rfl rfl rfl ?_
      refine Go.Sl.L.pu rfl rfl trivial (by first | exact pu_pick_t rfl rfl | exact pu_pick_f rfl rfl) ?_
      refine Go.Sl.L.pu rfl rfl trivial (pu_assign rfl) ?_
      refine Go.Sl.L.nil ?_
      refine Gs.then_n ?_
      refine Gs.ret ?_
      exact Gs.fin1 Tryz.results164 rfl _ (⟨by
        first
          | rw [show oneB s = !decide (0 ≤ Lib.idxFunc notW true s) by unfold oneB; rw [show decide (s ≠ ⟨#[]⟩) = true from hg2, hg6]; rfl]
          | rw [show oneB s = false by unfold oneB; rw [show decide (s ≠ ⟨#[]⟩) = true from hg2, hg6]; rfl]
          | rw [show oneB s = false by unfold oneB; rw [show decide (s ≠ ⟨#[]⟩) = false from hg2]; rfl], rfl⟩) (by repeat constructor)
  · skip
    refine Go.Sl.L.off rfl rfl rfl rfl rfl rfl ?_
    refine Go.Sl.L.off rfl rfl rfl rfl rfl rfl ?_
    refine Go.Sl.L.pu rfl rfl trivial (by first | exact pu_pick_t rfl rfl | exact pu_pick_f rfl rfl) ?_
    refine Go.Sl.L.pu rfl rfl trivial (pu_move rfl) ?_
    refine Go.Sl.L.off rfl rfl rfl rfl rfl rfl ?_
    refine Go.Sl.L.off rfl rfl rfl rfl rfl rfl ?_
    refine Go.Sl.L.off rfl rfl rfl rfl rfl rfl ?_
    refine Go.Sl.L.pu rfl rfl trivial (by first | exact pu_pick_t rfl rfl | exact pu_pick_f rfl rfl) ?_
    refine Go.Sl.L.pu rfl rfl trivial (pu_assign rfl) ?_
    refine Go.Sl.L.nil ?_
    refine Gs.then_n ?_
    refine Gs.ret ?_
    exact Gs.fin1 Tryz.results164 rfl _ (⟨by
      first
        | rw [show oneB s = !decide (0 ≤ Lib.idxFunc notW true s) by unfold oneB; rw [show decide (s ≠ ⟨#[]⟩) = true from hg2, hg6]; rfl]
        | rw [show oneB s = false by unfold oneB; rw [show decide (s ≠ ⟨#[]⟩) = true from hg2, hg6]; rfl]
        | rw [show oneB s = false by unfold oneB; rw [show decide (s ≠ ⟨#[]⟩) = false from hg2]; rfl], rfl⟩) (by repeat constructor)
theorem oddT_spec {h0 : Hp} (T : TabX h0) (s : ByteArray) (hs : s.size ≤ maxLen) : Ct Tryz.prog 118 [.string s] [ro h0] (fun v hs => v = .bool (oddB s) ∧ hs = [ro h0]) := by
  refine Ct.intro Tryz.func118 rfl (by kernel_rfl) 17 Tryz.ntmps118 (Nat.le_of_ble_eq_true rfl) fun w0 R => ?_
  refine Gs.seq ?_
  refine Gs.reg ?_
  refine Go.Sl.L.pu rfl rfl trivial (pu_assign rfl) ?_
  refine Go.Sl.L.nil ?_
  refine Gs.then_n ?_
  refine Gs.seq ?_
  refine Gs.reg ?_
  refine Go.Sl.L.pu rfl rfl trivial (pu_move rfl) ?_
  refine Go.Sl.L.pu rfl rfl trivial (pu_lenS Tryz.underlying9 rfl) ?_
  refine Go.Sl.L.pu rfl rfl trivial (pu_gt rfl rfl) ?_
  refine Go.Sl.L.puB rfl rfl trivial (pu_move rfl) (fun hg3 => ?_) (fun hg3 => ?_)
  · skip
    refine Go.Sl.L.off rfl rfl rfl rfl rfl rfl ?_
    refine Go.Sl.L.off rfl rfl rfl rfl rfl rfl ?_
    refine Go.Sl.L.off rfl rfl rfl rfl rfl rfl ?_
    refine Go.Sl.L.pu rfl rfl trivial (by first | exact pu_pick_t rfl rfl | exact pu_pick_f rfl rfl) ?_
    refine Go.Sl.L.pu rfl rfl trivial (pu_move rfl) ?_
    refine Go.Sl.L.off rfl rfl rfl rfl rfl rfl ?_
    refine Go.Sl.L.off rfl rfl rfl rfl rfl rfl ?_
    refine Go.Sl.L.off rfl rfl rfl rfl rfl rfl ?_
    refine Go.Sl.L.off rfl rfl rfl rfl rfl rfl ?_
    refine Go.Sl.L.pu rfl rfl trivial (by first | exact pu_pick_t rfl rfl | exact pu_pick_f rfl rfl) ?_
    refine Go.Sl.L.pu rfl rfl trivial (pu_assign rfl) ?_
    refine Go.Sl.L.nil ?_
    refine Gs.then_n ?_
    refine Gs.ret ?_
    exact Gs.fin1 Tryz.results118 rfl _ (⟨by
      first
        | rw [show oddB s = decide (normB s ≠ s) by unfold oddB; rw [show decide (40 < s.size) = false from decide_eq_false (by have := of_decide_eq_false hg3; omega), hg8]; rfl]
        | rw [show oddB s = true by unfold oddB; rw [hg8, Bool.or_true, Bool.true_or]]
        | rw [show oddB s = true by unfold oddB; rw [show decide (40 < s.size) = true from decide_eq_true (by have := of_decide_eq_true hg3; omega)]; rfl], rfl⟩) (by repeat constructor)
  · skip
    refine Go.Sl.L.pu rfl rfl ⟨_, rfl, rfl⟩ (pu_move rfl) ?_
    refine Go.Sl.L.ac rfl rfl ⟨_, rfl, rfl⟩ (as_call (oneT_spec T s (by have := of_decide_eq_false hg3; omega)) (by repeat constructor) (by repeat constructor)) ?_
    rintro _ _ ⟨_, ⟨rfl, rfl⟩, rfl⟩
    refine Go.Sl.L.pu rfl rfl ⟨_, rfl, rfl⟩ (pu_not rfl) ?_
    refine Go.Sl.L.pu rfl rfl trivial (by first | exact pu_pick_t rfl rfl | exact pu_pick_f rfl rfl) ?_
    refine Go.Sl.L.puB rfl rfl trivial (pu_move rfl) (fun hg8 => ?_) (fun hg8 => ?_)
    · skip
      refine Go.Sl.L.off rfl rfl rfl rfl rfl rfl ?_
      refine Go.Sl.L.off rfl rfl rfl rfl rfl rfl ?_
      refine Go.Sl.L.off rfl rfl rfl rfl rfl rfl ?_
      refine Go.Sl.L.off rfl rfl rfl rfl rfl rfl ?_
      refine Go.Sl.L.pu rfl rfl trivial (by first | exact pu_pick_t rfl rfl | exact pu_pick_f rfl rfl) ?_
      refine Go.Sl.L.pu rfl rfl trivial (pu_assign rfl) ?_
      refine Go.Sl.L.nil ?_
      refine Gs.then_n ?_
      refine Gs.ret ?_
      exact Gs.fin1 Tryz.results118 rfl _ (⟨by
        first
          | rw [show oddB s = decide (normB s ≠ s) by unfold oddB; rw [show decide (40 < s.size) = false from decide_eq_false (by have := of_decide_eq_false hg3; omega), hg8]; rfl]
          | rw [show oddB s = true by unfold oddB; rw [hg8, Bool.or_true, Bool.true_or]]
          | rw [show oddB s = true by unfold oddB; rw [show decide (40 < s.size) = true from decide_eq_true (by have := of_decide_eq_true hg3; omega)]; rfl], rfl⟩) (by repeat constructor)
    · skip
      refine Go.Sl.L.pu rfl rfl ⟨_, rfl, rfl⟩ (pu_move rfl) ?_
      refine Go.Sl.L.ac rfl rfl ⟨_, rfl, rfl⟩ (as_call (norm_spec T s (by have := of_decide_eq_false hg3; omega)) (by repeat constructor) (by repeat constructor)) ?_
      rintro _ _ ⟨_, ⟨rfl, rfl⟩, rfl⟩
      refine Go.Sl.L.pu rfl rfl ⟨_, rfl, rfl⟩ (pu_move rfl) ?_
      refine Go.Sl.L.pu rfl rfl ⟨_, rfl, rfl⟩ (pu_neS rfl rfl) ?_
      refine Go.Sl.L.pu rfl rfl trivial (by first | exact pu_pick_t rfl rfl | exact pu_pick_f rfl rfl) ?_
      refine Go.Sl.L.pu rfl rfl trivial (pu_assign rfl) ?_
      refine Go.Sl.L.nil ?_
      refine Gs.then_n ?_
      refine Gs.ret ?_
      exact Gs.fin1 Tryz.results118 rfl _ (⟨by
        first
          | rw [show oddB s = decide (normB s ≠ s) by unfold oddB; rw [show decide (40 < s.size) = false from decide_eq_false (by have := of_decide_eq_false hg3; omega), hg8]; rfl]
          | rw [show oddB s = true by unfold oddB; rw [hg8, Bool.or_true, Bool.true_or]]
          | rw [show oddB s = true by unfold oddB; rw [show decide (40 < s.size) = true from decide_eq_true (by have := of_decide_eq_true hg3; omega)]; rfl], rfl⟩) (by repeat constructor)
end Go.Proofs.YtklgiidfompdpaaGreatDoor
namespace Go.Sl
open Go
/-- B stands within U. -/
def Inn (B U : HProp) : Prop := ∃ A, ∀ w0 w R, Sat w0 w (U :: R) ↔ Sat w0 w (B :: A :: R)
theorem Inn.refl {B : HProp} : Inn B B := ⟨big [], fun _ _ _ => ⟨fun s => (s.bigNil).take (.tl .hd), fun s => (s.take (.tl .hd)).drop⟩⟩
theorem Inn.two1 {A B : HProp} : Inn A (two A B) := ⟨B, fun _ _ _ => Sat.two⟩
theorem Inn.trans {A B C : HProp} (h : Inn A B) (k : Inn B C) : Inn A C := by
  obtain ⟨X, hx⟩ := h
  obtain ⟨Y, hy⟩ := k
  refine ⟨two X Y, fun w0 w R => ?_⟩
  rw [hy, hx]
  constructor
  · intro s
    exact (Sat.two.2 (s.takes (As := [X, Y, A]) (by repeat constructor))).take (.tl .hd)
  · intro s
    exact (Sat.two.1 (s.take (.tl .hd))).takes (As := [A, X, Y]) (by repeat constructor)
theorem Ct.inn {P : Program} {f : FuncId} {args : List Value} {B U : HProp} {post : Value → List HProp → Prop} (c : Ct P f args [B] post) (i : Inn B U) (h : ∀ v hs, post v hs → ∃ r, hs = B :: r) : Ct P f args [U] (fun v hs => ∃ r, post v (B :: r) ∧ hs = U :: r) := by
  obtain ⟨A, hA⟩ := i
  refine ⟨c.enters, fun w0 w R s => (c.calls w0 w (A :: R) ((hA _ _ _).1 s)).mono fun _ _ ⟨v, hs, he, hp, hsat⟩ => ?_⟩
  obtain ⟨r, rfl⟩ := h v hs hp
  refine ⟨v, U :: r, he, ⟨r, hp, rfl⟩, (hA _ _ _).2 ?_⟩
  have h1 : Sat w0 _ ((B :: r) ++ A :: R) := hsat
  have h2 := h1.take (take_mid (L1 := B :: r) (L2 := R))
  exact h2.take (.tl .hd)
/-- A contract that changes nothing. -/
theorem Ct.inn0 {P : Program} {f : FuncId} {args : List Value} {B U : HProp} {x : Value} (c : Ct P f args [B] (fun v hs => v = x ∧ hs = [B])) (i : Inn B U) : Ct P f args [U] (fun v hs => v = x ∧ hs = [U]) :=
  (c.inn i fun _ _ h => ⟨[], h.2⟩).mono fun v hs ⟨r, ⟨h1, h2⟩, h3⟩ => ⟨h1, by cases h2; exact h3⟩
end Go.Sl
namespace Go.Proofs.YtklgiidfompdpaaGreatDoor
open Go Go.Sl Go.Gv Go.Kv Go.Po Go.Ix Go.Qu Go.Shelf
set_option maxRecDepth 100000
/-- A part of the heap in which the tables stand. -/
def TabU (U : HProp) : Prop := ∃ h0, TabX h0 ∧ Inn (Sl.ro h0) U
theorem TabU.ct {U : HProp} (h : TabU U) {f : FuncId} {args : List Value} {x : Value} (c : ∀ h0, TabX h0 → Ct Tryz.prog f args [Sl.ro h0] (fun v hs => v = x ∧ hs = [Sl.ro h0])) : Ct Tryz.prog f args [U] (fun v hs => v = x ∧ hs = [U]) := by
  obtain ⟨h0, T, i⟩ := h
  exact (c h0 T).inn0 i
theorem indexS_spec {S : HProp} {g : FuncId} {q : ByteArray → Bool} {a : Option Addr} {c : Nat} {ls : List ByteArray} (hS : Srd S 1 strC a ls) (hg : ∀ l ∈ ls, Ct Tryz.prog g ([] ++ [.string l] ++ []) [S] (fun v hs => v = .bool (q l) ∧ hs = [S])) (hl : ls.length ≤ 1000) :
    Ct Tryz.prog 163 [.slice a ls.length c, .func (.func g) #[] #[]] [S] (fun v hs => (∃ z : Int, v = int z ∧ decide (0 ≤ z) = ls.any q) ∧ hs = [S]) := by
  refine Ct.intro Tryz.func163 rfl (by kernel_rfl) 19 Tryz.ntmps163 (Nat.le_of_ble_eq_true rfl) fun w0 R => ?_
  refine Gs.slAddr (hS.h (by repeat constructor)) fun ab ao ha => ?_
  refine Gs.seq ?_
  refine Gs.reg ?_
  refine Go.Sl.L.pu rfl rfl trivial (pu_assign rfl) ?_
  refine Go.Sl.L.nil ?_
  refine Gs.then_n ?_
  refine Gs.seq ?_
  refine Gs.seq ?_
  refine Gs.reg ?_
  refine Go.Sl.L.pu rfl rfl trivial (pu_move rfl) ?_
  refine Go.Sl.L.pu rfl rfl trivial (pu_len Tryz.underlying23 rfl) ?_
  refine Go.Sl.L.pu rfl rfl trivial (pu_move rfl) ?_
  refine Go.Sl.L.nil ?_
  refine Gs.then_n ?_
  refine Gs.block ?_
  refine Gs.loop1 (fun i : Nat => i ≤ ls.length ∧ (ls.take i).any q = false) (fun i => [(0, .slice a ls.length c), (1, .func (.func g) #[] #[]), (7, int ls.length), (8, int i)]) (fun i => [S] ++ R) (fun i => ls.length - i) 0 (⟨Nat.zero_le _, rfl⟩) (by repeat constructor) (by repeat constructor) (fun i ⟨hi, hq⟩ => ?_)
  refine Gs.seq ?_
  refine Gs.reg ?_
  refine Go.Sl.L.pu rfl rfl trivial (pu_lt rfl rfl) ?_
  refine Go.Sl.L.nil ?_
  refine Gs.then_n ?_
  refine Gs.seq ?_
  refine Gs.cond rfl (fun hc0 => ?_) (fun hc0 => ?_)
  · skip
    have hlt : i < ls.length := by have := of_decide_eq_true hc0; omega
    obtain ⟨x, hx⟩ : ∃ x, ls[i]? = some x := ⟨ls[i], by simp [hlt]⟩
    obtain rfl := ha (by rintro rfl; simp at hlt)
    have hm := List.mem_of_getElem? hx
    refine Gs.skip ?_
    refine Gs.then_n ?_
    refine Gs.seq ?_
    refine Gs.block ?_
    refine Gs.seq ?_
    refine Gs.reg ?_
    refine Go.Sl.L.pu rfl rfl trivial (pu_move rfl) ?_
    refine Go.Sl.L.pu rfl rfl trivial (pu_assign rfl) ?_
    refine Go.Sl.L.nil ?_
    refine Gs.then_n ?_
    refine Gs.seq ?_
    refine Gs.reg ?_
    refine Go.Sl.L.pu rfl rfl trivial (pu_move rfl) ?_
    refine Go.Sl.L.pu rfl rfl trivial (pu_move rfl) ?_
    refine Go.Sl.L.pu rfl rfl trivial (pu_move rfl) ?_
    refine Go.Sl.L.pu rfl rfl trivial (pu_ia se_23 rfl rfl (by omega) (by omega)) ?_
    refine Go.Sl.L.rd rfl rfl trivial (rd_ld na_9 rfl (Rdc.el0 (hS.h (by repeat constructor)) hx rfl rfl)) ?_
    refine Go.Sl.L.ac rfl rfl trivial (as_callV rfl (hg x hm) (by repeat constructor) (by repeat constructor)) ?_
    rintro _ _ ⟨_, ⟨rfl, rfl⟩, rfl⟩
    refine Go.Sl.L.nil ?_
    refine Gs.then_n ?_
    refine Gs.cond rfl (fun hc1 => ?_) (fun hc1 => ?_)
    · skip
      have hyes : ls.any q = true := List.any_eq_true.2 ⟨x, hm, hc1⟩
      refine Gs.seq ?_
      refine Gs.reg ?_
      refine Go.Sl.L.pu rfl rfl trivial (pu_move rfl) ?_
      refine Go.Sl.L.pu rfl rfl trivial (pu_assign rfl) ?_
      refine Go.Sl.L.nil ?_
      refine Gs.then_n ?_
      refine Gs.ret ?_
      refine Gs.blk_r ?_
      refine Gs.then_r ?_
      refine Gs.then_r ?_
      refine Gs.blk_r ?_
      refine Gs.then_r ?_
      exact Gs.fin1 Tryz.results163 rfl _ (⟨⟨_, rfl, by rw [hyes]; exact decide_eq_true (by omega)⟩, rfl⟩) (by repeat constructor)
    · skip
      have hno : (ls.take (i + 1)).any q = false := by rw [List.take_add_one, hx, List.any_append, hq]; simp [hc1]
      refine Gs.skip ?_
      refine Gs.blk_n ?_
      refine Gs.then_n ?_
      refine Gs.reg ?_
      refine Go.Sl.L.pu rfl rfl trivial (by first | exact pu_addI rfl rfl rfl (by omega) (by omega) | exact pu_add rfl rfl) ?_
      refine Go.Sl.L.pu rfl rfl trivial (pu_move rfl) ?_
      refine Go.Sl.L.nil ?_
      refine Gs.then_n ?_
      exact Gs.again1 (i + 1) ⟨hlt, hno⟩ (by show ls.length - (i + 1) < ls.length - i; omega) (by repeat constructor) (by repeat constructor)
  · skip
    have hge : i = ls.length := by have := of_decide_eq_false hc0; omega
    rw [hge, List.take_length] at hq
    refine Gs.exit ?_
    refine Gs.then_x ?_
    refine Gs.then_x ?_
    refine Gs.blk_hit ?_
    refine Gs.then_n ?_
    refine Gs.seq ?_
    refine Gs.reg ?_
    refine Go.Sl.L.pu rfl rfl trivial (pu_assign rfl) ?_
    refine Go.Sl.L.nil ?_
    refine Gs.then_n ?_
    refine Gs.ret ?_
    exact Gs.fin1 Tryz.results163 rfl _ (⟨⟨_, rfl, by rw [hq]; rfl⟩, rfl⟩) (by repeat constructor)
theorem containsS_spec {S : HProp} {g : FuncId} {q : ByteArray → Bool} {a : Option Addr} {c : Nat} {ls : List ByteArray} (hS : Srd S 1 strC a ls) (hg : ∀ l ∈ ls, Ct Tryz.prog g ([] ++ [.string l] ++ []) [S] (fun v hs => v = .bool (q l) ∧ hs = [S])) (hl : ls.length ≤ 1000) :
    Ct Tryz.prog 117 [.slice a ls.length c, .func (.func g) #[] #[]] [S] (fun v hs => v = .bool (ls.any q) ∧ hs = [S]) := by
  refine Ct.intro Tryz.func117 rfl (by kernel_rfl) 9 Tryz.ntmps117 (Nat.le_of_ble_eq_true rfl) fun w0 R => ?_
  refine Gs.seq ?_
  refine Gs.reg ?_
  refine Go.Sl.L.pu rfl rfl trivial (pu_assign rfl) ?_
  refine Go.Sl.L.nil ?_
  refine Gs.then_n ?_
  refine Gs.seq ?_
  refine Gs.reg ?_
  refine Go.Sl.L.pu rfl rfl trivial (pu_move rfl) ?_
  refine Go.Sl.L.pu rfl rfl trivial (pu_move rfl) ?_
  refine Go.Sl.L.ac rfl rfl trivial (as_call (indexS_spec hS hg hl) (by repeat constructor) (by repeat constructor)) ?_
  rintro _ _ ⟨_, ⟨⟨z, rfl, hz⟩, rfl⟩, rfl⟩
  refine Go.Sl.L.pu rfl rfl trivial (pu_ge rfl rfl) ?_
  refine Go.Sl.L.pu rfl rfl trivial (pu_assign rfl) ?_
  refine Go.Sl.L.nil ?_
  refine Gs.then_n ?_
  refine Gs.ret ?_
  exact Gs.fin1 Tryz.results117 rfl _ (⟨by rw [← hz], rfl⟩) (by repeat constructor)
theorem indexA_spec {S : HProp} {g : FuncId} {q : AskV → Bool} {a : Option Addr} {c : Nat} {ls : List AskV} (hS : Srd S 4 askC a ls) (hg : ∀ l ∈ ls, Ct Tryz.prog g ([] ++ [askV l] ++ []) [S] (fun v hs => v = .bool (q l) ∧ hs = [S])) (hl : ls.length ≤ 1000) :
    Ct Tryz.prog 165 [.slice a ls.length c, .func (.func g) #[] #[]] [S] (fun v hs => (∃ z : Int, v = int z ∧ decide (0 ≤ z) = ls.any q) ∧ hs = [S]) := by
  refine Ct.intro Tryz.func165 rfl (by kernel_rfl) 19 Tryz.ntmps165 (Nat.le_of_ble_eq_true rfl) fun w0 R => ?_
  refine Gs.slAddr (hS.h (by repeat constructor)) fun ab ao ha => ?_
  refine Gs.seq ?_
  refine Gs.reg ?_
  refine Go.Sl.L.pu rfl rfl trivial (pu_assign rfl) ?_
  refine Go.Sl.L.nil ?_
  refine Gs.then_n ?_
  refine Gs.seq ?_
  refine Gs.seq ?_
  refine Gs.reg ?_
  refine Go.Sl.L.pu rfl rfl trivial (pu_move rfl) ?_
  refine Go.Sl.L.pu rfl rfl trivial (pu_len Tryz.underlying24 rfl) ?_
  refine Go.Sl.L.pu rfl rfl trivial (pu_move rfl) ?_
  refine Go.Sl.L.nil ?_
  refine Gs.then_n ?_
  refine Gs.block ?_
  refine Gs.loop1 (fun i : Nat => i ≤ ls.length ∧ (ls.take i).any q = false) (fun i => [(0, .slice a ls.length c), (1, .func (.func g) #[] #[]), (7, int ls.length), (8, int i)]) (fun i => [S] ++ R) (fun i => ls.length - i) 0 (⟨Nat.zero_le _, rfl⟩) (by repeat constructor) (by repeat constructor) (fun i ⟨hi, hq⟩ => ?_)
  refine Gs.seq ?_
  refine Gs.reg ?_
  refine Go.Sl.L.pu rfl rfl trivial (pu_lt rfl rfl) ?_
  refine Go.Sl.L.nil ?_
  refine Gs.then_n ?_
  refine Gs.seq ?_
  refine Gs.cond rfl (fun hc0 => ?_) (fun hc0 => ?_)
  · skip
    have hlt : i < ls.length := by have := of_decide_eq_true hc0; omega
    obtain ⟨x, hx⟩ : ∃ x, ls[i]? = some x := ⟨ls[i], by simp [hlt]⟩
    obtain rfl := ha (by rintro rfl; simp at hlt)
    have hm := List.mem_of_getElem? hx
    refine Gs.skip ?_
    refine Gs.then_n ?_
    refine Gs.seq ?_
    refine Gs.block ?_
    refine Gs.seq ?_
    refine Gs.reg ?_
    refine Go.Sl.L.pu rfl rfl trivial (pu_move rfl) ?_
    refine Go.Sl.L.pu rfl rfl trivial (pu_assign rfl) ?_
    refine Go.Sl.L.nil ?_
    refine Gs.then_n ?_
    refine Gs.seq ?_
    refine Gs.reg ?_
    refine Go.Sl.L.pu rfl rfl trivial (pu_move rfl) ?_
    refine Go.Sl.L.pu rfl rfl trivial (pu_move rfl) ?_
    refine Go.Sl.L.pu rfl rfl trivial (pu_move rfl) ?_
    refine Go.Sl.L.pu rfl rfl trivial (pu_ia se_24 rfl rfl (by omega) (by omega)) ?_
    refine Go.Sl.L.rd rfl rfl trivial (rd_lda ag_26 rfl (Rdc.el0 (hS.h (by repeat constructor)) hx rfl rfl) rfl) ?_
    refine Go.Sl.L.ac rfl rfl trivial (as_callV rfl (hg x hm) (by repeat constructor) (by repeat constructor)) ?_
    rintro _ _ ⟨_, ⟨rfl, rfl⟩, rfl⟩
    refine Go.Sl.L.nil ?_
    refine Gs.then_n ?_
    refine Gs.cond rfl (fun hc1 => ?_) (fun hc1 => ?_)
    · skip
      have hyes : ls.any q = true := List.any_eq_true.2 ⟨x, hm, hc1⟩
      refine Gs.seq ?_
      refine Gs.reg ?_
      refine Go.Sl.L.pu rfl rfl trivial (pu_move rfl) ?_
      refine Go.Sl.L.pu rfl rfl trivial (pu_assign rfl) ?_
      refine Go.Sl.L.nil ?_
      refine Gs.then_n ?_
      refine Gs.ret ?_
      refine Gs.blk_r ?_
      refine Gs.then_r ?_
      refine Gs.then_r ?_
      refine Gs.blk_r ?_
      refine Gs.then_r ?_
      exact Gs.fin1 Tryz.results165 rfl _ (⟨⟨_, rfl, by rw [hyes]; exact decide_eq_true (by omega)⟩, rfl⟩) (by repeat constructor)
    · skip
      have hno : (ls.take (i + 1)).any q = false := by rw [List.take_add_one, hx, List.any_append, hq]; simp [hc1]
      refine Gs.skip ?_
      refine Gs.blk_n ?_
      refine Gs.then_n ?_
      refine Gs.reg ?_
      refine Go.Sl.L.pu rfl rfl trivial (by first | exact pu_addI rfl rfl rfl (by omega) (by omega) | exact pu_add rfl rfl) ?_
      refine Go.Sl.L.pu rfl rfl trivial (pu_move rfl) ?_
      refine Go.Sl.L.nil ?_
      refine Gs.then_n ?_
      exact Gs.again1 (i + 1) ⟨hlt, hno⟩ (by show ls.length - (i + 1) < ls.length - i; omega) (by repeat constructor) (by repeat constructor)
  · skip
    have hge : i = ls.length := by have := of_decide_eq_false hc0; omega
    rw [hge, List.take_length] at hq
    refine Gs.exit ?_
    refine Gs.then_x ?_
    refine Gs.then_x ?_
    refine Gs.blk_hit ?_
    refine Gs.then_n ?_
    refine Gs.seq ?_
    refine Gs.reg ?_
    refine Go.Sl.L.pu rfl rfl trivial (pu_assign rfl) ?_
    refine Go.Sl.L.nil ?_
    refine Gs.then_n ?_
    refine Gs.ret ?_
    exact Gs.fin1 Tryz.results165 rfl _ (⟨⟨_, rfl, by rw [hq]; rfl⟩, rfl⟩) (by repeat constructor)
theorem containsA_spec {S : HProp} {g : FuncId} {q : AskV → Bool} {a : Option Addr} {c : Nat} {ls : List AskV} (hS : Srd S 4 askC a ls) (hg : ∀ l ∈ ls, Ct Tryz.prog g ([] ++ [askV l] ++ []) [S] (fun v hs => v = .bool (q l) ∧ hs = [S])) (hl : ls.length ≤ 1000) :
    Ct Tryz.prog 119 [.slice a ls.length c, .func (.func g) #[] #[]] [S] (fun v hs => v = .bool (ls.any q) ∧ hs = [S]) := by
  refine Ct.intro Tryz.func119 rfl (by kernel_rfl) 9 Tryz.ntmps119 (Nat.le_of_ble_eq_true rfl) fun w0 R => ?_
  refine Gs.seq ?_
  refine Gs.reg ?_
  refine Go.Sl.L.pu rfl rfl trivial (pu_assign rfl) ?_
  refine Go.Sl.L.nil ?_
  refine Gs.then_n ?_
  refine Gs.seq ?_
  refine Gs.reg ?_
  refine Go.Sl.L.pu rfl rfl trivial (pu_move rfl) ?_
  refine Go.Sl.L.pu rfl rfl trivial (pu_move rfl) ?_
  refine Go.Sl.L.ac rfl rfl trivial (as_call (indexA_spec hS hg hl) (by repeat constructor) (by repeat constructor)) ?_
  rintro _ _ ⟨_, ⟨⟨z, rfl, hz⟩, rfl⟩, rfl⟩
  refine Go.Sl.L.pu rfl rfl trivial (pu_ge rfl rfl) ?_
  refine Go.Sl.L.pu rfl rfl trivial (pu_assign rfl) ?_
  refine Go.Sl.L.nil ?_
  refine Gs.then_n ?_
  refine Gs.ret ?_
  exact Gs.fin1 Tryz.results119 rfl _ (⟨by rw [← hz], rfl⟩) (by repeat constructor)
end Go.Proofs.YtklgiidfompdpaaGreatDoor
namespace Go.Qu
open Go Go.Sl Go.Gv Go.Ix
variable {odd : ByteArray → Bool} {a : AskV} {d : Nat}
theorem good_no (h : shapeB a = false) : goodA odd (d + 1) a = false := by unfold goodA; rw [h]; rfl
theorem good_yes (h : shapeB a = true) : goodA odd (d + 1) a = (a.ws.all (fun w => !odd w) && a.ss.all (goodA odd d)) := by unfold goodA; rw [h]; rfl
end Go.Qu
namespace Go.Proofs.YtklgiidfompdpaaGreatDoor
open Go Go.Sl Go.Gv Go.Kv Go.Po Go.Ix Go.Qu Go.Shelf
set_option maxRecDepth 100000
end Go.Proofs.YtklgiidfompdpaaGreatDoor
namespace Go.Qu
/-- What a kind of question has: words, words at most, parts, parts at most, the greatest number. -/
structure Shp where
  w : Int
  mw : Int
  s : Int
  ms : Int
  m : Int
def shpZ : Shp := ⟨0, 0, 0, 0, 0⟩
def shpO (k : Int) : Option Shp :=
  if k = 1 ∨ k = 2 then some ⟨1, 1, 0, 0, 0⟩
  else if k = 3 then some ⟨1, 16, 0, 0, 0⟩
  else if k = 4 then some ⟨0, 0, 0, 0, 7⟩
  else if k = 5 ∨ k = 6 then some ⟨0, 0, 0, 0, 1099511627776⟩
  else if k = 9 then some ⟨0, 0, 1, 1, 0⟩
  else if k = 7 ∨ k = 8 then some ⟨0, 0, 2, 1048576, 0⟩
  else none
open Go Go.Sl Go.Gv Go.Ix
/-- Is all of a question within its kind's shape? -/
def inShp (s : Shp) (n : Int) (w u : Nat) : Bool := decide (0 ≤ n) && decide (n ≤ s.m) && decide (s.w ≤ w) && decide ((w : Int) ≤ s.mw) && decide (s.s ≤ u) && decide ((u : Int) ≤ s.ms)
theorem nil_iff {α : Type} (l : List α) : l = [] ↔ l.length = 0 := List.length_eq_zero_iff.symm
theorem shape_shp (a : AskV) (h : a.ss.length ≤ 60) : shapeB a = match shpO a.kind with
    | none => false
    | some s => inShp s a.n a.w.xs.length a.ss.length := by
  have hw : a.ws = [] ↔ a.w.xs.length = 0 := nil_iff a.w.xs
  have hs := nil_iff a.ss
  have hwl : a.ws.length = a.w.xs.length := rfl
  unfold shapeB shpO
  by_cases h1 : a.kind = 1 ∨ a.kind = 2
  · rw [if_pos h1, if_pos h1]
    rw [Bool.eq_iff_iff]
    simp only [inShp, Bool.and_eq_true, decide_eq_true_eq, hs]
    constructor <;> (intro h; omega)
  rw [if_neg h1, if_neg h1]
  by_cases h3 : a.kind = 3
  · rw [if_pos h3, if_pos h3]
    rw [Bool.eq_iff_iff]
    simp only [inShp, Bool.and_eq_true, decide_eq_true_eq, hs]
    constructor <;> (intro h; omega)
  rw [if_neg h3, if_neg h3]
  by_cases h4 : a.kind = 4
  · rw [if_pos h4, if_pos h4]
    rw [Bool.eq_iff_iff]
    simp only [inShp, Bool.and_eq_true, decide_eq_true_eq, hs, hw]
    constructor <;> (intro h; omega)
  rw [if_neg h4, if_neg h4]
  by_cases h5 : a.kind = 5 ∨ a.kind = 6
  · rw [if_pos h5, if_pos h5]
    rw [Bool.eq_iff_iff]
    simp only [inShp, Bool.and_eq_true, decide_eq_true_eq, hs, hw]
    constructor <;> (intro h; omega)
  rw [if_neg h5, if_neg h5]
  by_cases h9 : a.kind = 9
  · rw [if_pos h9, if_pos h9]
    rw [Bool.eq_iff_iff]
    simp only [inShp, Bool.and_eq_true, decide_eq_true_eq, hs, hw]
    constructor <;> (intro h; omega)
  rw [if_neg h9, if_neg h9]
  by_cases h7 : a.kind = 7 ∨ a.kind = 8
  · rw [if_pos h7, if_pos h7]
    rw [Bool.eq_iff_iff]
    simp only [inShp, Bool.and_eq_true, decide_eq_true_eq, hs, hw]
    constructor <;> (intro h; omega)
  rw [if_neg h7, if_neg h7]
end Go.Qu
namespace Go.Proofs.YtklgiidfompdpaaGreatDoor
open Go Go.Sl Go.Gv Go.Kv Go.Po Go.Ix Go.Qu Go.Shelf
set_option maxRecDepth 100000
abbrev shpC (s : Shp) : List Value := [int s.w, int s.mw, int s.s, int s.ms, int s.m]
theorem shaped_spec (k : Int) : Ct Tryz.prog 116 [int k] [] (fun v hs => v = .tuple #[.agg (shpC ((shpO k).getD shpZ)).toArray, .bool (shpO k).isSome] ∧ hs = []) := by
  obtain ⟨v0, hv0⟩ : ∃ z, z = shpO k := ⟨_, rfl⟩
  rw [← hv0]
  refine Ct.intro Tryz.func116 rfl (by kernel_rfl) 27 Tryz.ntmps116 (Nat.le_of_ble_eq_true rfl) fun w0 R => ?_
  refine Gs.seq ?_
  refine Gs.reg ?_
  refine Go.Sl.L.ac rfl rfl trivial (ac_alloc zv_152 rfl) ?_
  rintro _ _ ⟨sb, rfl, rfl⟩
  refine Go.Sl.L.pu rfl rfl trivial (pu_assign rfl) ?_
  refine Go.Sl.L.nil ?_
  refine Gs.then_n ?_
  refine Gs.seq ?_
  refine Gs.seq ?_
  refine Gs.reg ?_
  refine Go.Sl.L.pu rfl rfl trivial (pu_move rfl) ?_
  refine Go.Sl.L.nil ?_
  refine Gs.then_n ?_
  refine Gs.block ?_
  refine Gs.seq ?_
  refine Gs.seq ?_
  refine Gs.reg ?_
  refine Go.Sl.L.pu rfl rfl trivial (pu_eq rfl rfl) ?_
  refine Go.Sl.L.pu rfl rfl trivial (pu_assign rfl) ?_
  refine Go.Sl.L.nil ?_
  refine Gs.then_n ?_
  refine Gs.cut (E := [(2, ptr sb), (3, .bool false), (4, int k), (5, .bool (decide (k = 1 ∨ k = 2)))]) (I := [cl sb 152 [int 0, int 0, int 0, int 0, int 0]] ++ R) ?_ ?_
  · skip
    refine Gs.cond rfl (fun hka => ?_) (fun hka => ?_)
    · skip
      rw [show decide (k = 1) = decide (k = 1 ∨ k = 2) from (decide_eq_true (of_decide_eq_true hka)).trans (decide_eq_true (.inl (of_decide_eq_true hka))).symm]
      refine Gs.skip ?_
      refine Gs.then_n ?_
      exact Gs.cutEnd (by repeat constructor) (by repeat constructor)
    · skip
      refine Gs.reg ?_
      refine Go.Sl.L.pu rfl rfl trivial (pu_eq rfl rfl) ?_
      refine Go.Sl.L.pu rfl rfl trivial (pu_assign rfl) ?_
      rw [show decide (k = 2) = decide (k = 1 ∨ k = 2) from decide_eq_decide.2 ⟨fun h => .inr h, fun h => h.resolve_left (of_decide_eq_false hka)⟩]
      refine Go.Sl.L.nil ?_
      refine Gs.then_n ?_
      exact Gs.cutEnd (by repeat constructor) (by repeat constructor)
  · skip
    refine Gs.cond rfl (fun hk1 => ?_) (fun hk1 => ?_)
    · skip
      refine Gs.seq ?_
      refine Gs.reg ?_
      refine Go.Sl.L.pu rfl rfl trivial (pu_build bd_152 (by repeat constructor) rfl) ?_
      refine Go.Sl.L.ac0 rfl trivial (ac_st sz_152 rfl rfl (by repeat constructor) rfl rfl rfl rfl) ?_
      rintro _ _ rfl
      refine Go.Sl.L.pu rfl rfl trivial (pu_assign rfl) ?_
      refine Go.Sl.L.nil ?_
      refine Gs.then_n ?_
      refine Gs.ret ?_
      refine Gs.blk_r ?_
      refine Gs.then_r ?_
      exact Gs.finc2 Tryz.results116 ag_152 rfl (Rdc.cl 5 (by repeat constructor) rfl) rfl rfl _ (⟨by rw [hv0, show shpO k = some ⟨1, 1, 0, 0, 0⟩ from if_pos (of_decide_eq_true hk1)]; rfl, rfl⟩) (by repeat constructor)
    · skip
      refine Gs.seq ?_
      refine Gs.reg ?_
      refine Go.Sl.L.pu rfl rfl trivial (pu_eq rfl rfl) ?_
      refine Go.Sl.L.pu rfl rfl trivial (pu_assign rfl) ?_
      refine Go.Sl.L.nil ?_
      refine Gs.then_n ?_
      refine Gs.cond rfl (fun hk3 => ?_) (fun hk3 => ?_)
      · skip
        refine Gs.seq ?_
        refine Gs.reg ?_
        refine Go.Sl.L.pu rfl rfl trivial (pu_build bd_152 (by repeat constructor) rfl) ?_
        refine Go.Sl.L.ac0 rfl trivial (ac_st sz_152 rfl rfl (by repeat constructor) rfl rfl rfl rfl) ?_
        rintro _ _ rfl
        refine Go.Sl.L.pu rfl rfl trivial (pu_assign rfl) ?_
        refine Go.Sl.L.nil ?_
        refine Gs.then_n ?_
        refine Gs.ret ?_
        refine Gs.blk_r ?_
        refine Gs.then_r ?_
        exact Gs.finc2 Tryz.results116 ag_152 rfl (Rdc.cl 5 (by repeat constructor) rfl) rfl rfl _ (⟨by rw [hv0, show shpO k = some ⟨1, 16, 0, 0, 0⟩ by (have e1 := of_decide_eq_false hk1; have e2 := of_decide_eq_true hk3; unfold shpO; rw [if_neg e1, if_pos e2])]; rfl, rfl⟩) (by repeat constructor)
      · skip
        refine Gs.seq ?_
        refine Gs.reg ?_
        refine Go.Sl.L.pu rfl rfl trivial (pu_eq rfl rfl) ?_
        refine Go.Sl.L.pu rfl rfl trivial (pu_assign rfl) ?_
        refine Go.Sl.L.nil ?_
        refine Gs.then_n ?_
        refine Gs.cond rfl (fun hk4 => ?_) (fun hk4 => ?_)
        · skip
          refine Gs.seq ?_
          refine Gs.reg ?_
          refine Go.Sl.L.pu rfl rfl trivial (pu_build bd_152 (by repeat constructor) rfl) ?_
          refine Go.Sl.L.ac0 rfl trivial (ac_st sz_152 rfl rfl (by repeat constructor) rfl rfl rfl rfl) ?_
          rintro _ _ rfl
          refine Go.Sl.L.pu rfl rfl trivial (pu_assign rfl) ?_
          refine Go.Sl.L.nil ?_
          refine Gs.then_n ?_
          refine Gs.ret ?_
          refine Gs.blk_r ?_
          refine Gs.then_r ?_
          exact Gs.finc2 Tryz.results116 ag_152 rfl (Rdc.cl 5 (by repeat constructor) rfl) rfl rfl _ (⟨by rw [hv0, show shpO k = some ⟨0, 0, 0, 0, 7⟩ by (have e1 := of_decide_eq_false hk1; have e2 := of_decide_eq_false hk3; unfold shpO; rw [if_neg e1, if_neg e2, if_pos (of_decide_eq_true hk4)])]; rfl, rfl⟩) (by repeat constructor)
        · skip
          refine Gs.seq ?_
          refine Gs.seq ?_
          refine Gs.reg ?_
          refine Go.Sl.L.pu rfl rfl trivial (pu_eq rfl rfl) ?_
          refine Go.Sl.L.pu rfl rfl trivial (pu_assign rfl) ?_
          refine Go.Sl.L.nil ?_
          refine Gs.then_n ?_
          refine Gs.cut (E := [(2, ptr sb), (3, .bool false), (4, int k), (15, .bool (decide (k = 5 ∨ k = 6)))]) (I := [cl sb 152 [int 0, int 0, int 0, int 0, int 0]] ++ R) ?_ ?_
          · skip
            refine Gs.cond rfl (fun hka => ?_) (fun hka => ?_)
            · skip
              rw [show decide (k = 5) = decide (k = 5 ∨ k = 6) from (decide_eq_true (of_decide_eq_true hka)).trans (decide_eq_true (.inl (of_decide_eq_true hka))).symm]
              refine Gs.skip ?_
              refine Gs.then_n ?_
              exact Gs.cutEnd (by repeat constructor) (by repeat constructor)
            · skip
              refine Gs.reg ?_
              refine Go.Sl.L.pu rfl rfl trivial (pu_eq rfl rfl) ?_
              refine Go.Sl.L.pu rfl rfl trivial (pu_assign rfl) ?_
              rw [show decide (k = 6) = decide (k = 5 ∨ k = 6) from decide_eq_decide.2 ⟨fun h => .inr h, fun h => h.resolve_left (of_decide_eq_false hka)⟩]
              refine Go.Sl.L.nil ?_
              refine Gs.then_n ?_
              exact Gs.cutEnd (by repeat constructor) (by repeat constructor)
          · skip
            refine Gs.cond rfl (fun hk5 => ?_) (fun hk5 => ?_)
            · skip
              refine Gs.seq ?_
              refine Gs.reg ?_
              refine Go.Sl.L.pu rfl rfl trivial (pu_build bd_152 (by repeat constructor) rfl) ?_
              refine Go.Sl.L.ac0 rfl trivial (ac_st sz_152 rfl rfl (by repeat constructor) rfl rfl rfl rfl) ?_
              rintro _ _ rfl
              refine Go.Sl.L.pu rfl rfl trivial (pu_assign rfl) ?_
              refine Go.Sl.L.nil ?_
              refine Gs.then_n ?_
              refine Gs.ret ?_
              refine Gs.blk_r ?_
              refine Gs.then_r ?_
              exact Gs.finc2 Tryz.results116 ag_152 rfl (Rdc.cl 5 (by repeat constructor) rfl) rfl rfl _ (⟨by rw [hv0, show shpO k = some ⟨0, 0, 0, 0, 1099511627776⟩ by (unfold shpO; rw [if_neg (of_decide_eq_false hk1), if_neg (of_decide_eq_false hk3), if_neg (of_decide_eq_false hk4), if_pos (of_decide_eq_true hk5)])]; rfl, rfl⟩) (by repeat constructor)
            · skip
              refine Gs.seq ?_
              refine Gs.reg ?_
              refine Go.Sl.L.pu rfl rfl trivial (pu_eq rfl rfl) ?_
              refine Go.Sl.L.pu rfl rfl trivial (pu_assign rfl) ?_
              refine Go.Sl.L.nil ?_
              refine Gs.then_n ?_
              refine Gs.cond rfl (fun hk9 => ?_) (fun hk9 => ?_)
              · skip
                refine Gs.seq ?_
                refine Gs.reg ?_
                refine Go.Sl.L.pu rfl rfl trivial (pu_build bd_152 (by repeat constructor) rfl) ?_
                refine Go.Sl.L.ac0 rfl trivial (ac_st sz_152 rfl rfl (by repeat constructor) rfl rfl rfl rfl) ?_
                rintro _ _ rfl
                refine Go.Sl.L.pu rfl rfl trivial (pu_assign rfl) ?_
                refine Go.Sl.L.nil ?_
                refine Gs.then_n ?_
                refine Gs.ret ?_
                refine Gs.blk_r ?_
                refine Gs.then_r ?_
                exact Gs.finc2 Tryz.results116 ag_152 rfl (Rdc.cl 5 (by repeat constructor) rfl) rfl rfl _ (⟨by rw [hv0, show shpO k = some ⟨0, 0, 1, 1, 0⟩ by (unfold shpO; rw [if_neg (of_decide_eq_false hk1), if_neg (of_decide_eq_false hk3), if_neg (of_decide_eq_false hk4), if_neg (of_decide_eq_false hk5), if_pos (of_decide_eq_true hk9)])]; rfl, rfl⟩) (by repeat constructor)
              · skip
                refine Gs.seq ?_
                refine Gs.seq ?_
                refine Gs.reg ?_
                refine Go.Sl.L.pu rfl rfl trivial (pu_eq rfl rfl) ?_
                refine Go.Sl.L.pu rfl rfl trivial (pu_assign rfl) ?_
                refine Go.Sl.L.nil ?_
                refine Gs.then_n ?_
                refine Gs.cut (E := [(2, ptr sb), (3, .bool false), (4, int k), (22, .bool (decide (k = 7 ∨ k = 8)))]) (I := [cl sb 152 [int 0, int 0, int 0, int 0, int 0]] ++ R) ?_ ?_
                · skip
                  refine Gs.cond rfl (fun hka => ?_) (fun hka => ?_)
                  · skip
                    rw [show decide (k = 7) = decide (k = 7 ∨ k = 8) from (decide_eq_true (of_decide_eq_true hka)).trans (decide_eq_true (.inl (of_decide_eq_true hka))).symm]
                    refine Gs.skip ?_
                    refine Gs.then_n ?_
                    exact Gs.cutEnd (by repeat constructor) (by repeat constructor)
                  · skip
                    refine Gs.reg ?_
                    refine Go.Sl.L.pu rfl rfl trivial (pu_eq rfl rfl) ?_
                    refine Go.Sl.L.pu rfl rfl trivial (pu_assign rfl) ?_
                    rw [show decide (k = 8) = decide (k = 7 ∨ k = 8) from decide_eq_decide.2 ⟨fun h => .inr h, fun h => h.resolve_left (of_decide_eq_false hka)⟩]
                    refine Go.Sl.L.nil ?_
                    refine Gs.then_n ?_
                    exact Gs.cutEnd (by repeat constructor) (by repeat constructor)
                · skip
                  refine Gs.cond rfl (fun hk7 => ?_) (fun hk7 => ?_)
                  · skip
                    refine Gs.seq ?_
                    refine Gs.reg ?_
                    refine Go.Sl.L.pu rfl rfl trivial (pu_build bd_152 (by repeat constructor) rfl) ?_
                    refine Go.Sl.L.ac0 rfl trivial (ac_st sz_152 rfl rfl (by repeat constructor) rfl rfl rfl rfl) ?_
                    rintro _ _ rfl
                    refine Go.Sl.L.pu rfl rfl trivial (pu_assign rfl) ?_
                    refine Go.Sl.L.nil ?_
                    refine Gs.then_n ?_
                    refine Gs.ret ?_
                    refine Gs.blk_r ?_
                    refine Gs.then_r ?_
                    exact Gs.finc2 Tryz.results116 ag_152 rfl (Rdc.cl 5 (by repeat constructor) rfl) rfl rfl _ (⟨by rw [hv0, show shpO k = some ⟨0, 0, 2, 1048576, 0⟩ by (unfold shpO; rw [if_neg (of_decide_eq_false hk1), if_neg (of_decide_eq_false hk3), if_neg (of_decide_eq_false hk4), if_neg (of_decide_eq_false hk5), if_neg (of_decide_eq_false hk9), if_pos (of_decide_eq_true hk7)])]; rfl, rfl⟩) (by repeat constructor)
                  · skip
                    refine Gs.skip ?_
                    refine Gs.blk_n ?_
                    refine Gs.then_n ?_
                    refine Gs.seq ?_
                    refine Gs.reg ?_
                    refine Go.Sl.L.pu rfl rfl trivial (pu_build bd_152 (by repeat constructor) rfl) ?_
                    refine Go.Sl.L.ac0 rfl trivial (ac_st sz_152 rfl rfl (by repeat constructor) rfl rfl rfl rfl) ?_
                    rintro _ _ rfl
                    refine Go.Sl.L.pu rfl rfl trivial (pu_assign rfl) ?_
                    refine Go.Sl.L.nil ?_
                    refine Gs.then_n ?_
                    refine Gs.ret ?_
                    exact Gs.finc2 Tryz.results116 ag_152 rfl (Rdc.cl 5 (by repeat constructor) rfl) rfl rfl _ (⟨by rw [hv0, show shpO k = none by (unfold shpO; rw [if_neg (of_decide_eq_false hk1), if_neg (of_decide_eq_false hk3), if_neg (of_decide_eq_false hk4), if_neg (of_decide_eq_false hk5), if_neg (of_decide_eq_false hk9), if_neg (of_decide_eq_false hk7)])]; rfl, rfl⟩) (by repeat constructor)
theorem goodC_spec {S : HProp} {y : AskV} {b : Bool} (c : Ct Tryz.prog 69 [askV y] [S] (fun v hs => v = .bool b ∧ hs = [S])) : Ct Tryz.prog 120 [askV y] [S] (fun v hs => v = .bool (!b) ∧ hs = [S]) := by
  refine Ct.intro Tryz.func120 rfl (by kernel_rfl) 6 Tryz.ntmps120 (Nat.le_of_ble_eq_true rfl) fun w0 R => ?_
  refine Gs.seq ?_
  refine Gs.reg ?_
  refine Go.Sl.L.ac rfl rfl trivial (ac_box rfl rfl) ?_
  rintro _ _ ⟨yb, rfl, rfl⟩
  refine Go.Sl.L.pu rfl rfl trivial (pu_assign rfl) ?_
  refine Go.Sl.L.nil ?_
  refine Gs.then_n ?_
  refine Gs.seq ?_
  refine Gs.reg ?_
  refine Go.Sl.L.rd rfl rfl trivial (rd_lda ag_26 rfl (Rdc.cl 4 (by repeat constructor) rfl) rfl) ?_
  refine Go.Sl.L.ac rfl rfl trivial (as_call (c) (by repeat constructor) (by repeat constructor)) ?_
  rintro _ _ ⟨_, ⟨rfl, rfl⟩, rfl⟩
  refine Go.Sl.L.pu rfl rfl trivial (pu_not rfl) ?_
  refine Go.Sl.L.pu rfl rfl trivial (pu_assign rfl) ?_
  refine Go.Sl.L.nil ?_
  refine Gs.then_n ?_
  refine Gs.ret ?_
  exact Gs.fin1 Tryz.results120 rfl _ (⟨rfl, rfl⟩) (by repeat constructor)
set_option maxHeartbeats 1000000 in
theorem goodF_spec {S : HProp} (hT : TabU S) : ∀ (d : Nat) {x : AskV} (hA : ARd S x) (hF : FewA d x),
    Ct Tryz.prog 69 [askV x] [S] (fun v hs => v = .bool (goodA oddB d x) ∧ hs = [S])
  | 0, x, hA, hF => hF.elim
  | d + 1, x, hA, hF => by
    have ih := @goodF_spec S hT d
    obtain ⟨hf1, hf2, hf3, hf4⟩ := hF
    have hmx : maxLen = 9223372036854775807 := by decide
    have hsh := shape_shp x hf3
    obtain ⟨v0, hv0⟩ : ∃ z, z = goodA oddB (d + 1) x := ⟨_, rfl⟩
    obtain ⟨sp, hsp⟩ : ∃ z, z = shpO x.kind := ⟨_, rfl⟩
    rw [← hsp] at hsh
    rw [← hv0]
    refine Ct.intro Tryz.func69 rfl (by kernel_rfl) 67 Tryz.ntmps69 (Nat.le_of_ble_eq_true rfl) fun w0 R => ?_
    refine Gs.seq ?_
    refine Gs.reg ?_
    refine Go.Sl.L.ac rfl rfl trivial (ac_box rfl rfl) ?_
    rintro _ _ ⟨xb, rfl, rfl⟩
    refine Go.Sl.L.pu rfl rfl trivial (pu_assign rfl) ?_
    refine Go.Sl.L.nil ?_
    refine Gs.then_n ?_
    refine Gs.seq ?_
    refine Gs.reg ?_
    refine Go.Sl.L.pu rfl rfl trivial (pu_fa fa_26_0 rfl) ?_
    refine Go.Sl.L.rd rfl rfl trivial (rd_ld na_3 rfl (Rdc.cl1 (by repeat constructor) rfl)) ?_
    refine Go.Sl.L.ac rfl rfl trivial (as_call (shaped_spec x.kind) (by repeat constructor) (by repeat constructor)) ?_
    rintro _ _ ⟨_, ⟨rfl, rfl⟩, rfl⟩
    rw [← hsp]
    refine Go.Sl.L.pu rfl rfl trivial (pu_move rfl) ?_
    refine Go.Sl.L.pu rfl rfl trivial (pu_extract rfl rfl) ?_
    refine Go.Sl.L.pu rfl rfl trivial (pu_extract rfl rfl) ?_
    refine Go.Sl.L.ac rfl rfl trivial (ac_alloc zv_152 rfl) ?_
    rintro _ _ ⟨pb, rfl, rfl⟩
    refine Go.Sl.L.ac0 rfl trivial (ac_st sz_152 rfl rfl (by repeat constructor) rfl rfl rfl rfl) ?_
    rintro _ _ rfl
    refine Go.Sl.L.pu rfl rfl trivial (pu_assign rfl) ?_
    refine Go.Sl.L.nil ?_
    refine Gs.then_n ?_
    refine Gs.seq ?_
    refine Gs.regD mixed (by kernel_rfl) ?_
    refine Rg.pu 0 rfl rfl (by kernel_rfl) trivial (pu_fa fa_26_2 rfl) ?_
    refine Rg.rd 1 rfl rfl (by kernel_rfl) trivial (rd_ld na_23 rfl (Rdc.cl1 (by repeat constructor) rfl)) ?_
    refine Rg.pu 2 rfl rfl (by kernel_rfl) trivial (pu_len Tryz.underlying23 rfl) ?_
    refine Rg.pu 3 rfl rfl (by kernel_rfl) trivial (pu_fa fa_26_3 rfl) ?_
    refine Rg.rd 4 rfl rfl (by kernel_rfl) trivial (rd_ld na_24 rfl (Rdc.cl1 (by repeat constructor) rfl)) ?_
    refine Rg.pu 5 rfl rfl (by kernel_rfl) trivial (pu_len Tryz.underlying24 rfl) ?_
    refine Rg.pu 6 rfl rfl (by kernel_rfl) trivial (pu_assign rfl) ?_
    refine Rg.pu 7 rfl rfl (by kernel_rfl) trivial (pu_assign rfl) ?_
    refine Rg.end (by kernel_rfl) ?_
    refine Gs.then_n ?_
    refine Gs.seq ?_
    refine Gs.seq ?_
    refine Gs.reg ?_
    refine Go.Sl.L.pu rfl rfl trivial (pu_move rfl) ?_
    refine Go.Sl.L.pu rfl rfl trivial (pu_not rfl) ?_
    refine Go.Sl.L.puB rfl rfl trivial (pu_move rfl) (fun hg2 => ?_) (fun hg2 => ?_)
    · skip
      have hbad : shapeB x = false := by
        rw [hsh]
        cases hq : sp with
        | none => rfl
        | some s => rw [hq] at hg2; cases hg2
      refine Go.Sl.L.off rfl rfl rfl rfl rfl rfl ?_
      refine Go.Sl.L.off rfl rfl rfl rfl rfl rfl ?_
      refine Go.Sl.L.off rfl rfl rfl rfl rfl rfl ?_
      refine Go.Sl.L.pu rfl rfl trivial (by first | exact pu_pick_t rfl rfl | exact pu_pick_f rfl rfl) ?_
      refine Go.Sl.L.pu rfl rfl trivial (pu_move rfl) ?_
      refine Go.Sl.L.off rfl rfl rfl rfl rfl rfl ?_
      refine Go.Sl.L.off rfl rfl rfl rfl rfl rfl ?_
      refine Go.Sl.L.off rfl rfl rfl rfl rfl rfl ?_
      refine Go.Sl.L.off rfl rfl rfl rfl rfl rfl ?_
      refine Go.Sl.L.off rfl rfl rfl rfl rfl rfl ?_
      refine Go.Sl.L.pu rfl rfl trivial (by first | exact pu_pick_t rfl rfl | exact pu_pick_f rfl rfl) ?_
      refine Go.Sl.L.pu rfl rfl trivial (pu_move rfl) ?_
      refine Go.Sl.L.off rfl rfl rfl rfl rfl rfl ?_
      refine Go.Sl.L.off rfl rfl rfl rfl rfl rfl ?_
      refine Go.Sl.L.off rfl rfl rfl rfl rfl rfl ?_
      refine Go.Sl.L.off rfl rfl rfl rfl rfl rfl ?_
      refine Go.Sl.L.pu rfl rfl trivial (by first | exact pu_pick_t rfl rfl | exact pu_pick_f rfl rfl) ?_
      refine Go.Sl.L.pu rfl rfl trivial (pu_move rfl) ?_
      refine Go.Sl.L.off rfl rfl rfl rfl rfl rfl ?_
      refine Go.Sl.L.off rfl rfl rfl rfl rfl rfl ?_
      refine Go.Sl.L.off rfl rfl rfl rfl rfl rfl ?_
      refine Go.Sl.L.off rfl rfl rfl rfl rfl rfl ?_
      refine Go.Sl.L.pu rfl rfl trivial (by first | exact pu_pick_t rfl rfl | exact pu_pick_f rfl rfl) ?_
      refine Go.Sl.L.pu rfl rfl trivial (pu_move rfl) ?_
      refine Go.Sl.L.off rfl rfl rfl rfl rfl rfl ?_
      refine Go.Sl.L.off rfl rfl rfl rfl rfl rfl ?_
      refine Go.Sl.L.off rfl rfl rfl rfl rfl rfl ?_
      refine Go.Sl.L.off rfl rfl rfl rfl rfl rfl ?_
      refine Go.Sl.L.pu rfl rfl trivial (by first | exact pu_pick_t rfl rfl | exact pu_pick_f rfl rfl) ?_
      refine Go.Sl.L.pu rfl rfl trivial (pu_move rfl) ?_
      refine Go.Sl.L.off rfl rfl rfl rfl rfl rfl ?_
      refine Go.Sl.L.off rfl rfl rfl rfl rfl rfl ?_
      refine Go.Sl.L.off rfl rfl rfl rfl rfl rfl ?_
      refine Go.Sl.L.off rfl rfl rfl rfl rfl rfl ?_
      refine Go.Sl.L.pu rfl rfl trivial (by first | exact pu_pick_t rfl rfl | exact pu_pick_f rfl rfl) ?_
      refine Go.Sl.L.nil ?_
      refine Gs.then_n ?_
      refine Gs.cond_t rfl ?_
      refine Gs.seq ?_
      refine Gs.reg ?_
      refine Go.Sl.L.pu rfl rfl trivial (pu_assign rfl) ?_
      refine Go.Sl.L.nil ?_
      refine Gs.then_n ?_
      refine Gs.ret ?_
      refine Gs.then_r ?_
      exact Gs.fin1 Tryz.results69 rfl _ (⟨by
        rw [hv0, good_no (by
          first
            | exact hbad
            | (rw [hshs, Bool.eq_false_iff]
               intro h
               simp only [inShp, Bool.and_eq_true, decide_eq_true_eq] at h
               first
                 | (have e : x.n < 0 := of_decide_eq_true hg7; omega)
                 | (have e : s.m < x.n := of_decide_eq_true hg14; omega)
                 | (have e : (x.w.xs.length : Int) < s.w := of_decide_eq_true hg20; omega)
                 | (have e : s.mw < (x.w.xs.length : Int) := of_decide_eq_true hg26; omega)
                 | (have e : (x.ss.length : Int) < s.s := of_decide_eq_true hg32; omega)
                 | (have e : s.ms < (x.ss.length : Int) := of_decide_eq_true hc0; omega)))], rfl⟩) (by repeat constructor)
    · skip
      obtain ⟨s, rfl⟩ : ∃ s, sp = some s := by
        cases hq : sp with
        | none => rw [hq] at hg2; cases hg2
        | some s => exact ⟨s, rfl⟩
      have hshs : shapeB x = inShp s x.n x.w.xs.length x.ss.length := hsh
      refine Go.Sl.L.pu rfl rfl ⟨_, rfl, rfl⟩ (pu_fa fa_26_1 rfl) ?_
      refine Go.Sl.L.rd rfl rfl ⟨_, rfl, rfl⟩ (rd_ld na_3 rfl (Rdc.cl1 (by repeat constructor) rfl)) ?_
      refine Go.Sl.L.pu rfl rfl ⟨_, rfl, rfl⟩ (pu_lt rfl rfl) ?_
      refine Go.Sl.L.pu rfl rfl trivial (by first | exact pu_pick_t rfl rfl | exact pu_pick_f rfl rfl) ?_
      refine Go.Sl.L.puB rfl rfl trivial (pu_move rfl) (fun hg7 => ?_) (fun hg7 => ?_)
      · skip
        refine Go.Sl.L.off rfl rfl rfl rfl rfl rfl ?_
        refine Go.Sl.L.off rfl rfl rfl rfl rfl rfl ?_
        refine Go.Sl.L.off rfl rfl rfl rfl rfl rfl ?_
        refine Go.Sl.L.off rfl rfl rfl rfl rfl rfl ?_
        refine Go.Sl.L.off rfl rfl rfl rfl rfl rfl ?_
        refine Go.Sl.L.pu rfl rfl trivial (by first | exact pu_pick_t rfl rfl | exact pu_pick_f rfl rfl) ?_
        refine Go.Sl.L.pu rfl rfl trivial (pu_move rfl) ?_
        refine Go.Sl.L.off rfl rfl rfl rfl rfl rfl ?_
        refine Go.Sl.L.off rfl rfl rfl rfl rfl rfl ?_
        refine Go.Sl.L.off rfl rfl rfl rfl rfl rfl ?_
        refine Go.Sl.L.off rfl rfl rfl rfl rfl rfl ?_
        refine Go.Sl.L.pu rfl rfl trivial (by first | exact pu_pick_t rfl rfl | exact pu_pick_f rfl rfl) ?_
        refine Go.Sl.L.pu rfl rfl trivial (pu_move rfl) ?_
        refine Go.Sl.L.off rfl rfl rfl rfl rfl rfl ?_
        refine Go.Sl.L.off rfl rfl rfl rfl rfl rfl ?_
        refine Go.Sl.L.off rfl rfl rfl rfl rfl rfl ?_
        refine Go.Sl.L.off rfl rfl rfl rfl rfl rfl ?_
        refine Go.Sl.L.pu rfl rfl trivial (by first | exact pu_pick_t rfl rfl | exact pu_pick_f rfl rfl) ?_
        refine Go.Sl.L.pu rfl rfl trivial (pu_move rfl) ?_
        refine Go.Sl.L.off rfl rfl rfl rfl rfl rfl ?_
        refine Go.Sl.L.off rfl rfl rfl rfl rfl rfl ?_
        refine Go.Sl.L.off rfl rfl rfl rfl rfl rfl ?_
        refine Go.Sl.L.off rfl rfl rfl rfl rfl rfl ?_
        refine Go.Sl.L.pu rfl rfl trivial (by first | exact pu_pick_t rfl rfl | exact pu_pick_f rfl rfl) ?_
        refine Go.Sl.L.pu rfl rfl trivial (pu_move rfl) ?_
        refine Go.Sl.L.off rfl rfl rfl rfl rfl rfl ?_
        refine Go.Sl.L.off rfl rfl rfl rfl rfl rfl ?_
        refine Go.Sl.L.off rfl rfl rfl rfl rfl rfl ?_
        refine Go.Sl.L.off rfl rfl rfl rfl rfl rfl ?_
        refine Go.Sl.L.pu rfl rfl trivial (by first | exact pu_pick_t rfl rfl | exact pu_pick_f rfl rfl) ?_
        refine Go.Sl.L.nil ?_
        refine Gs.then_n ?_
        refine Gs.cond_t rfl ?_
        refine Gs.seq ?_
        refine Gs.reg ?_
        refine Go.Sl.L.pu rfl rfl trivial (pu_assign rfl) ?_
        refine Go.Sl.L.nil ?_
        refine Gs.then_n ?_
        refine Gs.ret ?_
        refine Gs.then_r ?_
        exact Gs.fin1 Tryz.results69 rfl _ (⟨by
          rw [hv0, good_no (by
            first
              | exact hbad
              | (rw [hshs, Bool.eq_false_iff]
                 intro h
                 simp only [inShp, Bool.and_eq_true, decide_eq_true_eq] at h
                 first
                   | (have e : x.n < 0 := of_decide_eq_true hg7; omega)
                   | (have e : s.m < x.n := of_decide_eq_true hg14; omega)
                   | (have e : (x.w.xs.length : Int) < s.w := of_decide_eq_true hg20; omega)
                   | (have e : s.mw < (x.w.xs.length : Int) := of_decide_eq_true hg26; omega)
                   | (have e : (x.ss.length : Int) < s.s := of_decide_eq_true hg32; omega)
                   | (have e : s.ms < (x.ss.length : Int) := of_decide_eq_true hc0; omega)))], rfl⟩) (by repeat constructor)
      · skip
        refine Go.Sl.L.pu rfl rfl ⟨_, rfl, rfl⟩ (pu_fa fa_26_1 rfl) ?_
        refine Go.Sl.L.rd rfl rfl ⟨_, rfl, rfl⟩ (rd_ld na_3 rfl (Rdc.cl1 (by repeat constructor) rfl)) ?_
        refine Go.Sl.L.pu rfl rfl ⟨_, rfl, rfl⟩ (pu_fa fa_152_4 rfl) ?_
        refine Go.Sl.L.rd rfl rfl ⟨_, rfl, rfl⟩ (rd_ld na_3 rfl (Rdc.cl1 (by repeat constructor) rfl)) ?_
        refine Go.Sl.L.pu rfl rfl ⟨_, rfl, rfl⟩ (pu_gt rfl rfl) ?_
        refine Go.Sl.L.pu rfl rfl trivial (by first | exact pu_pick_t rfl rfl | exact pu_pick_f rfl rfl) ?_
        refine Go.Sl.L.puB rfl rfl trivial (pu_move rfl) (fun hg14 => ?_) (fun hg14 => ?_)
        · skip
          refine Go.Sl.L.off rfl rfl rfl rfl rfl rfl ?_
          refine Go.Sl.L.off rfl rfl rfl rfl rfl rfl ?_
          refine Go.Sl.L.off rfl rfl rfl rfl rfl rfl ?_
          refine Go.Sl.L.off rfl rfl rfl rfl rfl rfl ?_
          refine Go.Sl.L.pu rfl rfl trivial (by first | exact pu_pick_t rfl rfl | exact pu_pick_f rfl rfl) ?_
          refine Go.Sl.L.pu rfl rfl trivial (pu_move rfl) ?_
          refine Go.Sl.L.off rfl rfl rfl rfl rfl rfl ?_
          refine Go.Sl.L.off rfl rfl rfl rfl rfl rfl ?_
          refine Go.Sl.L.off rfl rfl rfl rfl rfl rfl ?_
          refine Go.Sl.L.off rfl rfl rfl rfl rfl rfl ?_
          refine Go.Sl.L.pu rfl rfl trivial (by first | exact pu_pick_t rfl rfl | exact pu_pick_f rfl rfl) ?_
          refine Go.Sl.L.pu rfl rfl trivial (pu_move rfl) ?_
          refine Go.Sl.L.off rfl rfl rfl rfl rfl rfl ?_
          refine Go.Sl.L.off rfl rfl rfl rfl rfl rfl ?_
          refine Go.Sl.L.off rfl rfl rfl rfl rfl rfl ?_
          refine Go.Sl.L.off rfl rfl rfl rfl rfl rfl ?_
          refine Go.Sl.L.pu rfl rfl trivial (by first | exact pu_pick_t rfl rfl | exact pu_pick_f rfl rfl) ?_
          refine Go.Sl.L.pu rfl rfl trivial (pu_move rfl) ?_
          refine Go.Sl.L.off rfl rfl rfl rfl rfl rfl ?_
          refine Go.Sl.L.off rfl rfl rfl rfl rfl rfl ?_
          refine Go.Sl.L.off rfl rfl rfl rfl rfl rfl ?_
          refine Go.Sl.L.off rfl rfl rfl rfl rfl rfl ?_
          refine Go.Sl.L.pu rfl rfl trivial (by first | exact pu_pick_t rfl rfl | exact pu_pick_f rfl rfl) ?_
          refine Go.Sl.L.nil ?_
          refine Gs.then_n ?_
          refine Gs.cond_t rfl ?_
          refine Gs.seq ?_
          refine Gs.reg ?_
          refine Go.Sl.L.pu rfl rfl trivial (pu_assign rfl) ?_
          refine Go.Sl.L.nil ?_
          refine Gs.then_n ?_
          refine Gs.ret ?_
          refine Gs.then_r ?_
          exact Gs.fin1 Tryz.results69 rfl _ (⟨by
            rw [hv0, good_no (by
              first
                | exact hbad
                | (rw [hshs, Bool.eq_false_iff]
                   intro h
                   simp only [inShp, Bool.and_eq_true, decide_eq_true_eq] at h
                   first
                     | (have e : x.n < 0 := of_decide_eq_true hg7; omega)
                     | (have e : s.m < x.n := of_decide_eq_true hg14; omega)
                     | (have e : (x.w.xs.length : Int) < s.w := of_decide_eq_true hg20; omega)
                     | (have e : s.mw < (x.w.xs.length : Int) := of_decide_eq_true hg26; omega)
                     | (have e : (x.ss.length : Int) < s.s := of_decide_eq_true hg32; omega)
                     | (have e : s.ms < (x.ss.length : Int) := of_decide_eq_true hc0; omega)))], rfl⟩) (by repeat constructor)
        · skip
          refine Go.Sl.L.pu rfl rfl ⟨_, rfl, rfl⟩ (pu_move rfl) ?_
          refine Go.Sl.L.pu rfl rfl ⟨_, rfl, rfl⟩ (pu_fa fa_152_0 rfl) ?_
          refine Go.Sl.L.rd rfl rfl ⟨_, rfl, rfl⟩ (rd_ld na_3 rfl (Rdc.cl1 (by repeat constructor) rfl)) ?_
          refine Go.Sl.L.pu rfl rfl ⟨_, rfl, rfl⟩ (pu_lt rfl rfl) ?_
          refine Go.Sl.L.pu rfl rfl trivial (by first | exact pu_pick_t rfl rfl | exact pu_pick_f rfl rfl) ?_
          refine Go.Sl.L.puB rfl rfl trivial (pu_move rfl) (fun hg20 => ?_) (fun hg20 => ?_)
          · skip
            refine Go.Sl.L.off rfl rfl rfl rfl rfl rfl ?_
            refine Go.Sl.L.off rfl rfl rfl rfl rfl rfl ?_
            refine Go.Sl.L.off rfl rfl rfl rfl rfl rfl ?_
            refine Go.Sl.L.off rfl rfl rfl rfl rfl rfl ?_
            refine Go.Sl.L.pu rfl rfl trivial (by first | exact pu_pick_t rfl rfl | exact pu_pick_f rfl rfl) ?_
            refine Go.Sl.L.pu rfl rfl trivial (pu_move rfl) ?_
            refine Go.Sl.L.off rfl rfl rfl rfl rfl rfl ?_
            refine Go.Sl.L.off rfl rfl rfl rfl rfl rfl ?_
            refine Go.Sl.L.off rfl rfl rfl rfl rfl rfl ?_
            refine Go.Sl.L.off rfl rfl rfl rfl rfl rfl ?_
            refine Go.Sl.L.pu rfl rfl trivial (by first | exact pu_pick_t rfl rfl | exact pu_pick_f rfl rfl) ?_
            refine Go.Sl.L.pu rfl rfl trivial (pu_move rfl) ?_
            refine Go.Sl.L.off rfl rfl rfl rfl rfl rfl ?_
            refine Go.Sl.L.off rfl rfl rfl rfl rfl rfl ?_
            refine Go.Sl.L.off rfl rfl rfl rfl rfl rfl ?_
            refine Go.Sl.L.off rfl rfl rfl rfl rfl rfl ?_
            refine Go.Sl.L.pu rfl rfl trivial (by first | exact pu_pick_t rfl rfl | exact pu_pick_f rfl rfl) ?_
            refine Go.Sl.L.nil ?_
            refine Gs.then_n ?_
            refine Gs.cond_t rfl ?_
            refine Gs.seq ?_
            refine Gs.reg ?_
            refine Go.Sl.L.pu rfl rfl trivial (pu_assign rfl) ?_
            refine Go.Sl.L.nil ?_
            refine Gs.then_n ?_
            refine Gs.ret ?_
            refine Gs.then_r ?_
            exact Gs.fin1 Tryz.results69 rfl _ (⟨by
              rw [hv0, good_no (by
                first
                  | exact hbad
                  | (rw [hshs, Bool.eq_false_iff]
                     intro h
                     simp only [inShp, Bool.and_eq_true, decide_eq_true_eq] at h
                     first
                       | (have e : x.n < 0 := of_decide_eq_true hg7; omega)
                       | (have e : s.m < x.n := of_decide_eq_true hg14; omega)
                       | (have e : (x.w.xs.length : Int) < s.w := of_decide_eq_true hg20; omega)
                       | (have e : s.mw < (x.w.xs.length : Int) := of_decide_eq_true hg26; omega)
                       | (have e : (x.ss.length : Int) < s.s := of_decide_eq_true hg32; omega)
                       | (have e : s.ms < (x.ss.length : Int) := of_decide_eq_true hc0; omega)))], rfl⟩) (by repeat constructor)
          · skip
            refine Go.Sl.L.pu rfl rfl ⟨_, rfl, rfl⟩ (pu_move rfl) ?_
            refine Go.Sl.L.pu rfl rfl ⟨_, rfl, rfl⟩ (pu_fa fa_152_1 rfl) ?_
            refine Go.Sl.L.rd rfl rfl ⟨_, rfl, rfl⟩ (rd_ld na_3 rfl (Rdc.cl1 (by repeat constructor) rfl)) ?_
            refine Go.Sl.L.pu rfl rfl ⟨_, rfl, rfl⟩ (pu_gt rfl rfl) ?_
            refine Go.Sl.L.pu rfl rfl trivial (by first | exact pu_pick_t rfl rfl | exact pu_pick_f rfl rfl) ?_
            refine Go.Sl.L.puB rfl rfl trivial (pu_move rfl) (fun hg26 => ?_) (fun hg26 => ?_)
            · skip
              refine Go.Sl.L.off rfl rfl rfl rfl rfl rfl ?_
              refine Go.Sl.L.off rfl rfl rfl rfl rfl rfl ?_
              refine Go.Sl.L.off rfl rfl rfl rfl rfl rfl ?_
              refine Go.Sl.L.off rfl rfl rfl rfl rfl rfl ?_
              refine Go.Sl.L.pu rfl rfl trivial (by first | exact pu_pick_t rfl rfl | exact pu_pick_f rfl rfl) ?_
              refine Go.Sl.L.pu rfl rfl trivial (pu_move rfl) ?_
              refine Go.Sl.L.off rfl rfl rfl rfl rfl rfl ?_
              refine Go.Sl.L.off rfl rfl rfl rfl rfl rfl ?_
              refine Go.Sl.L.off rfl rfl rfl rfl rfl rfl ?_
              refine Go.Sl.L.off rfl rfl rfl rfl rfl rfl ?_
              refine Go.Sl.L.pu rfl rfl trivial (by first | exact pu_pick_t rfl rfl | exact pu_pick_f rfl rfl) ?_
              refine Go.Sl.L.nil ?_
              refine Gs.then_n ?_
              refine Gs.cond_t rfl ?_
              refine Gs.seq ?_
              refine Gs.reg ?_
              refine Go.Sl.L.pu rfl rfl trivial (pu_assign rfl) ?_
              refine Go.Sl.L.nil ?_
              refine Gs.then_n ?_
              refine Gs.ret ?_
              refine Gs.then_r ?_
              exact Gs.fin1 Tryz.results69 rfl _ (⟨by
                rw [hv0, good_no (by
                  first
                    | exact hbad
                    | (rw [hshs, Bool.eq_false_iff]
                       intro h
                       simp only [inShp, Bool.and_eq_true, decide_eq_true_eq] at h
                       first
                         | (have e : x.n < 0 := of_decide_eq_true hg7; omega)
                         | (have e : s.m < x.n := of_decide_eq_true hg14; omega)
                         | (have e : (x.w.xs.length : Int) < s.w := of_decide_eq_true hg20; omega)
                         | (have e : s.mw < (x.w.xs.length : Int) := of_decide_eq_true hg26; omega)
                         | (have e : (x.ss.length : Int) < s.s := of_decide_eq_true hg32; omega)
                         | (have e : s.ms < (x.ss.length : Int) := of_decide_eq_true hc0; omega)))], rfl⟩) (by repeat constructor)
            · skip
              refine Go.Sl.L.pu rfl rfl ⟨_, rfl, rfl⟩ (pu_move rfl) ?_
              refine Go.Sl.L.pu rfl rfl ⟨_, rfl, rfl⟩ (pu_fa fa_152_2 rfl) ?_
              refine Go.Sl.L.rd rfl rfl ⟨_, rfl, rfl⟩ (rd_ld na_3 rfl (Rdc.cl1 (by repeat constructor) rfl)) ?_
              refine Go.Sl.L.pu rfl rfl ⟨_, rfl, rfl⟩ (pu_lt rfl rfl) ?_
              refine Go.Sl.L.pu rfl rfl trivial (by first | exact pu_pick_t rfl rfl | exact pu_pick_f rfl rfl) ?_
              refine Go.Sl.L.puB rfl rfl trivial (pu_move rfl) (fun hg32 => ?_) (fun hg32 => ?_)
              · skip
                refine Go.Sl.L.off rfl rfl rfl rfl rfl rfl ?_
                refine Go.Sl.L.off rfl rfl rfl rfl rfl rfl ?_
                refine Go.Sl.L.off rfl rfl rfl rfl rfl rfl ?_
                refine Go.Sl.L.off rfl rfl rfl rfl rfl rfl ?_
                refine Go.Sl.L.pu rfl rfl trivial (by first | exact pu_pick_t rfl rfl | exact pu_pick_f rfl rfl) ?_
                refine Go.Sl.L.nil ?_
                refine Gs.then_n ?_
                refine Gs.cond_t rfl ?_
                refine Gs.seq ?_
                refine Gs.reg ?_
                refine Go.Sl.L.pu rfl rfl trivial (pu_assign rfl) ?_
                refine Go.Sl.L.nil ?_
                refine Gs.then_n ?_
                refine Gs.ret ?_
                refine Gs.then_r ?_
                exact Gs.fin1 Tryz.results69 rfl _ (⟨by
                  rw [hv0, good_no (by
                    first
                      | exact hbad
                      | (rw [hshs, Bool.eq_false_iff]
                         intro h
                         simp only [inShp, Bool.and_eq_true, decide_eq_true_eq] at h
                         first
                           | (have e : x.n < 0 := of_decide_eq_true hg7; omega)
                           | (have e : s.m < x.n := of_decide_eq_true hg14; omega)
                           | (have e : (x.w.xs.length : Int) < s.w := of_decide_eq_true hg20; omega)
                           | (have e : s.mw < (x.w.xs.length : Int) := of_decide_eq_true hg26; omega)
                           | (have e : (x.ss.length : Int) < s.s := of_decide_eq_true hg32; omega)
                           | (have e : s.ms < (x.ss.length : Int) := of_decide_eq_true hc0; omega)))], rfl⟩) (by repeat constructor)
              · skip
                refine Go.Sl.L.pu rfl rfl ⟨_, rfl, rfl⟩ (pu_move rfl) ?_
                refine Go.Sl.L.pu rfl rfl ⟨_, rfl, rfl⟩ (pu_fa fa_152_3 rfl) ?_
                refine Go.Sl.L.rd rfl rfl ⟨_, rfl, rfl⟩ (rd_ld na_3 rfl (Rdc.cl1 (by repeat constructor) rfl)) ?_
                refine Go.Sl.L.pu rfl rfl ⟨_, rfl, rfl⟩ (pu_gt rfl rfl) ?_
                refine Go.Sl.L.pu rfl rfl trivial (by first | exact pu_pick_t rfl rfl | exact pu_pick_f rfl rfl) ?_
                refine Go.Sl.L.nil ?_
                refine Gs.then_n ?_
                refine Gs.cond rfl (fun hc0 => ?_) (fun hc0 => ?_)
                · skip
                  refine Gs.seq ?_
                  refine Gs.reg ?_
                  refine Go.Sl.L.pu rfl rfl trivial (pu_assign rfl) ?_
                  refine Go.Sl.L.nil ?_
                  refine Gs.then_n ?_
                  refine Gs.ret ?_
                  refine Gs.then_r ?_
                  exact Gs.fin1 Tryz.results69 rfl _ (⟨by
                    rw [hv0, good_no (by
                      first
                        | exact hbad
                        | (rw [hshs, Bool.eq_false_iff]
                           intro h
                           simp only [inShp, Bool.and_eq_true, decide_eq_true_eq] at h
                           first
                             | (have e : x.n < 0 := of_decide_eq_true hg7; omega)
                             | (have e : s.m < x.n := of_decide_eq_true hg14; omega)
                             | (have e : (x.w.xs.length : Int) < s.w := of_decide_eq_true hg20; omega)
                             | (have e : s.mw < (x.w.xs.length : Int) := of_decide_eq_true hg26; omega)
                             | (have e : (x.ss.length : Int) < s.s := of_decide_eq_true hg32; omega)
                             | (have e : s.ms < (x.ss.length : Int) := of_decide_eq_true hc0; omega)))], rfl⟩) (by repeat constructor)
                · skip
                  have hin : shapeB x = true := by
                    rw [hshs]
                    have e7 : ¬ x.n < 0 := of_decide_eq_false hg7
                    have e14 : ¬ s.m < x.n := of_decide_eq_false hg14
                    have e20 : ¬ (x.w.xs.length : Int) < s.w := of_decide_eq_false hg20
                    have e26 : ¬ s.mw < (x.w.xs.length : Int) := of_decide_eq_false hg26
                    have e32 : ¬ (x.ss.length : Int) < s.s := of_decide_eq_false hg32
                    have e37 : ¬ s.ms < (x.ss.length : Int) := of_decide_eq_false hc0
                    simp only [inShp, Bool.and_eq_true, decide_eq_true_eq]
                    omega
                  refine Gs.skip ?_
                  refine Gs.then_n ?_
                  refine Gs.seq ?_
                  refine Gs.reg ?_
                  refine Go.Sl.L.pu rfl rfl trivial (pu_fa fa_26_2 rfl) ?_
                  refine Go.Sl.L.rd rfl rfl trivial (rd_ld na_23 rfl (Rdc.cl1 (by repeat constructor) rfl)) ?_
                  refine Go.Sl.L.ac rfl rfl trivial (as_call (containsS_spec (q := oddB) hA.w (fun l hl => hT.ct fun h0 T => oddT_spec T l (by have := hf2 l hl; omega)) (by show x.ws.length ≤ 1000; omega)) (by repeat constructor) (by repeat constructor)) ?_
                  rintro _ _ ⟨_, ⟨rfl, rfl⟩, rfl⟩
                  refine Go.Sl.L.pu rfl rfl trivial (pu_not rfl) ?_
                  refine Go.Sl.L.puB rfl rfl trivial (pu_move rfl) (fun hg4 => ?_) (fun hg4 => ?_)
                  · skip
                    refine Go.Sl.L.pu rfl rfl ⟨_, rfl, rfl⟩ (pu_fa fa_26_3 rfl) ?_
                    refine Go.Sl.L.rd rfl rfl ⟨_, rfl, rfl⟩ (rd_ld na_24 rfl (Rdc.cl1 (by repeat constructor) rfl)) ?_
                    refine Go.Sl.L.ac rfl rfl ⟨_, rfl, rfl⟩ (as_call (containsA_spec (q := fun y => !goodA oddB d y) hA.s (fun y hy => goodC_spec (ih (hA.sub y hy) (hf4 y hy))) (by omega)) (by repeat constructor) (by repeat constructor)) ?_
                    rintro _ _ ⟨_, ⟨rfl, rfl⟩, rfl⟩
                    refine Go.Sl.L.pu rfl rfl ⟨_, rfl, rfl⟩ (pu_not rfl) ?_
                    refine Go.Sl.L.pu rfl rfl trivial (by first | exact pu_pick_t rfl rfl | exact pu_pick_f rfl rfl) ?_
                    refine Go.Sl.L.pu rfl rfl trivial (pu_assign rfl) ?_
                    refine Go.Sl.L.nil ?_
                    refine Gs.then_n ?_
                    refine Gs.ret ?_
                    exact Gs.fin1 Tryz.results69 rfl _ (⟨by
                      have e1 : (x.ws.all fun w => !oddB w) = !x.w.xs.any oddB := by rw [← List.not_any_eq_all_not]
                      have e2 : x.ss.all (goodA oddB d) = !(x.ss.any fun y => !goodA oddB d y) := by rw [List.not_any_eq_all_not]; congr 1; funext y; rw [Bool.not_not]
                      rw [hv0, good_yes hin, e1, e2]
                      first
                        | rw [show (!x.w.xs.any oddB) = true from hg4, Bool.true_and]
                        | rw [show (!x.w.xs.any oddB) = false from hg4, Bool.false_and], rfl⟩) (by repeat constructor)
                  · skip
                    refine Go.Sl.L.off rfl rfl rfl rfl rfl rfl ?_
                    refine Go.Sl.L.off rfl rfl rfl rfl rfl rfl ?_
                    refine Go.Sl.L.off rfl rfl rfl rfl rfl rfl ?_
                    refine Go.Sl.L.off rfl rfl rfl rfl rfl rfl ?_
                    refine Go.Sl.L.pu rfl rfl trivial (by first | exact pu_pick_t rfl rfl | exact pu_pick_f rfl rfl) ?_
                    refine Go.Sl.L.pu rfl rfl trivial (pu_assign rfl) ?_
                    refine Go.Sl.L.nil ?_
                    refine Gs.then_n ?_
                    refine Gs.ret ?_
                    exact Gs.fin1 Tryz.results69 rfl _ (⟨by
                      have e1 : (x.ws.all fun w => !oddB w) = !x.w.xs.any oddB := by rw [← List.not_any_eq_all_not]
                      have e2 : x.ss.all (goodA oddB d) = !(x.ss.any fun y => !goodA oddB d y) := by rw [List.not_any_eq_all_not]; congr 1; funext y; rw [Bool.not_not]
                      rw [hv0, good_yes hin, e1, e2]
                      first
                        | rw [show (!x.w.xs.any oddB) = true from hg4, Bool.true_and]
                        | rw [show (!x.w.xs.any oddB) = false from hg4, Bool.false_and], rfl⟩) (by repeat constructor)
end Go.Proofs.YtklgiidfompdpaaGreatDoor
namespace Go.Proofs.YtklgiidfompdpaaGreatDoor
open Go Go.Sl Go.Gv Go.Kv Go.Po Go.Ix Go.Qu Go.Shelf
set_option maxRecDepth 100000
/-- May a question be? -/
def mayA (d : Nat) (x : AskV) : Bool := decide (deepA d x ≤ 6) && (decide (termsA d x ≤ 16) && goodA oddB d x)
theorem deep_cast (n : Nat) : decide ((n : Int) ≤ 6) = decide (n ≤ 6) := decide_eq_decide.2 (by omega)
theorem terms_cast (n : Nat) : decide ((n : Int) ≤ 16) = decide (n ≤ 16) := decide_eq_decide.2 (by omega)
theorem mayA_spec {S : HProp} (hT : TabU S) {d : Nat} {x : AskV} (hA : ARd S x) (hF : FewA d x) (hz : sizeA d x ≤ 1000) (hd : d ≤ 1000) :
    Ct Tryz.prog 42 [askV x] [S] (fun v hs => v = .bool (mayA d x) ∧ hs = [S]) := by
  obtain ⟨v0, hv0⟩ : ∃ z, z = mayA d x := ⟨_, rfl⟩
  have hv := hv0
  unfold mayA at hv
  rw [← hv0]
  refine Ct.intro Tryz.func42 rfl (by kernel_rfl) 15 Tryz.ntmps42 (Nat.le_of_ble_eq_true rfl) fun w0 R => ?_
  refine Gs.seq ?_
  refine Gs.reg ?_
  refine Go.Sl.L.ac rfl rfl trivial (ac_box rfl rfl) ?_
  rintro _ _ ⟨xb, rfl, rfl⟩
  refine Go.Sl.L.pu rfl rfl trivial (pu_assign rfl) ?_
  refine Go.Sl.L.nil ?_
  refine Gs.then_n ?_
  refine Gs.seq ?_
  refine Gs.reg ?_
  refine Go.Sl.L.rd rfl rfl trivial (rd_lda ag_26 rfl (Rdc.cl 4 (by repeat constructor) rfl) rfl) ?_
  refine Go.Sl.L.ac rfl rfl trivial (as_call (deepA_spec d hA hF hd) (by repeat constructor) (by repeat constructor)) ?_
  rintro _ _ ⟨_, ⟨rfl, rfl⟩, rfl⟩
  refine Go.Sl.L.pu rfl rfl trivial (pu_le rfl rfl) ?_
  refine Go.Sl.L.puB rfl rfl trivial (pu_move rfl) (fun hg3 => ?_) (fun hg3 => ?_)
  · skip
    refine Go.Sl.L.rd rfl rfl ⟨_, rfl, rfl⟩ (rd_lda ag_26 rfl (Rdc.cl 4 (by repeat constructor) rfl) rfl) ?_
    refine Go.Sl.L.ac rfl rfl ⟨_, rfl, rfl⟩ (as_call (termsA_spec d hA hF hz) (by repeat constructor) (by repeat constructor)) ?_
    rintro _ _ ⟨_, ⟨rfl, rfl⟩, rfl⟩
    refine Go.Sl.L.pu rfl rfl ⟨_, rfl, rfl⟩ (pu_le rfl rfl) ?_
    refine Go.Sl.L.pu rfl rfl trivial (by first | exact pu_pick_t rfl rfl | exact pu_pick_f rfl rfl) ?_
    refine Go.Sl.L.puB rfl rfl trivial (pu_move rfl) (fun hg8 => ?_) (fun hg8 => ?_)
    · skip
      refine Go.Sl.L.rd rfl rfl ⟨_, rfl, rfl⟩ (rd_lda ag_26 rfl (Rdc.cl 4 (by repeat constructor) rfl) rfl) ?_
      refine Go.Sl.L.ac rfl rfl ⟨_, rfl, rfl⟩ (as_call (goodF_spec hT d hA hF) (by repeat constructor) (by repeat constructor)) ?_
      rintro _ _ ⟨_, ⟨rfl, rfl⟩, rfl⟩
      refine Go.Sl.L.pu rfl rfl trivial (by first | exact pu_pick_t rfl rfl | exact pu_pick_f rfl rfl) ?_
      refine Go.Sl.L.pu rfl rfl trivial (pu_assign rfl) ?_
      refine Go.Sl.L.nil ?_
      refine Gs.then_n ?_
      refine Gs.ret ?_
      exact Gs.fin1 Tryz.results42 rfl _ (⟨by
        rw [← deep_cast, ← terms_cast] at hv
        first
          | rw [hv, hg3, hg8]; rfl
          | rw [hv, hg3, hg8, Bool.true_and, Bool.true_and]
          | rw [hv, hg3, hg8, Bool.true_and, Bool.false_and]
          | rw [hv, hg3, Bool.false_and], rfl⟩) (by repeat constructor)
    · skip
      refine Go.Sl.L.off rfl rfl rfl rfl rfl rfl ?_
      refine Go.Sl.L.off rfl rfl rfl rfl rfl rfl ?_
      refine Go.Sl.L.pu rfl rfl trivial (by first | exact pu_pick_t rfl rfl | exact pu_pick_f rfl rfl) ?_
      refine Go.Sl.L.pu rfl rfl trivial (pu_assign rfl) ?_
      refine Go.Sl.L.nil ?_
      refine Gs.then_n ?_
      refine Gs.ret ?_
      exact Gs.fin1 Tryz.results42 rfl _ (⟨by
        rw [← deep_cast, ← terms_cast] at hv
        first
          | rw [hv, hg3, hg8]; rfl
          | rw [hv, hg3, hg8, Bool.true_and, Bool.true_and]
          | rw [hv, hg3, hg8, Bool.true_and, Bool.false_and]
          | rw [hv, hg3, Bool.false_and], rfl⟩) (by repeat constructor)
  · skip
    refine Go.Sl.L.off rfl rfl rfl rfl rfl rfl ?_
    refine Go.Sl.L.off rfl rfl rfl rfl rfl rfl ?_
    refine Go.Sl.L.off rfl rfl rfl rfl rfl rfl ?_
    refine Go.Sl.L.pu rfl rfl trivial (by first | exact pu_pick_t rfl rfl | exact pu_pick_f rfl rfl) ?_
    refine Go.Sl.L.pu rfl rfl trivial (pu_move rfl) ?_
    refine Go.Sl.L.off rfl rfl rfl rfl rfl rfl ?_
    refine Go.Sl.L.off rfl rfl rfl rfl rfl rfl ?_
    refine Go.Sl.L.pu rfl rfl trivial (by first | exact pu_pick_t rfl rfl | exact pu_pick_f rfl rfl) ?_
    refine Go.Sl.L.pu rfl rfl trivial (pu_assign rfl) ?_
    refine Go.Sl.L.nil ?_
    refine Gs.then_n ?_
    refine Gs.ret ?_
    exact Gs.fin1 Tryz.results42 rfl _ (⟨by
      rw [← deep_cast, ← terms_cast] at hv
      first
        | rw [hv, hg3, hg8]; rfl
        | rw [hv, hg3, hg8, Bool.true_and, Bool.true_and]
        | rw [hv, hg3, hg8, Bool.true_and, Bool.false_and]
        | rw [hv, hg3, Bool.false_and], rfl⟩) (by repeat constructor)
end Go.Proofs.YtklgiidfompdpaaGreatDoor
namespace Go.Proofs
open Go.Shelf
namespace YtklgiidfompdpaaGreatDoor
open Go Go.Sl Go.Gv Go.Kv Go.Sort Go.Po
set_option maxRecDepth 100000
theorem grow2P (w : World) (o o' : Obj) : (w.alloc o).alloc o' = grow w #[o, o'] := by rw [alloc_eq_grow, alloc_eq_grow, grow_grow]; rfl
theorem before_exactP (a1 a2 b1 b2 : Int) (w : World) : Calls Tryz.prog 137 #[.agg #[.int .i64 a1, .int .i64 a2], .agg #[.int .i64 b1, .int .i64 b2]] w fun e w' => e = .returned (.bool (before ⟨a1, a2⟩ ⟨b1, b2⟩)) ∧ ∃ os, w' = grow w os := by
  by_cases h : a1 = b1
  · go_enter Tryz.func137, Tryz.ntmps137
    subst h
    go_wp2
    go_ret
    exact ⟨by simp [before], _, grow2P ..⟩
  · go_enter Tryz.func137, Tryz.ntmps137
    go_wp2
    go_ret
    exact ⟨by simp [before, h], _, grow2P ..⟩
/-- The world behind a call: grown, with the boxes as they were. -/
def GrwP (w w' : World) : Prop := ∃ os, w' = grow w os
def AftP (a1 a2 b1 b2 : Int) (w w' : World) : Prop := GrwP w w' ∧ w'.cell? ⟨w.heap.size, 0, none⟩ = some (.int .i64 a1) ∧ w'.cell? ⟨w.heap.size, 1, none⟩ = some (.int .i64 a2) ∧ w'.cell? ⟨w.heap.size + 1, 0, none⟩ = some (.int .i64 b1) ∧ w'.cell? ⟨w.heap.size + 1, 1, none⟩ = some (.int .i64 b2)
theorem heap2P (w : World) (o o' : Obj) : ((w.alloc o).alloc o').heap[w.heap.size]? = some o ∧ ((w.alloc o).alloc o').heap[w.heap.size + 1]? = some o' := by
  constructor
  · show ((w.heap.push o).push o')[w.heap.size]? = _
    rw [Array.getElem?_push_lt (by simp)]; simp
  · show ((w.heap.push o).push o')[w.heap.size + 1]? = _
    have : w.heap.size + 1 = (w.heap.push o).size := by simp
    rw [this, Array.getElem?_push_size]
theorem size2P (w : World) (o o' : Obj) : ((w.alloc o).alloc o').heap.size = w.heap.size + 2 := by show ((w.heap.push o).push o').size = _; simp
theorem aft_ofP (a1 a2 b1 b2 : Int) (w : World) (os : Array Obj) : AftP a1 a2 b1 b2 w (grow ((w.alloc (.cells #[.int .i64 a1, .int .i64 a2, .slice none 0 0] 106)).alloc (.cells #[.int .i64 b1, .int .i64 b2] 28)) os) := by
  obtain ⟨h1, h2⟩ := heap2P w (.cells #[.int .i64 a1, .int .i64 a2, .slice none 0 0] 106) (.cells #[.int .i64 b1, .int .i64 b2] 28)
  have hs := size2P w (.cells #[.int .i64 a1, .int .i64 a2, .slice none 0 0] 106) (.cells #[.int .i64 b1, .int .i64 b2] 28)
  refine ⟨⟨_, by rw [grow2P, grow_grow]⟩, ?_, ?_, ?_, ?_⟩
  · rw [cell?_grow _ _ _ (by rw [hs]; show w.heap.size < _; omega)]; unfold World.cell?; dsimp only; rw [h1]; rfl
  · rw [cell?_grow _ _ _ (by rw [hs]; show w.heap.size < _; omega)]; unfold World.cell?; dsimp only; rw [h1]; rfl
  · rw [cell?_grow _ _ _ (by rw [hs]; show w.heap.size + 1 < _; omega)]; unfold World.cell?; dsimp only; rw [h2]; rfl
  · rw [cell?_grow _ _ _ (by rw [hs]; show w.heap.size + 1 < _; omega)]; unfold World.cell?; dsimp only; rw [h2]; rfl
set_option maxHeartbeats 800000 in
theorem order_exact (a1 a2 b1 b2 : Int) (w : World) : Calls Tryz.prog 102 #[.agg #[.int .i64 a1, .int .i64 a2, .slice none 0 0], .agg #[.int .i64 b1, .int .i64 b2]] w fun e w' => e = .returned (.int .i64 (ordZ ⟨a1, a2⟩ ⟨b1, b2⟩)) ∧ ∃ os, w' = grow w os := by
  have hB : Calls Tryz.prog 137 #[.agg #[.int .i64 a1, .int .i64 a2], .agg #[.int .i64 b1, .int .i64 b2]] ((w.alloc (.cells #[.int .i64 a1, .int .i64 a2, .slice none 0 0] 106)).alloc (.cells #[.int .i64 b1, .int .i64 b2] 28)) fun e w' => e = .returned (.bool (before ⟨a1, a2⟩ ⟨b1, b2⟩)) ∧ AftP a1 a2 b1 b2 w w' := by
    refine (before_exactP a1 a2 b1 b2 _).mono ?_
    rintro e w' ⟨h, os, rfl⟩
    exact ⟨h, aft_ofP ..⟩
  have hC := fun W => before_exactP b1 b2 a1 a2 W
  unfold ordZ
  generalize before ⟨a1, a2⟩ ⟨b1, b2⟩ = B at hB ⊢
  generalize before ⟨b1, b2⟩ ⟨a1, a2⟩ = C at hC ⊢
  go_enter Tryz.func102, Tryz.ntmps102
  cases B
  · cases C
    · go_wp2_with (go_at_call 137; first | (with_reducible refine (hC _).mono ?_; rintro e w'' ⟨rfl, os2, rfl⟩) | (refine hB.mono ?_; rintro e w' ⟨rfl, hG, c0, c1, d0, d1⟩))
      go_ret
      obtain ⟨os, rfl⟩ := hG
      exact ⟨by simp, _, by rw [grow_grow]⟩
    · go_wp2_with (go_at_call 137; first | (with_reducible refine (hC _).mono ?_; rintro e w'' ⟨rfl, os2, rfl⟩) | (refine hB.mono ?_; rintro e w' ⟨rfl, hG, c0, c1, d0, d1⟩))
      go_ret
      obtain ⟨os, rfl⟩ := hG
      exact ⟨by simp, _, by rw [grow_grow]⟩
  · go_wp2_with (go_at_call 137; refine hB.mono ?_; rintro e w' ⟨rfl, hG, c0, c1, d0, d1⟩)
    go_ret
    obtain ⟨os, rfl⟩ := hG
    exact ⟨by simp, _, rfl⟩
theorem or1_exact (a1 a2 b1 b2 : Int) (w : World) : Calls Tryz.prog 177 #[.agg #[.int .i64 a1, .int .i64 a2], .agg #[.int .i64 b1, .int .i64 b2]] w fun e w' => e = .returned (.int .i64 (ordZ ⟨a1, a2⟩ ⟨b1, b2⟩)) ∧ ∃ os, w' = grow w os := by
  have hB := fun W => order_exact a1 a2 b1 b2 W
  go_enter Tryz.func177, Tryz.ntmps177
  go_wp2_with (go_at_call 102; refine (hB _).mono ?_; rintro e w' ⟨rfl, os, rfl⟩)
  go_ret
  exact ⟨by simp, _, by rw [grow2P, grow_grow]⟩
end YtklgiidfompdpaaGreatDoor
end Go.Proofs
namespace Go.Proofs
open Go.Shelf
namespace YtklgiidfompdpaaGreatDoor
open Go Go.Sl Go.Gv Go.Kv Go.Sort Go.Po
set_option maxRecDepth 100000
instance instKeyO : Inhabited Key := ⟨⟨0, 0⟩⟩
def cfO (a b : Key) : Int := ordZ a b
theorem ltOf_cfO (x y : Key) : ltOf cfO x y = before x y := by
  unfold ltOf cfO; exact ordZ_lt
theorem swo_keyO : SWO (ltOf cfO) where
  irrefl x := by rw [ltOf_cfO]; exact before_irr
  trans x y z h1 h2 := by rw [ltOf_cfO] at *; exact before_trans h1 h2
  ntrans x y z h1 h2 := by rw [ltOf_cfO] at *; rw [before_not] at *; omega
theorem tot_keyO (x y : Key) (h1 : ltOf cfO x y = false) (h2 : ltOf cfO y x = false) : x = y := by
  rw [ltOf_cfO] at *; rw [before_not] at *
  cases x; cases y; simp at *; omega
/-- In order, each as often as it is there. -/
def sortM (l : List Key) : List Key := l.mergeSort fun x y => !before y x
theorem sortM_length {l : List Key} : (sortM l).length = l.length := List.length_mergeSort ..
theorem sortO_spec (a : Option Addr) (c : Nat) (xs : List Key) (hl : xs.length ≤ 100000) : Ct Tryz.prog 135 [.slice a xs.length c, .func (.func 177) #[] #[]] [sl 28 2 keyC a c xs]
    (fun v hs => v = .tuple #[] ∧ hs = [sl 28 2 keyC a c (sortM xs)]) := by
  refine ⟨enters_of Tryz.func135 (by kernel_rfl) rfl _, fun w0 w R s => ?_⟩
  by_cases he : xs = []
  · subst he
    refine (AnyF.slices_SortFunc_none { Tryz.sortKeys with } a c (.func (.func 177) #[] #[]) w).mono ?_
    rintro e w' ⟨rfl, rfl⟩
    exact ⟨_, _, rfl, ⟨rfl, rfl⟩, by rw [show sortM ([] : List Key) = [] from List.mergeSort_nil]; exact s⟩
  · obtain ⟨b, off, ha, -⟩ := (SlH.own .hd : SlH w0 ([sl 28 2 keyC a c xs] ++ R) 2 keyC a xs) w s he
    subst ha
    obtain ⟨hH, hb⟩ := sl_holds ek_28 s
    have eg : ∀ args w, (callFunc 177 args).run Tryz.prog w = .ok (.enter 177 args) w := enters_of Tryz.func177 (by kernel_rfl) rfl
    have hS := AnyQ.slices_SortFunc_total (P := Tryz.prog) { Tryz.sortKeys with } 2 Tryz.isAgg28 Tryz.sizeOf28 keyC (fun _ => rfl) ek_28.one cfO swo_keyO 177 #[] b off c xs.toArray w eg
      (fun m os dk _ x y => (or1_exact x.o x.q y.o y.q _).mono fun e w' ⟨h1, os', h2⟩ => ⟨h1, 0, os', h2⟩) hH hb (by simp; omega) tot_keyO
    refine hS.mono ?_
    rintro e w' ⟨rfl, n, os, rfl⟩
    refine ⟨_, _, rfl, ⟨rfl, rfl⟩, ?_⟩
    have hm : (xs.toArray.toList.mergeSort fun x y => !(ltOf cfO) y x) = sortM xs := by
      have e : (fun x y : Key => !(ltOf cfO) y x) = fun x y => !before y x := by funext x y; rw [ltOf_cfO]
      rw [e]; rfl
    rw [hm]
    exact sl_sorted ek_28 sortM_length s
end YtklgiidfompdpaaGreatDoor
end Go.Proofs
