/- What the closing leans on: part 8. -/
import Derived.Test.YtklgiidfompdpaaGreatDoorYg
import Derived.Lib.MapLaws
import Derived.Lib.ValidLaws
import Derived.Laws.Cover4
import Derived.Laws.IdiomStrings
import Derived.Shelf.Strings.FuncGrows
import Derived.Shelf.Strconv.Itoa3
import Derived.Shelf.Strings.OnBuilder
import Derived.Test.YtklgiidfompdpaaGreatDoorProg
import Derived.Test.YtklgiidfompdpaaGreatDoorYc
import Derived.Test.YtklgiidfompdpaaGreatDoorYd
import Derived.Test.YtklgiidfompdpaaGreatDoorYe
import Derived.Sort.Grow
import Derived.WalkMore
namespace Go.Qu
open Go Go.Sl Go.Gv Go.Ix
theorem part_le {l : List AskV} {f : AskV → Nat} {i : Nat} {y : AskV} (h : l[i]? = some y) : ((l.take i).map f).sum + f y ≤ (l.map f).sum := by
 rw [← sum_take h]
 have e : l = l.take (i + 1) ++ l.drop (i + 1) := (List.take_append_drop _ _).symm
 have : (l.map f).sum = ((l.take (i + 1)).map f).sum + ((l.drop (i + 1)).map f).sum := by rw [← List.sum_append, ← List.map_append, ← e]
 omega
theorem terms_part (d : Nat) (l : List AskV) (hl : ∀ x ∈ l, FewA d x) : (l.map (termsA d)).sum ≤ 30 * (l.map (sizeA d)).sum := by
 induction l with
 | nil => exact Nat.le_refl _
 | cons x l ih =>
   have e1 := ih fun y hy => hl y (by simp [hy])
   have e2 := terms_le d x (hl x (by simp))
   simp only [List.map_cons, List.sum_cons]; omega
end Go.Qu
namespace Go.Proofs.YtklgiidfompdpaaGreatDoor
open Go Go.Sl Go.Gv Go.Kv Go.Po Go.Ix Go.Qu
set_option maxRecDepth 100000
theorem terms14_spec {S : HProp} : ∀ (d : Nat) {x : AskV} (hA : ARd S x) (hF : FewA d x) (hz : sizeA d x ≤ 1000),
   Ct Tryz.prog 57 [askV x] [S] (fun v hs => v = int (termsA d x : Nat) ∧ hs = [S])
 | 0, x, hA, hF, hz => hF.elim
 | d + 1, x, hA, hF, hz => by
   have ih := @terms14_spec S d
   have htl := terms_le (d + 1) x hF
   obtain ⟨hf1, hf2, hf3, hf4⟩ := hF
   obtain ⟨v0, hv0⟩ : ∃ z, z = termsA (d + 1) x := ⟨_, rfl⟩
   have hvd : v0 = if x.ss = [] then max x.ws.length 1 else (x.ss.map (termsA d)).sum := hv0
   have hsz : 1 + (x.ss.map (sizeA d)).sum ≤ 1000 := hz
   have hsl := sum_len d x.ss
   rw [← hv0] at htl ⊢
   refine Cti Tryz.func57 (by kernel_rfl) 29 Tryz.ntmps57 rfl rfl fun w0 R => ?_
   refine Gs.slAddr (hA.s.h (by repeat constructor)) fun ab ao ha => ?_
   refine Gsr (La rfl (ac_box rfl rfl) ?_)
   rintro _ _ ⟨xb, rfl, rfl⟩
   refine Las rfl rfl (Lnt (Gs.seq (Gsr (Lq rfl (pu_fa fa_26_3 rfl) (Lr rfl (rd_ld na_24 rfl (Rdc.cl1 (by repeat constructor) rfl)) ?_)))))
   refine Lq rfl (pu_len Tryz.underlying24 rfl) (Lq rfl (pu_eq rfl rfl) (Lnt (Gs.cond rfl (fun hc0 => ?_) (fun hc0 => ?_))))
   ·
    have he : x.ss = [] := by have := of_decide_eq_true hc0; exact List.length_eq_zero_iff.1 (by omega)
    rw [if_pos he] at hvd
    refine Gsr (Lq rfl (pu_fa fa_26_2 rfl) (Lr rfl (rd_ld na_23 rfl (Rdc.cl1 (by repeat constructor) rfl)) ?_))
    refine Lq rfl (pu_len Tryz.underlying23 rfl) (Lq rfl (pu_max rfl rfl) ?_)
    rw [show max ((x.w.xs.length : Nat) : Int) (1 : Int) = ((v0 : Nat) : Int) by rw [hvd]; show max ((x.w.xs.length : Nat) : Int) (1 : Int) = ((max x.w.xs.length 1 : Nat) : Int); omega]
    refine Las rfl rfl (Lnt (Gs.ret (Gr ?_)))
    exact Gs.fin1 Tryz.results57 rfl _ (⟨rfl, rfl⟩) (by repeat constructor)
   have he : ¬ x.ss = [] := fun e => by have := of_decide_eq_false hc0; rw [e] at this; exact this rfl
   rw [if_neg he] at hvd
   have hsa := ha he
   have hs := hA.s
   rw [hsa] at hs
   refine Gs.skip (Gn (Gsr (Las rfl rfl (Lnt (Gs.seq (Gsr (Las rfl rfl (Lnt (Gs.block (Gs.loop1 (fun i : Nat => i ≤ x.ss.length) (fun i => [(1, ptr xb), (3, int (((x.ss.take i).map (termsA d)).sum : Nat)), (4, int i)]) (fun i => [cl xb 26 (askC x), S] ++ R) (fun i => x.ss.length - i) 0 (Nat.zero_le _) (by repeat constructor) (by repeat constructor) (fun i hi => ?_)))))))))))
   refine Gs.seq (Gsr (Lmv rfl rfl (Lq rfl (pu_fa fa_26_3 rfl) (Lr rfl (rd_ld na_24 rfl (Rdc.cl1 (by repeat constructor) rfl)) ?_))))
   refine Lq rfl (pu_len Tryz.underlying24 rfl) (Lq rfl (pu_lt rfl rfl) (Lnt (Gs.cond rfl (fun hc1 => ?_) (fun hc1 => ?_))))
   ·
    have hlt : i < x.ss.length := by have := of_decide_eq_true hc1; omega
    obtain ⟨y, hy⟩ : ∃ y, x.ss[i]? = some y := ⟨x.ss[i], by simp [hlt]⟩
    have hym := List.mem_of_getElem? hy
    have hyt := terms_le d y (hf4 y hym)
    have hpt := part_le hy (f := sizeA d)
    have hpm := terms_part d (x.ss.take i) (fun z hz => hf4 z (List.mem_of_mem_take hz))
    refine Gs.skip (Gn (Gs.seq (Gs.block (Gs.reg (Lmv rfl rfl (Lq rfl (pu_fa fa_26_3 rfl) (Lr rfl (rd_ld na_24 rfl (Rdc.cl1 (by repeat constructor) rfl)) ?_)))))))
    rw [hsa]
    refine Lmv rfl rfl (Lq rfl (pu_ia se_24 rfl rfl (by omega) (by omega)) (Lr rfl (rd_lda ag_26 rfl (Rdc.el0 (hs.h (by repeat constructor)) hy rfl rfl) rfl) ?_))
    refine La rfl (asC (ih (hA.sub y hym) (hf4 y hym) (by omega))) ?_
    rintro _ _ ⟨_, ⟨rfl, rfl⟩, rfl⟩
    refine Lq rfl (pu_addI (z := ((((x.ss.take (i + 1)).map (termsA d)).sum : Nat) : Int)) rfl rfl (by rw [sum_take hy]; omega) (by omega) (by omega)) ?_
    refine Las rfl rfl (Lnil (Gs.blk_n (Gn (Gs.reg (Lmv rfl rfl (Lq rfl (pu_addI (z := ((i + 1 : Nat) : Int)) rfl rfl (by omega) (by omega) (by omega)) ?_))))))
    refine Las rfl rfl (Lnt ?_)
    exact Ag (i + 1) (by omega) (by omega)
   have hge : i = x.ss.length := by have := of_decide_eq_false hc1; omega
   rw [hge, List.take_length, ← hvd]
   refine Gs.exit (Gx (Gx (Gs.blk_hit (Gn (Gsr (Lmv rfl rfl (Las rfl rfl (Lnt (Gs.ret ?_)))))))))
   exact Gs.fin1 Tryz.results57 rfl _ (⟨rfl, rfl⟩) (by repeat constructor)
theorem termsA_spec {S : HProp} : ∀ (d : Nat) {x : AskV} (hA : ARd S x) (hF : FewA d x) (hz : sizeA d x ≤ 1000),
   Ct Tryz.prog 68 [askV x] [S] (fun v hs => v = int (termsA d x : Nat) ∧ hs = [S])
 | 0, x, hA, hF, hz => hF.elim
 | d + 1, x, hA, hF, hz => by
   have ih := @termsA_spec S d
   have htl := terms_le (d + 1) x hF
   obtain ⟨hf1, hf2, hf3, hf4⟩ := hF
   obtain ⟨v0, hv0⟩ : ∃ z, z = termsA (d + 1) x := ⟨_, rfl⟩
   have hvd : v0 = if x.ss = [] then max x.ws.length 1 else (x.ss.map (termsA d)).sum := hv0
   have hsz : 1 + (x.ss.map (sizeA d)).sum ≤ 1000 := hz
   have hsl := sum_len d x.ss
   rw [← hv0] at htl ⊢
   refine Cti Tryz.func68 (by kernel_rfl) 27 Tryz.ntmps68 rfl rfl fun w0 R => ?_
   refine Gs.slAddr (hA.s.h (by repeat constructor)) fun ab ao ha => ?_
   refine Gsr (La rfl (ac_box rfl rfl) ?_)
   rintro _ _ ⟨xb, rfl, rfl⟩
   refine Las rfl rfl (Lnt (Gs.seq (Gsr (Lq rfl (pu_fa fa_26_3 rfl) (Lr rfl (rd_ld na_24 rfl (Rdc.cl1 (by repeat constructor) rfl)) ?_)))))
   refine Lq rfl (pu_len Tryz.underlying24 rfl) (Lq rfl (pu_eq rfl rfl) (Lnt (Gs.cond rfl (fun hc0 => ?_) (fun hc0 => ?_))))
   ·
    have he : x.ss = [] := by have := of_decide_eq_true hc0; exact List.length_eq_zero_iff.1 (by omega)
    rw [if_pos he] at hvd
    refine Gsr (Lq rfl (pu_fa fa_26_2 rfl) (Lr rfl (rd_ld na_23 rfl (Rdc.cl1 (by repeat constructor) rfl)) ?_))
    refine Lq rfl (pu_len Tryz.underlying23 rfl) (Lq rfl (pu_max rfl rfl) ?_)
    rw [show max ((x.w.xs.length : Nat) : Int) (1 : Int) = ((v0 : Nat) : Int) by rw [hvd]; show max ((x.w.xs.length : Nat) : Int) (1 : Int) = ((max x.w.xs.length 1 : Nat) : Int); omega]
    refine Las rfl rfl (Lnt (Gs.ret (Gr ?_)))
    exact Gs.fin1 Tryz.results68 rfl _ (⟨rfl, rfl⟩) (by repeat constructor)
   have he : ¬ x.ss = [] := fun e => by have := of_decide_eq_false hc0; rw [e] at this; exact this rfl
   rw [if_neg he] at hvd
   have hsa := ha he
   have hs := hA.s
   rw [hsa] at hs
   refine Gs.skip (Gn (Gsr (Las rfl rfl (Lnt (Gs.seq (Gsr (Lq rfl (pu_fa fa_26_3 rfl) (Lr rfl (rd_ld na_24 rfl (Rdc.cl1 (by repeat constructor) rfl)) ?_))))))))
   refine Lq rfl (pu_len Tryz.underlying24 rfl) (Lmv rfl rfl (Lnt (Gs.block (Gs.loop1 (fun i : Nat => i ≤ x.ss.length) (fun i => [(1, ptr xb), (3, int (((x.ss.take i).map (termsA d)).sum : Nat)), (15, .slice x.sa x.ss.length x.sc), (16, int x.ss.length), (17, int i)]) (fun i => [cl xb 26 (askC x), S] ++ R) (fun i => x.ss.length - i) 0 (Nat.zero_le _) (by repeat constructor) (by repeat constructor) (fun i hi => ?_)))))
   refine Gsr (Lq rfl (pu_lt rfl rfl) (Lnt (Gs.seq (Gs.cond rfl (fun hc1 => ?_) (fun hc1 => ?_)))))
   ·
    have hlt : i < x.ss.length := by have := of_decide_eq_true hc1; omega
    obtain ⟨y, hy⟩ : ∃ y, x.ss[i]? = some y := ⟨x.ss[i], by simp [hlt]⟩
    have hym := List.mem_of_getElem? hy
    have hyt := terms_le d y (hf4 y hym)
    have hpt := part_le hy (f := sizeA d)
    rw [hsa]
    have hpm := terms_part d (x.ss.take i) (fun z hz => hf4 z (List.mem_of_mem_take hz))
    refine Gs.skip (Gn (Gs.seq (Gs.block (Gsr (Lq rfl (pu_ia se_24 rfl rfl (by omega) (by omega)) (Lr rfl (rd_lda ag_26 rfl (Rdc.el0 (hs.h (by repeat constructor)) hy rfl rfl) rfl) ?_))))))
    refine La rfl (ac_alloc zv_26 rfl) ?_
    rintro _ _ ⟨vb, rfl, rfl⟩
    refine Lac0 rfl trivial (ac_st sz_26 rfl rfl (by repeat constructor) rfl rfl rfl rfl) ?_
    rintro _ _ rfl
    refine Lnt (Gs.reg (Lmv rfl rfl (Lr rfl (rd_lda ag_26 rfl (Rdc.cl 4 (by repeat constructor) rfl) rfl) ?_)))
    refine La rfl (asC (ih (hA.sub y hym) (hf4 y hym) (by omega))) ?_
    rintro _ _ ⟨_, ⟨rfl, rfl⟩, rfl⟩
    refine Lq rfl (pu_addI (z := ((((x.ss.take (i + 1)).map (termsA d)).sum : Nat) : Int)) rfl rfl (by rw [sum_take hy]; omega) (by omega) (by omega)) ?_
    refine Las rfl rfl (Lnil (Gs.blk_n (Gn (Gs.reg (Lq rfl (pu_addI (z := ((i + 1 : Nat) : Int)) rfl rfl (by omega) (by omega) (by omega)) ?_)))))
    refine Lmv rfl rfl (Lnt ?_)
    rw [← hsa]
    exact Ag (i + 1) (by omega) (by omega)
   have hge : i = x.ss.length := by have := of_decide_eq_false hc1; omega
   rw [hge, List.take_length, ← hvd]
   refine Gs.exit (Gx (Gx (Gs.blk_hit (Gn (Gsr (Lmv rfl rfl (Las rfl rfl (Lnt (Gs.ret ?_)))))))))
   exact Gs.fin1 Tryz.results68 rfl _ (⟨rfl, rfl⟩) (by repeat constructor)
end Go.Proofs.YtklgiidfompdpaaGreatDoor
namespace Go.Ix
open Go Go.Lib
end Go.Ix
namespace Go.Proofs.YtklgiidfompdpaaGreatDoor
open Go Go.Sl Go.Gv Go.Kv Go.Po Go.Ix
end Go.Proofs.YtklgiidfompdpaaGreatDoor
namespace Go.Sl
open Go
section
variable {P : Program} {w0 : World} {env : Env} {H : List HProp} {d : Option Tmp} {x : Operand} {src dst e ty : TypeId} {pos : String} {af : Array Edge} {g : Option (Nat × Bool)}
end
end Go.Sl
namespace Go.Ix
open Go Go.Lib
end Go.Ix
namespace Go.Proofs.YtklgiidfompdpaaGreatDoor
open Go Go.Sl Go.Gv Go.Kv Go.Po Go.Ix
set_option maxRecDepth 100000
end Go.Proofs.YtklgiidfompdpaaGreatDoor
namespace Go.Proofs.YtklgiidfompdpaaGreatDoor
open Go Go.Sl Go.Gv Go.Kv Go.Po Go.Ix
set_option maxRecDepth 100000
end Go.Proofs.YtklgiidfompdpaaGreatDoor
namespace Go.Proofs
open Go.Shelf
def Tryz.laysCF_ren : Go.Shelf.Ren := ⟨fun | 17 => 207 | 15 => 252 | 20 => 271 | n => n, fun | 9 => 9 | 23 => 114 | 4 => 4 | 3 => 3 | 0 => 0 | 21 => 21 | n => n, fun | n => n⟩
theorem Tryz.laysCF : Go.Proofs.LaysGw.n17 Tryz.prog Tryz.laysCF_ren := {
 mixed := by kernel_rfl
 f15 := Tryz.func252.trans (congrArg some (by kernel_rfl))
 f17 := Tryz.func207.trans (congrArg some (by kernel_rfl))
 f20 := Tryz.func271.trans (congrArg some (by kernel_rfl))
 t0 := Tryz.underlying0
 a0 := Tryz.isAgg0
 z0 := Tryz.sizeOf0
 v0 := Tryz.zeroValue0
 i0 := by kernel_rfl
 t3 := Tryz.underlying3
 a3 := Tryz.isAgg3
 z3 := Tryz.sizeOf3
 v3 := Tryz.zeroValue3
 i3 := by kernel_rfl
 t4 := Tryz.underlying4
 a4 := Tryz.isAgg4
 z4 := Tryz.sizeOf4
 v4 := Tryz.zeroValue4
 i4 := by kernel_rfl
 t9 := Tryz.underlying9
 a9 := Tryz.isAgg9
 z9 := Tryz.sizeOf9
 v9 := Tryz.zeroValue9
 i9 := by kernel_rfl
 t21 := Tryz.underlying21
 a21 := Tryz.isAgg21
 z21 := Tryz.sizeOf21
 v21 := Tryz.zeroValue21
 i21 := by kernel_rfl
 t23 := Tryz.underlying114
 a23 := Tryz.isAgg114
 z23 := Tryz.sizeOf114
 v23 := Tryz.zeroValue114
 i23 := by kernel_rfl }
def Tryz.laysItoa_ren : Go.Shelf.Ren := ⟨fun | 171 => 155 | 243 => 201 | 246 => 249 | 283 => 265 | 284 => 266 | 285 => 267 | 286 => 268 | 129 => 194 | 317 => 275 | 318 => 276 | 319 => 277 | 320 => 278 | 337 => 279 | 338 => 280 | n => n, fun | 3 => 3 | 9 => 9 | 2 => 2 | 4 => 4 | 171 => 298 | 0 => 0 | 53 => 229 | 37 => 174 | 5 => 5 | 173 => 300 | 212 => 309 | 51 => 193 | 20 => 20 | 213 => 310 | 46 => 185 | 232 => 311 | 233 => 312 | n => n, fun | 17 => 6 | 18 => 8 | 19 => 9 | n => n⟩
theorem Tryz.laysItoa : Go.Proofs.LaysM.n171 Tryz.prog Tryz.laysItoa_ren := {
 mixed := by kernel_rfl
 f129 := Tryz.func194.trans (congrArg some (by kernel_rfl))
 f171 := Tryz.func155.trans (congrArg some (by kernel_rfl))
 f243 := Tryz.func201.trans (congrArg some (by kernel_rfl))
 f246 := Tryz.func249.trans (congrArg some (by kernel_rfl))
 f283 := Tryz.func265.trans (congrArg some (by kernel_rfl))
 f284 := Tryz.func266.trans (congrArg some (by kernel_rfl))
 f285 := Tryz.func267.trans (congrArg some (by kernel_rfl))
 f286 := Tryz.func268.trans (congrArg some (by kernel_rfl))
 f317 := Tryz.func275.trans (congrArg some (by kernel_rfl))
 f318 := Tryz.func276.trans (congrArg some (by kernel_rfl))
 f319 := Tryz.func277.trans (congrArg some (by kernel_rfl))
 f320 := Tryz.func278.trans (congrArg some (by kernel_rfl))
 f337 := Tryz.func279.trans (congrArg some (by kernel_rfl))
 f338 := Tryz.func280.trans (congrArg some (by kernel_rfl))
 t0 := Tryz.underlying0
 a0 := Tryz.isAgg0
 z0 := Tryz.sizeOf0
 v0 := Tryz.zeroValue0
 t2 := Tryz.underlying2
 a2 := Tryz.isAgg2
 z2 := Tryz.sizeOf2
 v2 := Tryz.zeroValue2
 t3 := Tryz.underlying3
 a3 := Tryz.isAgg3
 z3 := Tryz.sizeOf3
 v3 := Tryz.zeroValue3
 t4 := Tryz.underlying4
 a4 := Tryz.isAgg4
 z4 := Tryz.sizeOf4
 v4 := Tryz.zeroValue4
 t5 := Tryz.underlying5
 a5 := Tryz.isAgg5
 z5 := Tryz.sizeOf5
 v5 := Tryz.zeroValue5
 t9 := Tryz.underlying9
 a9 := Tryz.isAgg9
 z9 := Tryz.sizeOf9
 v9 := Tryz.zeroValue9
 t20 := Tryz.underlying20
 a20 := Tryz.isAgg20
 z20 := Tryz.sizeOf20
 v20 := Tryz.zeroValue20
 t37 := Tryz.underlying174
 a37 := Tryz.isAgg174
 z37 := Tryz.sizeOf174
 v37 := Tryz.zeroValue174
 t46 := Tryz.underlying185
 a46 := Tryz.isAgg185
 z46 := Tryz.sizeOf185
 v46 := Tryz.zeroValue185
 t51 := Tryz.underlying193
 a51 := Tryz.isAgg193
 z51 := Tryz.sizeOf193
 v51 := Tryz.zeroValue193
 t53 := Tryz.underlying229
 a53 := Tryz.isAgg229
 z53 := Tryz.sizeOf229
 v53 := Tryz.zeroValue229
 t171 := Tryz.underlying298
 a171 := Tryz.isAgg298
 z171 := Tryz.sizeOf298
 v171 := Tryz.zeroValue298
 t173 := Tryz.underlying300
 a173 := Tryz.isAgg300
 z173 := Tryz.sizeOf300
 v173 := Tryz.zeroValue300
 t212 := Tryz.underlying309
 a212 := Tryz.isAgg309
 z212 := Tryz.sizeOf309
 v212 := Tryz.zeroValue309
 t213 := Tryz.underlying310
 a213 := Tryz.isAgg310
 z213 := Tryz.sizeOf310
 t232 := Tryz.underlying311
 a232 := Tryz.isAgg311
 z232 := Tryz.sizeOf311
 v232 := Tryz.zeroValue311
 t233 := Tryz.underlying312
 a233 := Tryz.isAgg312
 z233 := Tryz.sizeOf312
 v233 := Tryz.zeroValue312
 g17 := by kernel_rfl
 g18 := by kernel_rfl
 g19 := by kernel_rfl
 i0 := by kernel_rfl
 i2 := by kernel_rfl
 i3 := by kernel_rfl
 i4 := by kernel_rfl
 i5 := by kernel_rfl
 i9 := by kernel_rfl
 i20 := by kernel_rfl
 i37 := by kernel_rfl
 i46 := by kernel_rfl
 i51 := by kernel_rfl
 i53 := by kernel_rfl
 i171 := by kernel_rfl
 i173 := by kernel_rfl
 i212 := by kernel_rfl
 i232 := by kernel_rfl
 i233 := by kernel_rfl
 m17 := by kernel_rfl
 m18 := by kernel_rfl
 m19 := by kernel_rfl }
def Tryz.laysJoin_ren : Go.Shelf.Ren := ⟨fun | 156 => 156 | 165 => 202 | 166 => 203 | 169 => 143 | 240 => 182 | 241 => 250 | 276 => 238 | 277 => 269 | n => n, fun | 31 => 23 | 9 => 9 | 3 => 3 | 4 => 4 | 0 => 0 | 20 => 20 | 72 => 176 | 76 => 179 | 70 => 173 | 37 => 174 | 75 => 178 | 127 => 220 | 164 => 268 | 5 => 5 | 80 => 181 | n => n, fun | n => n⟩
theorem Tryz.laysJoin : Go.Proofs.Lays.n156 Tryz.prog Tryz.laysJoin_ren := {
 mixed := by kernel_rfl
 f156 := Tryz.func156.trans (congrArg some (by kernel_rfl))
 f165 := Tryz.func202.trans (congrArg some (by kernel_rfl))
 f166 := Tryz.func203.trans (congrArg some (by kernel_rfl))
 f169 := Tryz.func143.trans (congrArg some (by kernel_rfl))
 f240 := Tryz.func182.trans (congrArg some (by kernel_rfl))
 f241 := Tryz.func250.trans (congrArg some (by kernel_rfl))
 f276 := Tryz.func238.trans (congrArg some (by kernel_rfl))
 f277 := Tryz.func269.trans (congrArg some (by kernel_rfl))
 t0 := Tryz.underlying0
 a0 := Tryz.isAgg0
 z0 := Tryz.sizeOf0
 v0 := Tryz.zeroValue0
 t3 := Tryz.underlying3
 a3 := Tryz.isAgg3
 z3 := Tryz.sizeOf3
 v3 := Tryz.zeroValue3
 t4 := Tryz.underlying4
 a4 := Tryz.isAgg4
 z4 := Tryz.sizeOf4
 v4 := Tryz.zeroValue4
 t9 := Tryz.underlying9
 a9 := Tryz.isAgg9
 z9 := Tryz.sizeOf9
 v9 := Tryz.zeroValue9
 t20 := Tryz.underlying20
 a20 := Tryz.isAgg20
 z20 := Tryz.sizeOf20
 v20 := Tryz.zeroValue20
 t31 := Tryz.underlying23
 a31 := Tryz.isAgg23
 z31 := Tryz.sizeOf23
 v31 := Tryz.zeroValue23
 t37 := Tryz.underlying174
 a37 := Tryz.isAgg174
 z37 := Tryz.sizeOf174
 v37 := Tryz.zeroValue174
 t70 := Tryz.underlying173
 a70 := Tryz.isAgg173
 z70 := Tryz.sizeOf173
 v70 := Tryz.zeroValue173
 t72 := Tryz.underlying176
 a72 := Tryz.isAgg176
 z72 := Tryz.sizeOf176
 v72 := Tryz.zeroValue176
 t75 := Tryz.underlying178
 a75 := Tryz.isAgg178
 z75 := Tryz.sizeOf178
 v75 := Tryz.zeroValue178
 t76 := Tryz.underlying179
 a76 := Tryz.isAgg179
 z76 := Tryz.sizeOf179
 v76 := Tryz.zeroValue179
 t127 := Tryz.underlying220
 a127 := Tryz.isAgg220
 z127 := Tryz.sizeOf220
 v127 := Tryz.zeroValue220
 t164 := Tryz.underlying268
 a164 := Tryz.isAgg268
 z164 := Tryz.sizeOf268
 v164 := Tryz.zeroValue268 }
end Go.Proofs
namespace Go.Ix
open Go Go.Sl Go.Gv
end Go.Ix
namespace Go.Proofs.YtklgiidfompdpaaGreatDoor
open Go Go.Sl Go.Gv Go.Kv Go.Po Go.Ix Go.Qu Go.Shelf
set_option maxRecDepth 100000
def oneB (s : ByteArray) : Bool := decide (s ≠ ⟨#[]⟩) && validS s && !decide (0 ≤ Lib.idxFunc notW true s)
def oddB (s : ByteArray) : Bool := decide (40 < s.size) || !oneB s || decide (normB s ≠ s)
theorem containsO_spec {h0 : Hp} (T : TabX h0) (s : ByteArray) : Ct Tryz.prog 207 [.string s, .func (.func 94) #[] #[]] [ro h0] (fun v hs => v = .bool (decide (0 ≤ Lib.idxFunc notW true s)) ∧ hs = [ro h0]) :=
 Ct.ofBelow Tryz.func207 rfl (by kernel_rfl) (V := fun _ => .bool (decide (0 ≤ Lib.idxFunc notW true s))) (fun w0 w R st => Any.strings_ContainsFunc_grows Tryz.laysCF 94 #[] (enters_of Tryz.func94 (by kernel_rfl) rfl) notW s w (other_pays T (Sat.ro st))) (fun _ => ⟨rfl, rfl⟩)
theorem oneT_spec {h0 : Hp} (T : TabX h0) (s : ByteArray) (hs : s.size ≤ 100000) : Ct Tryz.prog 164 [.string s] [ro h0] (fun v hs => v = .bool (oneB s) ∧ hs = [ro h0]) := by
 refine Cti Tryz.func164 (by kernel_rfl) 14 Tryz.ntmps164 rfl rfl fun w0 R => ?_
 refine Gsr (Las rfl rfl (Lnt (Gsr (Lmv rfl rfl (Lq rfl (pu_neS rfl rfl) (LpuB rfl rfl trivial (pu_move rfl) (fun hg2 => ?_) (fun hg2 => ?_)))))))
 ·
  refine Lpu rfl rfl ⟨_, rfl, rfl⟩ (pu_move rfl) (Lac rfl rfl ⟨_, rfl, rfl⟩ (asC (valid_spec T.1 s (by omega))) ?_)
  rintro _ _ ⟨_, ⟨rfl, rfl⟩, rfl⟩
  refine Lpk rfl rfl rfl (LpuB rfl rfl trivial (pu_move rfl) (fun hg6 => ?_) (fun hg6 => ?_))
  ·
   refine Lpu rfl rfl ⟨_, rfl, rfl⟩ (pu_move rfl) (Lac rfl rfl ⟨_, rfl, rfl⟩ (asC (containsO_spec T s)) ?_)
   rintro _ _ ⟨_, ⟨rfl, rfl⟩, rfl⟩
   refine Lpu rfl rfl ⟨_, rfl, rfl⟩ (pu_not rfl) (Lpk rfl rfl rfl (Las rfl rfl (Lnt (Gs.ret ?_))))
   exact Gs.fin1 Tryz.results164 rfl _ (⟨by
     first
       | rw [show oneB s = !decide (0 ≤ Lib.idxFunc notW true s) by unfold oneB; rw [show decide (s ≠ ⟨#[]⟩) = true from hg2, hg6]; rfl]
       | rw [show oneB s = false by unfold oneB; rw [show decide (s ≠ ⟨#[]⟩) = true from hg2, hg6]; rfl]
       | rw [show oneB s = false by unfold oneB; rw [show decide (s ≠ ⟨#[]⟩) = false from hg2]; rfl], rfl⟩) (by repeat constructor)
  refine Lof rfl (Lof rfl (Lof rfl (Lpk rfl rfl rfl (Las rfl rfl (Lnt (Gs.ret ?_))))))
  exact Gs.fin1 Tryz.results164 rfl _ (⟨by
    first
      | rw [show oneB s = !decide (0 ≤ Lib.idxFunc notW true s) by unfold oneB; rw [show decide (s ≠ ⟨#[]⟩) = true from hg2, hg6]; rfl]
      | rw [show oneB s = false by unfold oneB; rw [show decide (s ≠ ⟨#[]⟩) = true from hg2, hg6]; rfl]
      | rw [show oneB s = false by unfold oneB; rw [show decide (s ≠ ⟨#[]⟩) = false from hg2]; rfl], rfl⟩) (by repeat constructor)
 refine Lof rfl (Lof rfl (Lpk rfl rfl rfl (Lmv rfl rfl (Lof rfl (Lof rfl (Lof rfl (Lpk rfl rfl rfl (Las rfl rfl (Lnt (Gs.ret ?_))))))))))
 exact Gs.fin1 Tryz.results164 rfl _ (⟨by
   first
     | rw [show oneB s = !decide (0 ≤ Lib.idxFunc notW true s) by unfold oneB; rw [show decide (s ≠ ⟨#[]⟩) = true from hg2, hg6]; rfl]
     | rw [show oneB s = false by unfold oneB; rw [show decide (s ≠ ⟨#[]⟩) = true from hg2, hg6]; rfl]
     | rw [show oneB s = false by unfold oneB; rw [show decide (s ≠ ⟨#[]⟩) = false from hg2]; rfl], rfl⟩) (by repeat constructor)
theorem oddT_spec {h0 : Hp} (T : TabX h0) (s : ByteArray) (hs : s.size ≤ maxLen) : Ct Tryz.prog 118 [.string s] [ro h0] (fun v hs => v = .bool (oddB s) ∧ hs = [ro h0]) := by
 refine Cti Tryz.func118 (by kernel_rfl) 17 Tryz.ntmps118 rfl rfl fun w0 R => ?_
 refine Gsr (Las rfl rfl (Lnt (Gsr (Lmv rfl rfl (Lq rfl (pu_lenS Tryz.underlying9 rfl) (Lq rfl (pu_gt rfl rfl) (LpuB rfl rfl trivial (pu_move rfl) (fun hg3 => ?_) (fun hg3 => ?_))))))))
 ·
  refine Lof rfl (Lof rfl (Lof rfl (Lpk rfl rfl rfl (Lmv rfl rfl (Lof rfl (Lof rfl (Lof rfl (Lof rfl (Lpk rfl rfl rfl (Las rfl rfl (Lnt ?_)))))))))))
  refine Gs.ret ?_
  exact Gs.fin1 Tryz.results118 rfl _ (⟨by
    first
      | rw [show oddB s = decide (normB s ≠ s) by unfold oddB; rw [show decide (40 < s.size) = false from decide_eq_false (by have := of_decide_eq_false hg3; omega), hg8]; rfl]
      | rw [show oddB s = true by unfold oddB; rw [hg8, Bool.or_true, Bool.true_or]]
      | rw [show oddB s = true by unfold oddB; rw [show decide (40 < s.size) = true from decide_eq_true (by have := of_decide_eq_true hg3; omega)]; rfl], rfl⟩) (by repeat constructor)
 refine Lpu rfl rfl ⟨_, rfl, rfl⟩ (pu_move rfl) (Lac rfl rfl ⟨_, rfl, rfl⟩ (asC (oneT_spec T s (by have := of_decide_eq_false hg3; omega))) ?_)
 rintro _ _ ⟨_, ⟨rfl, rfl⟩, rfl⟩
 refine Lpu rfl rfl ⟨_, rfl, rfl⟩ (pu_not rfl) (Lpk rfl rfl rfl (LpuB rfl rfl trivial (pu_move rfl) (fun hg8 => ?_) (fun hg8 => ?_)))
 ·
  refine Lof rfl (Lof rfl (Lof rfl (Lof rfl (Lpk rfl rfl rfl (Las rfl rfl (Lnt (Gs.ret ?_)))))))
  exact Gs.fin1 Tryz.results118 rfl _ (⟨by
    first
      | rw [show oddB s = decide (normB s ≠ s) by unfold oddB; rw [show decide (40 < s.size) = false from decide_eq_false (by have := of_decide_eq_false hg3; omega), hg8]; rfl]
      | rw [show oddB s = true by unfold oddB; rw [hg8, Bool.or_true, Bool.true_or]]
      | rw [show oddB s = true by unfold oddB; rw [show decide (40 < s.size) = true from decide_eq_true (by have := of_decide_eq_true hg3; omega)]; rfl], rfl⟩) (by repeat constructor)
 refine Lpu rfl rfl ⟨_, rfl, rfl⟩ (pu_move rfl) (Lac rfl rfl ⟨_, rfl, rfl⟩ (asC (norm_spec T s (by have := of_decide_eq_false hg3; omega))) ?_)
 rintro _ _ ⟨_, ⟨rfl, rfl⟩, rfl⟩
 refine Lpu rfl rfl ⟨_, rfl, rfl⟩ (pu_move rfl) (Lpu rfl rfl ⟨_, rfl, rfl⟩ (pu_neS rfl rfl) (Lpk rfl rfl rfl (Las rfl rfl (Lnt (Gs.ret ?_)))))
 exact Gs.fin1 Tryz.results118 rfl _ (⟨by
   first
     | rw [show oddB s = decide (normB s ≠ s) by unfold oddB; rw [show decide (40 < s.size) = false from decide_eq_false (by have := of_decide_eq_false hg3; omega), hg8]; rfl]
     | rw [show oddB s = true by unfold oddB; rw [hg8, Bool.or_true, Bool.true_or]]
     | rw [show oddB s = true by unfold oddB; rw [show decide (40 < s.size) = true from decide_eq_true (by have := of_decide_eq_true hg3; omega)]; rfl], rfl⟩) (by repeat constructor)
end Go.Proofs.YtklgiidfompdpaaGreatDoor
namespace Go.Sl
open Go
def Inn (B U : HProp) : Prop := ∃ A, ∀ w0 w R, Sat w0 w (U :: R) ↔ Sat w0 w (B :: A :: R)
theorem Inn.refl {B : HProp} : Inn B B := ⟨big [], fun _ _ _ => ⟨fun s => (s.bigNil).take (.tl .hd), fun s => (s.take (.tl .hd)).drop⟩⟩
theorem Inn.two1 {A B : HProp} : Inn A (two A B) := ⟨B, fun _ _ _ => Sat.two⟩
theorem Inn.trans {A B C : HProp} (h : Inn A B) (k : Inn B C) : Inn A C := by
 obtain ⟨X, hx⟩ := h
 obtain ⟨Y, hy⟩ := k
 refine ⟨two X Y, fun w0 w R => ?_⟩
 rw [hy, hx]
 constructor
 · intro s
   exact (Sat.two.2 (s.takes (As := [X, Y, A]) (by repeat constructor))).take (.tl .hd)
 · intro s
   exact (Sat.two.1 (s.take (.tl .hd))).takes (As := [A, X, Y]) (by repeat constructor)
theorem Ct.inn {P : Program} {f : FuncId} {args : List Value} {B U : HProp} {post : Value → List HProp → Prop} (c : Ct P f args [B] post) (i : Inn B U) (h : ∀ v hs, post v hs → ∃ r, hs = B :: r) : Ct P f args [U] (fun v hs => ∃ r, post v (B :: r) ∧ hs = U :: r) := by
 obtain ⟨A, hA⟩ := i
 refine ⟨c.enters, fun w0 w R s => (c.calls w0 w (A :: R) ((hA _ _ _).1 s)).mono fun _ _ ⟨v, hs, he, hp, hsat⟩ => ?_⟩
 obtain ⟨r, rfl⟩ := h v hs hp
 refine ⟨v, U :: r, he, ⟨r, hp, rfl⟩, (hA _ _ _).2 ?_⟩
 have h1 : Sat w0 _ ((B :: r) ++ A :: R) := hsat
 have h2 := h1.take (take_mid (L1 := B :: r) (L2 := R))
 exact h2.take (.tl .hd)
theorem Ct.inn0 {P : Program} {f : FuncId} {args : List Value} {B U : HProp} {x : Value} (c : Ct P f args [B] (fun v hs => v = x ∧ hs = [B])) (i : Inn B U) : Ct P f args [U] (fun v hs => v = x ∧ hs = [U]) :=
 (c.inn i fun _ _ h => ⟨[], h.2⟩).mono fun v hs ⟨r, ⟨h1, h2⟩, h3⟩ => ⟨h1, by cases h2; exact h3⟩
end Go.Sl
namespace Go.Proofs.YtklgiidfompdpaaGreatDoor
open Go Go.Sl Go.Gv Go.Kv Go.Po Go.Ix Go.Qu Go.Shelf
set_option maxRecDepth 100000
def TabU (U : HProp) : Prop := ∃ h0, TabX h0 ∧ Inn (Sl.ro h0) U
theorem TabU.ct {U : HProp} (h : TabU U) {f : FuncId} {args : List Value} {x : Value} (c : ∀ h0, TabX h0 → Ct Tryz.prog f args [Sl.ro h0] (fun v hs => v = x ∧ hs = [Sl.ro h0])) : Ct Tryz.prog f args [U] (fun v hs => v = x ∧ hs = [U]) := by
 obtain ⟨h0, T, i⟩ := h
 exact (c h0 T).inn0 i
theorem indexS_spec {S : HProp} {g : FuncId} {q : ByteArray → Bool} {a : Option Addr} {c : Nat} {ls : List ByteArray} (hS : Srd S 1 strC a ls) (hg : ∀ l ∈ ls, Ct Tryz.prog g ([] ++ [.string l] ++ []) [S] (fun v hs => v = .bool (q l) ∧ hs = [S])) (hl : ls.length ≤ 1000) :
   Ct Tryz.prog 163 [.slice a ls.length c, .func (.func g) #[] #[]] [S] (fun v hs => (∃ z : Int, v = int z ∧ decide (0 ≤ z) = ls.any q) ∧ hs = [S]) := by
 refine Cti Tryz.func163 (by kernel_rfl) 19 Tryz.ntmps163 rfl rfl fun w0 R => ?_
 refine Gs.slAddr (hS.h (by repeat constructor)) fun ab ao ha => ?_
 refine Gsr (Las rfl rfl (Lnt (Gs.seq (Gsr (Lmv rfl rfl (Lq rfl (pu_len Tryz.underlying23 rfl) (Lmv rfl rfl (Lnt (Gs.block (Gs.loop1 (fun i : Nat => i ≤ ls.length ∧ (ls.take i).any q = false) (fun i => [(0, .slice a ls.length c), (1, .func (.func g) #[] #[]), (7, int ls.length), (8, int i)]) (fun i => [S] ++ R) (fun i => ls.length - i) 0 (⟨Nat.zero_le _, rfl⟩) (by repeat constructor) (by repeat constructor) (fun i ⟨hi, hq⟩ => ?_)))))))))))
 refine Gsr (Lq rfl (pu_lt rfl rfl) (Lnt (Gs.seq (Gs.cond rfl (fun hc0 => ?_) (fun hc0 => ?_)))))
 ·
  have hlt : i < ls.length := by have := of_decide_eq_true hc0; omega
  obtain ⟨x, hx⟩ : ∃ x, ls[i]? = some x := ⟨ls[i], by simp [hlt]⟩
  obtain rfl := ha (by rintro rfl; simp at hlt)
  have hm := List.mem_of_getElem? hx
  refine Gs.skip (Gn (Gs.seq (Gs.block (Gsr (Lmv rfl rfl (Las rfl rfl (Lnt (Gsr (Lmv rfl rfl (Lmv rfl rfl (Lmv rfl rfl ?_)))))))))))
  refine Lq rfl (pu_ia se_23 rfl rfl (by omega) (by omega)) (Lr rfl (rd_ld na_9 rfl (Rdc.el0 (hS.h (by repeat constructor)) hx rfl rfl)) ?_)
  refine La rfl (as_callV rfl (hg x hm) (by repeat constructor) (by repeat constructor)) ?_
  rintro _ _ ⟨_, ⟨rfl, rfl⟩, rfl⟩
  refine Lnt (Gs.cond rfl (fun hc1 => ?_) (fun hc1 => ?_))
  ·
   have hyes : ls.any q = true := List.any_eq_true.2 ⟨x, hm, hc1⟩
   refine Gsr (Lmv rfl rfl (Las rfl rfl (Lnt (Gs.ret (Gs.blk_r (Gr (Gr (Gs.blk_r (Gr ?_)))))))))
   exact Gs.fin1 Tryz.results163 rfl _ (⟨⟨_, rfl, by rw [hyes]; exact decide_eq_true (by omega)⟩, rfl⟩) (by repeat constructor)
  have hno : (ls.take (i + 1)).any q = false := by rw [List.take_add_one, hx, List.any_append, hq]; simp [hc1]
  refine Gs.skip (Gs.blk_n (Gn (Gs.reg (Lq rfl (by first | exact pu_addI rfl rfl rfl (by omega) (by omega) | exact pu_add rfl rfl) ?_))))
  refine Lmv rfl rfl (Lnt ?_)
  exact Ag (i + 1) ⟨hlt, hno⟩ (by show ls.length - (i + 1) < ls.length - i; omega)
 have hge : i = ls.length := by have := of_decide_eq_false hc0; omega
 rw [hge, List.take_length] at hq
 refine Gs.exit (Gx (Gx (Gs.blk_hit (Gn (Gsr (Las rfl rfl (Lnt (Gs.ret ?_))))))))
 exact Gs.fin1 Tryz.results163 rfl _ (⟨⟨_, rfl, by rw [hq]; rfl⟩, rfl⟩) (by repeat constructor)
theorem containsS_spec {S : HProp} {g : FuncId} {q : ByteArray → Bool} {a : Option Addr} {c : Nat} {ls : List ByteArray} (hS : Srd S 1 strC a ls) (hg : ∀ l ∈ ls, Ct Tryz.prog g ([] ++ [.string l] ++ []) [S] (fun v hs => v = .bool (q l) ∧ hs = [S])) (hl : ls.length ≤ 1000) :
   Ct Tryz.prog 117 [.slice a ls.length c, .func (.func g) #[] #[]] [S] (fun v hs => v = .bool (ls.any q) ∧ hs = [S]) := by
 refine Cti Tryz.func117 (by kernel_rfl) 9 Tryz.ntmps117 rfl rfl fun w0 R => ?_
 refine Gsr (Las rfl rfl (Lnt (Gsr (Lmv rfl rfl (Lmv rfl rfl (La rfl (asC (indexS_spec hS hg hl)) ?_))))))
 rintro _ _ ⟨_, ⟨⟨z, rfl, hz⟩, rfl⟩, rfl⟩
 refine Lq rfl (pu_ge rfl rfl) (Las rfl rfl (Lnt (Gs.ret ?_)))
 exact Gs.fin1 Tryz.results117 rfl _ (⟨by rw [← hz], rfl⟩) (by repeat constructor)
theorem indexA_spec {S : HProp} {g : FuncId} {q : AskV → Bool} {a : Option Addr} {c : Nat} {ls : List AskV} (hS : Srd S 4 askC a ls) (hg : ∀ l ∈ ls, Ct Tryz.prog g ([] ++ [askV l] ++ []) [S] (fun v hs => v = .bool (q l) ∧ hs = [S])) (hl : ls.length ≤ 1000) :
   Ct Tryz.prog 165 [.slice a ls.length c, .func (.func g) #[] #[]] [S] (fun v hs => (∃ z : Int, v = int z ∧ decide (0 ≤ z) = ls.any q) ∧ hs = [S]) := by
 refine Cti Tryz.func165 (by kernel_rfl) 19 Tryz.ntmps165 rfl rfl fun w0 R => ?_
 refine Gs.slAddr (hS.h (by repeat constructor)) fun ab ao ha => ?_
 refine Gsr (Las rfl rfl (Lnt (Gs.seq (Gsr (Lmv rfl rfl (Lq rfl (pu_len Tryz.underlying24 rfl) (Lmv rfl rfl (Lnt (Gs.block (Gs.loop1 (fun i : Nat => i ≤ ls.length ∧ (ls.take i).any q = false) (fun i => [(0, .slice a ls.length c), (1, .func (.func g) #[] #[]), (7, int ls.length), (8, int i)]) (fun i => [S] ++ R) (fun i => ls.length - i) 0 (⟨Nat.zero_le _, rfl⟩) (by repeat constructor) (by repeat constructor) (fun i ⟨hi, hq⟩ => ?_)))))))))))
 refine Gsr (Lq rfl (pu_lt rfl rfl) (Lnt (Gs.seq (Gs.cond rfl (fun hc0 => ?_) (fun hc0 => ?_)))))
 ·
  have hlt : i < ls.length := by have := of_decide_eq_true hc0; omega
  obtain ⟨x, hx⟩ : ∃ x, ls[i]? = some x := ⟨ls[i], by simp [hlt]⟩
  obtain rfl := ha (by rintro rfl; simp at hlt)
  have hm := List.mem_of_getElem? hx
  refine Gs.skip (Gn (Gs.seq (Gs.block (Gsr (Lmv rfl rfl (Las rfl rfl (Lnt (Gsr (Lmv rfl rfl (Lmv rfl rfl (Lmv rfl rfl ?_)))))))))))
  refine Lq rfl (pu_ia se_24 rfl rfl (by omega) (by omega)) (Lr rfl (rd_lda ag_26 rfl (Rdc.el0 (hS.h (by repeat constructor)) hx rfl rfl) rfl) ?_)
  refine La rfl (as_callV rfl (hg x hm) (by repeat constructor) (by repeat constructor)) ?_
  rintro _ _ ⟨_, ⟨rfl, rfl⟩, rfl⟩
  refine Lnt (Gs.cond rfl (fun hc1 => ?_) (fun hc1 => ?_))
  ·
   have hyes : ls.any q = true := List.any_eq_true.2 ⟨x, hm, hc1⟩
   refine Gsr (Lmv rfl rfl (Las rfl rfl (Lnt (Gs.ret (Gs.blk_r (Gr (Gr (Gs.blk_r (Gr ?_)))))))))
   exact Gs.fin1 Tryz.results165 rfl _ (⟨⟨_, rfl, by rw [hyes]; exact decide_eq_true (by omega)⟩, rfl⟩) (by repeat constructor)
  have hno : (ls.take (i + 1)).any q = false := by rw [List.take_add_one, hx, List.any_append, hq]; simp [hc1]
  refine Gs.skip (Gs.blk_n (Gn (Gs.reg (Lq rfl (by first | exact pu_addI rfl rfl rfl (by omega) (by omega) | exact pu_add rfl rfl) ?_))))
  refine Lmv rfl rfl (Lnt ?_)
  exact Ag (i + 1) ⟨hlt, hno⟩ (by show ls.length - (i + 1) < ls.length - i; omega)
 have hge : i = ls.length := by have := of_decide_eq_false hc0; omega
 rw [hge, List.take_length] at hq
 refine Gs.exit (Gx (Gx (Gs.blk_hit (Gn (Gsr (Las rfl rfl (Lnt (Gs.ret ?_))))))))
 exact Gs.fin1 Tryz.results165 rfl _ (⟨⟨_, rfl, by rw [hq]; rfl⟩, rfl⟩) (by repeat constructor)
theorem containsA_spec {S : HProp} {g : FuncId} {q : AskV → Bool} {a : Option Addr} {c : Nat} {ls : List AskV} (hS : Srd S 4 askC a ls) (hg : ∀ l ∈ ls, Ct Tryz.prog g ([] ++ [askV l] ++ []) [S] (fun v hs => v = .bool (q l) ∧ hs = [S])) (hl : ls.length ≤ 1000) :
   Ct Tryz.prog 119 [.slice a ls.length c, .func (.func g) #[] #[]] [S] (fun v hs => v = .bool (ls.any q) ∧ hs = [S]) := by
 refine Cti Tryz.func119 (by kernel_rfl) 9 Tryz.ntmps119 rfl rfl fun w0 R => ?_
 refine Gsr (Las rfl rfl (Lnt (Gsr (Lmv rfl rfl (Lmv rfl rfl (La rfl (asC (indexA_spec hS hg hl)) ?_))))))
 rintro _ _ ⟨_, ⟨⟨z, rfl, hz⟩, rfl⟩, rfl⟩
 refine Lq rfl (pu_ge rfl rfl) (Las rfl rfl (Lnt (Gs.ret ?_)))
 exact Gs.fin1 Tryz.results119 rfl _ (⟨by rw [← hz], rfl⟩) (by repeat constructor)
end Go.Proofs.YtklgiidfompdpaaGreatDoor
namespace Go.Qu
open Go Go.Sl Go.Gv Go.Ix
variable {odd : ByteArray → Bool} {a : AskV} {d : Nat}
theorem good_no (h : shapeB a = false) : goodA odd (d + 1) a = false := by unfold goodA; rw [h]; rfl
theorem good_yes (h : shapeB a = true) : goodA odd (d + 1) a = (a.ws.all (fun w => !odd w) && a.ss.all (goodA odd d)) := by unfold goodA; rw [h]; rfl
end Go.Qu
namespace Go.Proofs.YtklgiidfompdpaaGreatDoor
open Go Go.Sl Go.Gv Go.Kv Go.Po Go.Ix Go.Qu Go.Shelf
set_option maxRecDepth 100000
end Go.Proofs.YtklgiidfompdpaaGreatDoor
namespace Go.Qu
structure Shp where
 w : Int
 mw : Int
 s : Int
 ms : Int
 m : Int
def shpZ : Shp := ⟨0, 0, 0, 0, 0⟩
def shpO (k : Int) : Option Shp :=
 if k = 1 ∨ k = 2 then some ⟨1, 1, 0, 0, 0⟩
 else if k = 3 then some ⟨1, 16, 0, 0, 0⟩
 else if k = 4 then some ⟨0, 0, 0, 0, 7⟩
 else if k = 5 ∨ k = 6 then some ⟨0, 0, 0, 0, 1099511627776⟩
 else if k = 9 then some ⟨0, 0, 1, 1, 0⟩
 else if k = 7 ∨ k = 8 then some ⟨0, 0, 2, 1048576, 0⟩
 else none
open Go Go.Sl Go.Gv Go.Ix
def inShp (s : Shp) (n : Int) (w u : Nat) : Bool := decide (0 ≤ n) && decide (n ≤ s.m) && decide (s.w ≤ w) && decide ((w : Int) ≤ s.mw) && decide (s.s ≤ u) && decide ((u : Int) ≤ s.ms)
theorem nil_iff {α : Type} (l : List α) : l = [] ↔ l.length = 0 := List.length_eq_zero_iff.symm
theorem shape_shp (a : AskV) (h : a.ss.length ≤ 60) : shapeB a = match shpO a.kind with
   | none => false
   | some s => inShp s a.n a.w.xs.length a.ss.length := by
 have hw : a.ws = [] ↔ a.w.xs.length = 0 := nil_iff a.w.xs
 have hs := nil_iff a.ss
 have hwl : a.ws.length = a.w.xs.length := rfl
 unfold shapeB shpO
 by_cases h1 : a.kind = 1 ∨ a.kind = 2
 · rw [if_pos h1, if_pos h1]
   rw [Bool.eq_iff_iff]
   simp only [inShp, Bool.and_eq_true, decide_eq_true_eq, hs]
   constructor <;> (intro h; omega)
 rw [if_neg h1, if_neg h1]
 by_cases h3 : a.kind = 3
 · rw [if_pos h3, if_pos h3]
   rw [Bool.eq_iff_iff]
   simp only [inShp, Bool.and_eq_true, decide_eq_true_eq, hs]
   constructor <;> (intro h; omega)
 rw [if_neg h3, if_neg h3]
 by_cases h4 : a.kind = 4
 · rw [if_pos h4, if_pos h4]
   rw [Bool.eq_iff_iff]
   simp only [inShp, Bool.and_eq_true, decide_eq_true_eq, hs, hw]
   constructor <;> (intro h; omega)
 rw [if_neg h4, if_neg h4]
 by_cases h5 : a.kind = 5 ∨ a.kind = 6
 · rw [if_pos h5, if_pos h5]
   rw [Bool.eq_iff_iff]
   simp only [inShp, Bool.and_eq_true, decide_eq_true_eq, hs, hw]
   constructor <;> (intro h; omega)
 rw [if_neg h5, if_neg h5]
 by_cases h9 : a.kind = 9
 · rw [if_pos h9, if_pos h9]
   rw [Bool.eq_iff_iff]
   simp only [inShp, Bool.and_eq_true, decide_eq_true_eq, hs, hw]
   constructor <;> (intro h; omega)
 rw [if_neg h9, if_neg h9]
 by_cases h7 : a.kind = 7 ∨ a.kind = 8
 · rw [if_pos h7, if_pos h7]
   rw [Bool.eq_iff_iff]
   simp only [inShp, Bool.and_eq_true, decide_eq_true_eq, hs, hw]
   constructor <;> (intro h; omega)
 rw [if_neg h7, if_neg h7]
end Go.Qu
namespace Go.Proofs.YtklgiidfompdpaaGreatDoor
open Go Go.Sl Go.Gv Go.Kv Go.Po Go.Ix Go.Qu Go.Shelf
set_option maxRecDepth 100000
abbrev shpC (s : Shp) : List Value := [int s.w, int s.mw, int s.s, int s.ms, int s.m]
theorem shaped_spec (k : Int) : Ct Tryz.prog 116 [int k] [] (fun v hs => v = .tuple #[.agg (shpC ((shpO k).getD shpZ)).toArray, .bool (shpO k).isSome] ∧ hs = []) := by
 obtain ⟨v0, hv0⟩ : ∃ z, z = shpO k := ⟨_, rfl⟩
 rw [← hv0]
 refine Cti Tryz.func116 (by kernel_rfl) 27 Tryz.ntmps116 rfl rfl fun w0 R => ?_
 refine Gsr (La rfl (ac_alloc zv_152 rfl) ?_)
 rintro _ _ ⟨sb, rfl, rfl⟩
 refine Las rfl rfl (Lnt (Gs.seq (Gsr (Lmv rfl rfl (Lnt (Gs.block (Gs.seq (Gsr (Lq rfl (pu_eq rfl rfl) (Las rfl rfl (Lnt ?_)))))))))))
 refine Gs.cut (E := [(2, ptr sb), (3, .bool false), (4, int k), (5, .bool (decide (k = 1 ∨ k = 2)))]) (I := [cl sb 152 [int 0, int 0, int 0, int 0, int 0]] ++ R) ?_ ?_
 ·
  refine Gs.cond rfl (fun hka => ?_) (fun hka => ?_)
  ·
   rw [show decide (k = 1) = decide (k = 1 ∨ k = 2) from (decide_eq_true (of_decide_eq_true hka)).trans (decide_eq_true (.inl (of_decide_eq_true hka))).symm]
   refine Gs.skip (Gn ?_)
   exact Gs.cutEnd (by repeat constructor) (by repeat constructor)
  refine Gs.reg (Lq rfl (pu_eq rfl rfl) (Las rfl rfl ?_))
  rw [show decide (k = 2) = decide (k = 1 ∨ k = 2) from decide_eq_decide.2 ⟨fun h => .inr h, fun h => h.resolve_left (of_decide_eq_false hka)⟩]
  refine Lnt ?_
  exact Gs.cutEnd (by repeat constructor) (by repeat constructor)
 refine Gs.cond rfl (fun hk1 => ?_) (fun hk1 => ?_)
 ·
  refine Gsr (Lq rfl (pu_build bd_152 (by repeat constructor) rfl) ?_)
  refine Lac0 rfl trivial (ac_st sz_152 rfl rfl (by repeat constructor) rfl rfl rfl rfl) ?_
  rintro _ _ rfl
  refine Las rfl rfl (Lnt (Gs.ret (Gs.blk_r (Gr ?_))))
  exact Gs.finc2 Tryz.results116 ag_152 rfl (Rdc.cl 5 (by repeat constructor) rfl) rfl rfl _ (⟨by rw [hv0, show shpO k = some ⟨1, 1, 0, 0, 0⟩ from if_pos (of_decide_eq_true hk1)]; rfl, rfl⟩) (by repeat constructor)
 refine Gsr (Lq rfl (pu_eq rfl rfl) (Las rfl rfl (Lnt (Gs.cond rfl (fun hk3 => ?_) (fun hk3 => ?_)))))
 ·
  refine Gsr (Lq rfl (pu_build bd_152 (by repeat constructor) rfl) ?_)
  refine Lac0 rfl trivial (ac_st sz_152 rfl rfl (by repeat constructor) rfl rfl rfl rfl) ?_
  rintro _ _ rfl
  refine Las rfl rfl (Lnt (Gs.ret (Gs.blk_r (Gr ?_))))
  exact Gs.finc2 Tryz.results116 ag_152 rfl (Rdc.cl 5 (by repeat constructor) rfl) rfl rfl _ (⟨by rw [hv0, show shpO k = some ⟨1, 16, 0, 0, 0⟩ by (have e1 := of_decide_eq_false hk1; have e2 := of_decide_eq_true hk3; unfold shpO; rw [if_neg e1, if_pos e2])]; rfl, rfl⟩) (by repeat constructor)
 refine Gsr (Lq rfl (pu_eq rfl rfl) (Las rfl rfl (Lnt (Gs.cond rfl (fun hk4 => ?_) (fun hk4 => ?_)))))
 ·
  refine Gsr (Lq rfl (pu_build bd_152 (by repeat constructor) rfl) ?_)
  refine Lac0 rfl trivial (ac_st sz_152 rfl rfl (by repeat constructor) rfl rfl rfl rfl) ?_
  rintro _ _ rfl
  refine Las rfl rfl (Lnt (Gs.ret (Gs.blk_r (Gr ?_))))
  exact Gs.finc2 Tryz.results116 ag_152 rfl (Rdc.cl 5 (by repeat constructor) rfl) rfl rfl _ (⟨by rw [hv0, show shpO k = some ⟨0, 0, 0, 0, 7⟩ by (have e1 := of_decide_eq_false hk1; have e2 := of_decide_eq_false hk3; unfold shpO; rw [if_neg e1, if_neg e2, if_pos (of_decide_eq_true hk4)])]; rfl, rfl⟩) (by repeat constructor)
 refine Gs.seq (Gsr (Lq rfl (pu_eq rfl rfl) (Las rfl rfl (Lnt (Gs.cut (E := [(2, ptr sb), (3, .bool false), (4, int k), (15, .bool (decide (k = 5 ∨ k = 6)))]) (I := [cl sb 152 [int 0, int 0, int 0, int 0, int 0]] ++ R) ?_ ?_)))))
 ·
  refine Gs.cond rfl (fun hka => ?_) (fun hka => ?_)
  ·
   rw [show decide (k = 5) = decide (k = 5 ∨ k = 6) from (decide_eq_true (of_decide_eq_true hka)).trans (decide_eq_true (.inl (of_decide_eq_true hka))).symm]
   refine Gs.skip (Gn ?_)
   exact Gs.cutEnd (by repeat constructor) (by repeat constructor)
  refine Gs.reg (Lq rfl (pu_eq rfl rfl) (Las rfl rfl ?_))
  rw [show decide (k = 6) = decide (k = 5 ∨ k = 6) from decide_eq_decide.2 ⟨fun h => .inr h, fun h => h.resolve_left (of_decide_eq_false hka)⟩]
  refine Lnt ?_
  exact Gs.cutEnd (by repeat constructor) (by repeat constructor)
 refine Gs.cond rfl (fun hk5 => ?_) (fun hk5 => ?_)
 ·
  refine Gsr (Lq rfl (pu_build bd_152 (by repeat constructor) rfl) ?_)
  refine Lac0 rfl trivial (ac_st sz_152 rfl rfl (by repeat constructor) rfl rfl rfl rfl) ?_
  rintro _ _ rfl
  refine Las rfl rfl (Lnt (Gs.ret (Gs.blk_r (Gr ?_))))
  exact Gs.finc2 Tryz.results116 ag_152 rfl (Rdc.cl 5 (by repeat constructor) rfl) rfl rfl _ (⟨by rw [hv0, show shpO k = some ⟨0, 0, 0, 0, 1099511627776⟩ by (unfold shpO; rw [if_neg (of_decide_eq_false hk1), if_neg (of_decide_eq_false hk3), if_neg (of_decide_eq_false hk4), if_pos (of_decide_eq_true hk5)])]; rfl, rfl⟩) (by repeat constructor)
 refine Gsr (Lq rfl (pu_eq rfl rfl) (Las rfl rfl (Lnt (Gs.cond rfl (fun hk9 => ?_) (fun hk9 => ?_)))))
 ·
  refine Gsr (Lq rfl (pu_build bd_152 (by repeat constructor) rfl) ?_)
  refine Lac0 rfl trivial (ac_st sz_152 rfl rfl (by repeat constructor) rfl rfl rfl rfl) ?_
  rintro _ _ rfl
  refine Las rfl rfl (Lnt (Gs.ret (Gs.blk_r (Gr ?_))))
  exact Gs.finc2 Tryz.results116 ag_152 rfl (Rdc.cl 5 (by repeat constructor) rfl) rfl rfl _ (⟨by rw [hv0, show shpO k = some ⟨0, 0, 1, 1, 0⟩ by (unfold shpO; rw [if_neg (of_decide_eq_false hk1), if_neg (of_decide_eq_false hk3), if_neg (of_decide_eq_false hk4), if_neg (of_decide_eq_false hk5), if_pos (of_decide_eq_true hk9)])]; rfl, rfl⟩) (by repeat constructor)
 refine Gs.seq (Gsr (Lq rfl (pu_eq rfl rfl) (Las rfl rfl (Lnt (Gs.cut (E := [(2, ptr sb), (3, .bool false), (4, int k), (22, .bool (decide (k = 7 ∨ k = 8)))]) (I := [cl sb 152 [int 0, int 0, int 0, int 0, int 0]] ++ R) ?_ ?_)))))
 ·
  refine Gs.cond rfl (fun hka => ?_) (fun hka => ?_)
  ·
   rw [show decide (k = 7) = decide (k = 7 ∨ k = 8) from (decide_eq_true (of_decide_eq_true hka)).trans (decide_eq_true (.inl (of_decide_eq_true hka))).symm]
   refine Gs.skip (Gn ?_)
   exact Gs.cutEnd (by repeat constructor) (by repeat constructor)
  refine Gs.reg (Lq rfl (pu_eq rfl rfl) (Las rfl rfl ?_))
  rw [show decide (k = 8) = decide (k = 7 ∨ k = 8) from decide_eq_decide.2 ⟨fun h => .inr h, fun h => h.resolve_left (of_decide_eq_false hka)⟩]
  refine Lnt ?_
  exact Gs.cutEnd (by repeat constructor) (by repeat constructor)
 refine Gs.cond rfl (fun hk7 => ?_) (fun hk7 => ?_)
 ·
  refine Gsr (Lq rfl (pu_build bd_152 (by repeat constructor) rfl) ?_)
  refine Lac0 rfl trivial (ac_st sz_152 rfl rfl (by repeat constructor) rfl rfl rfl rfl) ?_
  rintro _ _ rfl
  refine Las rfl rfl (Lnt (Gs.ret (Gs.blk_r (Gr ?_))))
  exact Gs.finc2 Tryz.results116 ag_152 rfl (Rdc.cl 5 (by repeat constructor) rfl) rfl rfl _ (⟨by rw [hv0, show shpO k = some ⟨0, 0, 2, 1048576, 0⟩ by (unfold shpO; rw [if_neg (of_decide_eq_false hk1), if_neg (of_decide_eq_false hk3), if_neg (of_decide_eq_false hk4), if_neg (of_decide_eq_false hk5), if_neg (of_decide_eq_false hk9), if_pos (of_decide_eq_true hk7)])]; rfl, rfl⟩) (by repeat constructor)
 refine Gs.skip (Gs.blk_n (Gn (Gsr (Lq rfl (pu_build bd_152 (by repeat constructor) rfl) ?_))))
 refine Lac0 rfl trivial (ac_st sz_152 rfl rfl (by repeat constructor) rfl rfl rfl rfl) ?_
 rintro _ _ rfl
 refine Las rfl rfl (Lnt (Gs.ret ?_))
 exact Gs.finc2 Tryz.results116 ag_152 rfl (Rdc.cl 5 (by repeat constructor) rfl) rfl rfl _ (⟨by rw [hv0, show shpO k = none by (unfold shpO; rw [if_neg (of_decide_eq_false hk1), if_neg (of_decide_eq_false hk3), if_neg (of_decide_eq_false hk4), if_neg (of_decide_eq_false hk5), if_neg (of_decide_eq_false hk9), if_neg (of_decide_eq_false hk7)])]; rfl, rfl⟩) (by repeat constructor)
theorem goodC_spec {S : HProp} {y : AskV} {b : Bool} (c : Ct Tryz.prog 69 [askV y] [S] (fun v hs => v = .bool b ∧ hs = [S])) : Ct Tryz.prog 120 [askV y] [S] (fun v hs => v = .bool (!b) ∧ hs = [S]) := by
 refine Cti Tryz.func120 (by kernel_rfl) 6 Tryz.ntmps120 rfl rfl fun w0 R => ?_
 refine Gsr (La rfl (ac_box rfl rfl) ?_)
 rintro _ _ ⟨yb, rfl, rfl⟩
 refine Las rfl rfl (Lnt (Gsr (Lr rfl (rd_lda ag_26 rfl (Rdc.cl 4 (by repeat constructor) rfl) rfl) ?_)))
 refine La rfl (asC (c)) ?_
 rintro _ _ ⟨_, ⟨rfl, rfl⟩, rfl⟩
 refine Lq rfl (pu_not rfl) (Las rfl rfl (Lnt (Gs.ret ?_)))
 exact Gs.fin1 Tryz.results120 rfl _ (⟨rfl, rfl⟩) (by repeat constructor)
set_option maxHeartbeats 1000000 in
theorem goodF_spec {S : HProp} (hT : TabU S) : ∀ (d : Nat) {x : AskV} (hA : ARd S x) (hF : FewA d x),
   Ct Tryz.prog 69 [askV x] [S] (fun v hs => v = .bool (goodA oddB d x) ∧ hs = [S])
 | 0, x, hA, hF => hF.elim
 | d + 1, x, hA, hF => by
   have ih := @goodF_spec S hT d
   obtain ⟨hf1, hf2, hf3, hf4⟩ := hF
   have hmx : maxLen = 9223372036854775807 := by decide
   have hsh := shape_shp x hf3
   obtain ⟨v0, hv0⟩ : ∃ z, z = goodA oddB (d + 1) x := ⟨_, rfl⟩
   obtain ⟨sp, hsp⟩ : ∃ z, z = shpO x.kind := ⟨_, rfl⟩
   rw [← hsp] at hsh
   rw [← hv0]
   refine Cti Tryz.func69 (by kernel_rfl) 67 Tryz.ntmps69 rfl rfl fun w0 R => ?_
   refine Gsr (La rfl (ac_box rfl rfl) ?_)
   rintro _ _ ⟨xb, rfl, rfl⟩
   refine Las rfl rfl (Lnt (Gsr (Lq rfl (pu_fa fa_26_0 rfl) (Lr rfl (rd_ld na_3 rfl (Rdc.cl1 (by repeat constructor) rfl)) ?_))))
   refine La rfl (asC (shaped_spec x.kind)) ?_
   rintro _ _ ⟨_, ⟨rfl, rfl⟩, rfl⟩
   rw [← hsp]
   refine Lmv rfl rfl (Lq rfl (pu_extract rfl rfl) (Lq rfl (pu_extract rfl rfl) (La rfl (ac_alloc zv_152 rfl) ?_)))
   rintro _ _ ⟨pb, rfl, rfl⟩
   refine Lac0 rfl trivial (ac_st sz_152 rfl rfl (by repeat constructor) rfl rfl rfl rfl) ?_
   rintro _ _ rfl
   refine Las rfl rfl (Lnt (Gs.seq (Gs.regD mixed (by kernel_rfl) (Rq 0 rfl (by kernel_rfl) (pu_fa fa_26_2 rfl) (Rr 1 rfl (by kernel_rfl) (rd_ld na_23 rfl (Rdc.cl1 (by repeat constructor) rfl)) ?_)))))
   refine Rq 2 rfl (by kernel_rfl) (pu_len Tryz.underlying23 rfl) (Rq 3 rfl (by kernel_rfl) (pu_fa fa_26_3 rfl) (Rr 4 rfl (by kernel_rfl) (rd_ld na_24 rfl (Rdc.cl1 (by repeat constructor) rfl)) ?_))
   refine Rq 5 rfl (by kernel_rfl) (pu_len Tryz.underlying24 rfl) (Rq 6 rfl (by kernel_rfl) (pu_assign rfl) (Rq 7 rfl (by kernel_rfl) (pu_assign rfl) (Rg.end (by kernel_rfl) (Gn (Gs.seq (Gsr (Lmv rfl rfl (Lq rfl (pu_not rfl) (LpuB rfl rfl trivial (pu_move rfl) (fun hg2 => ?_) (fun hg2 => ?_))))))))))
   ·
    have hbad : shapeB x = false := by
      rw [hsh]
      cases hq : sp with
      | none => rfl
      | some s => rw [hq] at hg2; cases hg2
    refine Lof rfl (Lof rfl (Lof rfl (Lpk rfl rfl rfl (Lmv rfl rfl (Lof rfl (Lof rfl (Lof rfl (Lof rfl (Lof rfl (Lpk rfl rfl rfl (Lmv rfl rfl ?_)))))))))))
    refine Lof rfl (Lof rfl (Lof rfl (Lof rfl (Lpk rfl rfl rfl (Lmv rfl rfl (Lof rfl (Lof rfl (Lof rfl (Lof rfl (Lpk rfl rfl rfl (Lmv rfl rfl ?_)))))))))))
    refine Lof rfl (Lof rfl (Lof rfl (Lof rfl (Lpk rfl rfl rfl (Lmv rfl rfl (Lof rfl (Lof rfl (Lof rfl (Lof rfl (Lpk rfl rfl rfl (Lnt ?_)))))))))))
    refine Gs.cond_t rfl (Gsr (Las rfl rfl (Lnt (Gs.ret (Gr ?_)))))
    exact Gs.fin1 Tryz.results69 rfl _ (⟨by
      rw [hv0, good_no (by
        first
          | exact hbad
          | (rw [hshs, Bool.eq_false_iff]
             intro h
             simp only [inShp, Bool.and_eq_true, decide_eq_true_eq] at h
             first
               | (have e : x.n < 0 := of_decide_eq_true hg7; omega)
               | (have e : s.m < x.n := of_decide_eq_true hg14; omega)
               | (have e : (x.w.xs.length : Int) < s.w := of_decide_eq_true hg20; omega)
               | (have e : s.mw < (x.w.xs.length : Int) := of_decide_eq_true hg26; omega)
               | (have e : (x.ss.length : Int) < s.s := of_decide_eq_true hg32; omega)
               | (have e : s.ms < (x.ss.length : Int) := of_decide_eq_true hc0; omega)))], rfl⟩) (by repeat constructor)
   obtain ⟨s, rfl⟩ : ∃ s, sp = some s := by
     cases hq : sp with
     | none => rw [hq] at hg2; cases hg2
     | some s => exact ⟨s, rfl⟩
   have hshs : shapeB x = inShp s x.n x.w.xs.length x.ss.length := hsh
   refine Lpu rfl rfl ⟨_, rfl, rfl⟩ (pu_fa fa_26_1 rfl) (Lrd rfl rfl ⟨_, rfl, rfl⟩ (rd_ld na_3 rfl (Rdc.cl1 (by repeat constructor) rfl)) ?_)
   refine Lpu rfl rfl ⟨_, rfl, rfl⟩ (pu_lt rfl rfl) (Lpk rfl rfl rfl (LpuB rfl rfl trivial (pu_move rfl) (fun hg7 => ?_) (fun hg7 => ?_)))
   ·
    refine Lof rfl (Lof rfl (Lof rfl (Lof rfl (Lof rfl (Lpk rfl rfl rfl (Lmv rfl rfl (Lof rfl (Lof rfl (Lof rfl (Lof rfl (Lpk rfl rfl rfl ?_)))))))))))
    refine Lmv rfl rfl (Lof rfl (Lof rfl (Lof rfl (Lof rfl (Lpk rfl rfl rfl (Lmv rfl rfl (Lof rfl (Lof rfl (Lof rfl (Lof rfl (Lpk rfl rfl rfl ?_)))))))))))
    refine Lmv rfl rfl (Lof rfl (Lof rfl (Lof rfl (Lof rfl (Lpk rfl rfl rfl (Lnt (Gs.cond_t rfl (Gsr (Las rfl rfl (Lnt (Gs.ret ?_)))))))))))
    refine Gr ?_
    exact Gs.fin1 Tryz.results69 rfl _ (⟨by
      rw [hv0, good_no (by
        first
          | exact hbad
          | (rw [hshs, Bool.eq_false_iff]
             intro h
             simp only [inShp, Bool.and_eq_true, decide_eq_true_eq] at h
             first
               | (have e : x.n < 0 := of_decide_eq_true hg7; omega)
               | (have e : s.m < x.n := of_decide_eq_true hg14; omega)
               | (have e : (x.w.xs.length : Int) < s.w := of_decide_eq_true hg20; omega)
               | (have e : s.mw < (x.w.xs.length : Int) := of_decide_eq_true hg26; omega)
               | (have e : (x.ss.length : Int) < s.s := of_decide_eq_true hg32; omega)
               | (have e : s.ms < (x.ss.length : Int) := of_decide_eq_true hc0; omega)))], rfl⟩) (by repeat constructor)
   refine Lpu rfl rfl ⟨_, rfl, rfl⟩ (pu_fa fa_26_1 rfl) (Lrd rfl rfl ⟨_, rfl, rfl⟩ (rd_ld na_3 rfl (Rdc.cl1 (by repeat constructor) rfl)) ?_)
   refine Lpu rfl rfl ⟨_, rfl, rfl⟩ (pu_fa fa_152_4 rfl) (Lrd rfl rfl ⟨_, rfl, rfl⟩ (rd_ld na_3 rfl (Rdc.cl1 (by repeat constructor) rfl)) ?_)
   refine Lpu rfl rfl ⟨_, rfl, rfl⟩ (pu_gt rfl rfl) (Lpk rfl rfl rfl (LpuB rfl rfl trivial (pu_move rfl) (fun hg14 => ?_) (fun hg14 => ?_)))
   ·
    refine Lof rfl (Lof rfl (Lof rfl (Lof rfl (Lpk rfl rfl rfl (Lmv rfl rfl (Lof rfl (Lof rfl (Lof rfl (Lof rfl (Lpk rfl rfl rfl (Lmv rfl rfl ?_)))))))))))
    refine Lof rfl (Lof rfl (Lof rfl (Lof rfl (Lpk rfl rfl rfl (Lmv rfl rfl (Lof rfl (Lof rfl (Lof rfl (Lof rfl (Lpk rfl rfl rfl (Lnt ?_)))))))))))
    refine Gs.cond_t rfl (Gsr (Las rfl rfl (Lnt (Gs.ret (Gr ?_)))))
    exact Gs.fin1 Tryz.results69 rfl _ (⟨by
      rw [hv0, good_no (by
        first
          | exact hbad
          | (rw [hshs, Bool.eq_false_iff]
             intro h
             simp only [inShp, Bool.and_eq_true, decide_eq_true_eq] at h
             first
               | (have e : x.n < 0 := of_decide_eq_true hg7; omega)
               | (have e : s.m < x.n := of_decide_eq_true hg14; omega)
               | (have e : (x.w.xs.length : Int) < s.w := of_decide_eq_true hg20; omega)
               | (have e : s.mw < (x.w.xs.length : Int) := of_decide_eq_true hg26; omega)
               | (have e : (x.ss.length : Int) < s.s := of_decide_eq_true hg32; omega)
               | (have e : s.ms < (x.ss.length : Int) := of_decide_eq_true hc0; omega)))], rfl⟩) (by repeat constructor)
   refine Lpu rfl rfl ⟨_, rfl, rfl⟩ (pu_move rfl) (Lpu rfl rfl ⟨_, rfl, rfl⟩ (pu_fa fa_152_0 rfl) (Lrd rfl rfl ⟨_, rfl, rfl⟩ (rd_ld na_3 rfl (Rdc.cl1 (by repeat constructor) rfl)) ?_))
   refine Lpu rfl rfl ⟨_, rfl, rfl⟩ (pu_lt rfl rfl) (Lpk rfl rfl rfl (LpuB rfl rfl trivial (pu_move rfl) (fun hg20 => ?_) (fun hg20 => ?_)))
   ·
    refine Lof rfl (Lof rfl (Lof rfl (Lof rfl (Lpk rfl rfl rfl (Lmv rfl rfl (Lof rfl (Lof rfl (Lof rfl (Lof rfl (Lpk rfl rfl rfl (Lmv rfl rfl ?_)))))))))))
    refine Lof rfl (Lof rfl (Lof rfl (Lof rfl (Lpk rfl rfl rfl (Lnt (Gs.cond_t rfl (Gsr (Las rfl rfl (Lnt (Gs.ret (Gr ?_)))))))))))
    exact Gs.fin1 Tryz.results69 rfl _ (⟨by
      rw [hv0, good_no (by
        first
          | exact hbad
          | (rw [hshs, Bool.eq_false_iff]
             intro h
             simp only [inShp, Bool.and_eq_true, decide_eq_true_eq] at h
             first
               | (have e : x.n < 0 := of_decide_eq_true hg7; omega)
               | (have e : s.m < x.n := of_decide_eq_true hg14; omega)
               | (have e : (x.w.xs.length : Int) < s.w := of_decide_eq_true hg20; omega)
               | (have e : s.mw < (x.w.xs.length : Int) := of_decide_eq_true hg26; omega)
               | (have e : (x.ss.length : Int) < s.s := of_decide_eq_true hg32; omega)
               | (have e : s.ms < (x.ss.length : Int) := of_decide_eq_true hc0; omega)))], rfl⟩) (by repeat constructor)
   refine Lpu rfl rfl ⟨_, rfl, rfl⟩ (pu_move rfl) (Lpu rfl rfl ⟨_, rfl, rfl⟩ (pu_fa fa_152_1 rfl) (Lrd rfl rfl ⟨_, rfl, rfl⟩ (rd_ld na_3 rfl (Rdc.cl1 (by repeat constructor) rfl)) ?_))
   refine Lpu rfl rfl ⟨_, rfl, rfl⟩ (pu_gt rfl rfl) (Lpk rfl rfl rfl (LpuB rfl rfl trivial (pu_move rfl) (fun hg26 => ?_) (fun hg26 => ?_)))
   ·
    refine Lof rfl (Lof rfl (Lof rfl (Lof rfl (Lpk rfl rfl rfl (Lmv rfl rfl (Lof rfl (Lof rfl (Lof rfl (Lof rfl (Lpk rfl rfl rfl (Lnt ?_)))))))))))
    refine Gs.cond_t rfl (Gsr (Las rfl rfl (Lnt (Gs.ret (Gr ?_)))))
    exact Gs.fin1 Tryz.results69 rfl _ (⟨by
      rw [hv0, good_no (by
        first
          | exact hbad
          | (rw [hshs, Bool.eq_false_iff]
             intro h
             simp only [inShp, Bool.and_eq_true, decide_eq_true_eq] at h
             first
               | (have e : x.n < 0 := of_decide_eq_true hg7; omega)
               | (have e : s.m < x.n := of_decide_eq_true hg14; omega)
               | (have e : (x.w.xs.length : Int) < s.w := of_decide_eq_true hg20; omega)
               | (have e : s.mw < (x.w.xs.length : Int) := of_decide_eq_true hg26; omega)
               | (have e : (x.ss.length : Int) < s.s := of_decide_eq_true hg32; omega)
               | (have e : s.ms < (x.ss.length : Int) := of_decide_eq_true hc0; omega)))], rfl⟩) (by repeat constructor)
   refine Lpu rfl rfl ⟨_, rfl, rfl⟩ (pu_move rfl) (Lpu rfl rfl ⟨_, rfl, rfl⟩ (pu_fa fa_152_2 rfl) (Lrd rfl rfl ⟨_, rfl, rfl⟩ (rd_ld na_3 rfl (Rdc.cl1 (by repeat constructor) rfl)) ?_))
   refine Lpu rfl rfl ⟨_, rfl, rfl⟩ (pu_lt rfl rfl) (Lpk rfl rfl rfl (LpuB rfl rfl trivial (pu_move rfl) (fun hg32 => ?_) (fun hg32 => ?_)))
   ·
    refine Lof rfl (Lof rfl (Lof rfl (Lof rfl (Lpk rfl rfl rfl (Lnt (Gs.cond_t rfl (Gsr (Las rfl rfl (Lnt (Gs.ret (Gr ?_)))))))))))
    exact Gs.fin1 Tryz.results69 rfl _ (⟨by
      rw [hv0, good_no (by
        first
          | exact hbad
          | (rw [hshs, Bool.eq_false_iff]
             intro h
             simp only [inShp, Bool.and_eq_true, decide_eq_true_eq] at h
             first
               | (have e : x.n < 0 := of_decide_eq_true hg7; omega)
               | (have e : s.m < x.n := of_decide_eq_true hg14; omega)
               | (have e : (x.w.xs.length : Int) < s.w := of_decide_eq_true hg20; omega)
               | (have e : s.mw < (x.w.xs.length : Int) := of_decide_eq_true hg26; omega)
               | (have e : (x.ss.length : Int) < s.s := of_decide_eq_true hg32; omega)
               | (have e : s.ms < (x.ss.length : Int) := of_decide_eq_true hc0; omega)))], rfl⟩) (by repeat constructor)
   refine Lpu rfl rfl ⟨_, rfl, rfl⟩ (pu_move rfl) (Lpu rfl rfl ⟨_, rfl, rfl⟩ (pu_fa fa_152_3 rfl) (Lrd rfl rfl ⟨_, rfl, rfl⟩ (rd_ld na_3 rfl (Rdc.cl1 (by repeat constructor) rfl)) ?_))
   refine Lpu rfl rfl ⟨_, rfl, rfl⟩ (pu_gt rfl rfl) (Lpk rfl rfl rfl (Lnt (Gs.cond rfl (fun hc0 => ?_) (fun hc0 => ?_))))
   ·
    refine Gsr (Las rfl rfl (Lnt (Gs.ret (Gr ?_))))
    exact Gs.fin1 Tryz.results69 rfl _ (⟨by
      rw [hv0, good_no (by
        first
          | exact hbad
          | (rw [hshs, Bool.eq_false_iff]
             intro h
             simp only [inShp, Bool.and_eq_true, decide_eq_true_eq] at h
             first
               | (have e : x.n < 0 := of_decide_eq_true hg7; omega)
               | (have e : s.m < x.n := of_decide_eq_true hg14; omega)
               | (have e : (x.w.xs.length : Int) < s.w := of_decide_eq_true hg20; omega)
               | (have e : s.mw < (x.w.xs.length : Int) := of_decide_eq_true hg26; omega)
               | (have e : (x.ss.length : Int) < s.s := of_decide_eq_true hg32; omega)
               | (have e : s.ms < (x.ss.length : Int) := of_decide_eq_true hc0; omega)))], rfl⟩) (by repeat constructor)
   have hin : shapeB x = true := by
     rw [hshs]
     have e7 : ¬ x.n < 0 := of_decide_eq_false hg7
     have e14 : ¬ s.m < x.n := of_decide_eq_false hg14
     have e20 : ¬ (x.w.xs.length : Int) < s.w := of_decide_eq_false hg20
     have e26 : ¬ s.mw < (x.w.xs.length : Int) := of_decide_eq_false hg26
     have e32 : ¬ (x.ss.length : Int) < s.s := of_decide_eq_false hg32
     have e37 : ¬ s.ms < (x.ss.length : Int) := of_decide_eq_false hc0
     simp only [inShp, Bool.and_eq_true, decide_eq_true_eq]
     omega
   refine Gs.skip (Gn (Gsr (Lq rfl (pu_fa fa_26_2 rfl) (Lr rfl (rd_ld na_23 rfl (Rdc.cl1 (by repeat constructor) rfl)) ?_))))
   refine La rfl (asC (containsS_spec (q := oddB) hA.w (fun l hl => hT.ct fun h0 T => oddT_spec T l (by have := hf2 l hl; omega)) (by show x.ws.length ≤ 1000; omega))) ?_
   rintro _ _ ⟨_, ⟨rfl, rfl⟩, rfl⟩
   refine Lq rfl (pu_not rfl) (LpuB rfl rfl trivial (pu_move rfl) (fun hg4 => ?_) (fun hg4 => ?_))
   ·
    refine Lpu rfl rfl ⟨_, rfl, rfl⟩ (pu_fa fa_26_3 rfl) (Lrd rfl rfl ⟨_, rfl, rfl⟩ (rd_ld na_24 rfl (Rdc.cl1 (by repeat constructor) rfl)) ?_)
    refine Lac rfl rfl ⟨_, rfl, rfl⟩ (asC (containsA_spec (q := fun y => !goodA oddB d y) hA.s (fun y hy => goodC_spec (ih (hA.sub y hy) (hf4 y hy))) (by omega))) ?_
    rintro _ _ ⟨_, ⟨rfl, rfl⟩, rfl⟩
    refine Lpu rfl rfl ⟨_, rfl, rfl⟩ (pu_not rfl) (Lpk rfl rfl rfl (Las rfl rfl (Lnt (Gs.ret ?_))))
    exact Gs.fin1 Tryz.results69 rfl _ (⟨by
      have e1 : (x.ws.all fun w => !oddB w) = !x.w.xs.any oddB := by rw [← List.not_any_eq_all_not]
      have e2 : x.ss.all (goodA oddB d) = !(x.ss.any fun y => !goodA oddB d y) := by rw [List.not_any_eq_all_not]; congr 1; funext y; rw [Bool.not_not]
      rw [hv0, good_yes hin, e1, e2]
      first
        | rw [show (!x.w.xs.any oddB) = true from hg4, Bool.true_and]
        | rw [show (!x.w.xs.any oddB) = false from hg4, Bool.false_and], rfl⟩) (by repeat constructor)
   refine Lof rfl (Lof rfl (Lof rfl (Lof rfl (Lpk rfl rfl rfl (Las rfl rfl (Lnt (Gs.ret ?_)))))))
   exact Gs.fin1 Tryz.results69 rfl _ (⟨by
     have e1 : (x.ws.all fun w => !oddB w) = !x.w.xs.any oddB := by rw [← List.not_any_eq_all_not]
     have e2 : x.ss.all (goodA oddB d) = !(x.ss.any fun y => !goodA oddB d y) := by rw [List.not_any_eq_all_not]; congr 1; funext y; rw [Bool.not_not]
     rw [hv0, good_yes hin, e1, e2]
     first
       | rw [show (!x.w.xs.any oddB) = true from hg4, Bool.true_and]
       | rw [show (!x.w.xs.any oddB) = false from hg4, Bool.false_and], rfl⟩) (by repeat constructor)
end Go.Proofs.YtklgiidfompdpaaGreatDoor
namespace Go.Proofs.YtklgiidfompdpaaGreatDoor
open Go Go.Sl Go.Gv Go.Kv Go.Po Go.Ix Go.Qu Go.Shelf
set_option maxRecDepth 100000
def mayA (d : Nat) (x : AskV) : Bool := decide (deepA d x ≤ 6) && (decide (termsA d x ≤ 16) && goodA oddB d x)
theorem deep_cast (n : Nat) : decide ((n : Int) ≤ 6) = decide (n ≤ 6) := decide_eq_decide.2 (by omega)
theorem terms_cast (n : Nat) : decide ((n : Int) ≤ 16) = decide (n ≤ 16) := decide_eq_decide.2 (by omega)
theorem mayA_spec {S : HProp} (hT : TabU S) {d : Nat} {x : AskV} (hA : ARd S x) (hF : FewA d x) (hz : sizeA d x ≤ 1000) (hd : d ≤ 1000) :
   Ct Tryz.prog 42 [askV x] [S] (fun v hs => v = .bool (mayA d x) ∧ hs = [S]) := by
 obtain ⟨v0, hv0⟩ : ∃ z, z = mayA d x := ⟨_, rfl⟩
 have hv := hv0
 unfold mayA at hv
 rw [← hv0]
 refine Cti Tryz.func42 (by kernel_rfl) 15 Tryz.ntmps42 rfl rfl fun w0 R => ?_
 refine Gsr (La rfl (ac_box rfl rfl) ?_)
 rintro _ _ ⟨xb, rfl, rfl⟩
 refine Las rfl rfl (Lnt (Gsr (Lr rfl (rd_lda ag_26 rfl (Rdc.cl 4 (by repeat constructor) rfl) rfl) ?_)))
 refine La rfl (asC (deepA_spec d hA hF hd)) ?_
 rintro _ _ ⟨_, ⟨rfl, rfl⟩, rfl⟩
 refine Lq rfl (pu_le rfl rfl) (LpuB rfl rfl trivial (pu_move rfl) (fun hg3 => ?_) (fun hg3 => ?_))
 ·
  refine Lrd rfl rfl ⟨_, rfl, rfl⟩ (rd_lda ag_26 rfl (Rdc.cl 4 (by repeat constructor) rfl) rfl) ?_
  refine Lac rfl rfl ⟨_, rfl, rfl⟩ (asC (termsA_spec d hA hF hz)) ?_
  rintro _ _ ⟨_, ⟨rfl, rfl⟩, rfl⟩
  refine Lpu rfl rfl ⟨_, rfl, rfl⟩ (pu_le rfl rfl) (Lpk rfl rfl rfl (LpuB rfl rfl trivial (pu_move rfl) (fun hg8 => ?_) (fun hg8 => ?_)))
  ·
   refine Lrd rfl rfl ⟨_, rfl, rfl⟩ (rd_lda ag_26 rfl (Rdc.cl 4 (by repeat constructor) rfl) rfl) ?_
   refine Lac rfl rfl ⟨_, rfl, rfl⟩ (asC (goodF_spec hT d hA hF)) ?_
   rintro _ _ ⟨_, ⟨rfl, rfl⟩, rfl⟩
   refine Lpk rfl rfl rfl (Las rfl rfl (Lnt (Gs.ret ?_)))
   exact Gs.fin1 Tryz.results42 rfl _ (⟨by
     rw [← deep_cast, ← terms_cast] at hv
     first
       | rw [hv, hg3, hg8]; rfl
       | rw [hv, hg3, hg8, Bool.true_and, Bool.true_and]
       | rw [hv, hg3, hg8, Bool.true_and, Bool.false_and]
       | rw [hv, hg3, Bool.false_and], rfl⟩) (by repeat constructor)
  refine Lof rfl (Lof rfl (Lpk rfl rfl rfl (Las rfl rfl (Lnt (Gs.ret ?_)))))
  exact Gs.fin1 Tryz.results42 rfl _ (⟨by
    rw [← deep_cast, ← terms_cast] at hv
    first
      | rw [hv, hg3, hg8]; rfl
      | rw [hv, hg3, hg8, Bool.true_and, Bool.true_and]
      | rw [hv, hg3, hg8, Bool.true_and, Bool.false_and]
      | rw [hv, hg3, Bool.false_and], rfl⟩) (by repeat constructor)
 refine Lof rfl (Lof rfl (Lof rfl (Lpk rfl rfl rfl (Lmv rfl rfl (Lof rfl (Lof rfl (Lpk rfl rfl rfl (Las rfl rfl (Lnt (Gs.ret ?_))))))))))
 exact Gs.fin1 Tryz.results42 rfl _ (⟨by
   rw [← deep_cast, ← terms_cast] at hv
   first
     | rw [hv, hg3, hg8]; rfl
     | rw [hv, hg3, hg8, Bool.true_and, Bool.true_and]
     | rw [hv, hg3, hg8, Bool.true_and, Bool.false_and]
     | rw [hv, hg3, Bool.false_and], rfl⟩) (by repeat constructor)
end Go.Proofs.YtklgiidfompdpaaGreatDoor
namespace Go.Proofs
open Go.Shelf
namespace YtklgiidfompdpaaGreatDoor
open Go Go.Sl Go.Gv Go.Kv Go.Sort Go.Po
set_option maxRecDepth 100000
theorem grow2P (w : World) (o o' : Obj) : (w.alloc o).alloc o' = grow w #[o, o'] := by rw [alloc_eq_grow, alloc_eq_grow, grow_grow]; rfl
theorem before_exactP (a1 a2 b1 b2 : Int) (w : World) : Calls Tryz.prog 137 #[.agg #[.int .i64 a1, .int .i64 a2], .agg #[.int .i64 b1, .int .i64 b2]] w fun e w' => e = .returned (.bool (before ⟨a1, a2⟩ ⟨b1, b2⟩)) ∧ ∃ os, w' = grow w os := by
 by_cases h : a1 = b1
 · go_enter Tryz.func137, Tryz.ntmps137
   subst h
   go_wp2
   go_ret
   exact ⟨by simp [before], _, grow2P ..⟩
 · go_enter Tryz.func137, Tryz.ntmps137
   go_wp2
   go_ret
   exact ⟨by simp [before, h], _, grow2P ..⟩
def GrwP (w w' : World) : Prop := ∃ os, w' = grow w os
def AftP (a1 a2 b1 b2 : Int) (w w' : World) : Prop := GrwP w w' ∧ w'.cell? ⟨w.heap.size, 0, none⟩ = some (.int .i64 a1) ∧ w'.cell? ⟨w.heap.size, 1, none⟩ = some (.int .i64 a2) ∧ w'.cell? ⟨w.heap.size + 1, 0, none⟩ = some (.int .i64 b1) ∧ w'.cell? ⟨w.heap.size + 1, 1, none⟩ = some (.int .i64 b2)
theorem heap2P (w : World) (o o' : Obj) : ((w.alloc o).alloc o').heap[w.heap.size]? = some o ∧ ((w.alloc o).alloc o').heap[w.heap.size + 1]? = some o' := by
 constructor
 · show ((w.heap.push o).push o')[w.heap.size]? = _
   rw [Array.getElem?_push_lt (by simp)]; simp
 · show ((w.heap.push o).push o')[w.heap.size + 1]? = _
   have : w.heap.size + 1 = (w.heap.push o).size := by simp
   rw [this, Array.getElem?_push_size]
theorem size2P (w : World) (o o' : Obj) : ((w.alloc o).alloc o').heap.size = w.heap.size + 2 := by show ((w.heap.push o).push o').size = _; simp
theorem aft_ofP (a1 a2 b1 b2 : Int) (w : World) (os : Array Obj) : AftP a1 a2 b1 b2 w (grow ((w.alloc (.cells #[.int .i64 a1, .int .i64 a2, .slice none 0 0] 106)).alloc (.cells #[.int .i64 b1, .int .i64 b2] 28)) os) := by
 obtain ⟨h1, h2⟩ := heap2P w (.cells #[.int .i64 a1, .int .i64 a2, .slice none 0 0] 106) (.cells #[.int .i64 b1, .int .i64 b2] 28)
 have hs := size2P w (.cells #[.int .i64 a1, .int .i64 a2, .slice none 0 0] 106) (.cells #[.int .i64 b1, .int .i64 b2] 28)
 refine ⟨⟨_, by rw [grow2P, grow_grow]⟩, ?_, ?_, ?_, ?_⟩
 · rw [cell?_grow _ _ _ (by rw [hs]; show w.heap.size < _; omega)]; unfold World.cell?; dsimp only; rw [h1]; rfl
 · rw [cell?_grow _ _ _ (by rw [hs]; show w.heap.size < _; omega)]; unfold World.cell?; dsimp only; rw [h1]; rfl
 · rw [cell?_grow _ _ _ (by rw [hs]; show w.heap.size + 1 < _; omega)]; unfold World.cell?; dsimp only; rw [h2]; rfl
 · rw [cell?_grow _ _ _ (by rw [hs]; show w.heap.size + 1 < _; omega)]; unfold World.cell?; dsimp only; rw [h2]; rfl
set_option maxHeartbeats 800000 in
theorem order_exact (a1 a2 b1 b2 : Int) (w : World) : Calls Tryz.prog 102 #[.agg #[.int .i64 a1, .int .i64 a2, .slice none 0 0], .agg #[.int .i64 b1, .int .i64 b2]] w fun e w' => e = .returned (.int .i64 (ordZ ⟨a1, a2⟩ ⟨b1, b2⟩)) ∧ ∃ os, w' = grow w os := by
 have hB : Calls Tryz.prog 137 #[.agg #[.int .i64 a1, .int .i64 a2], .agg #[.int .i64 b1, .int .i64 b2]] ((w.alloc (.cells #[.int .i64 a1, .int .i64 a2, .slice none 0 0] 106)).alloc (.cells #[.int .i64 b1, .int .i64 b2] 28)) fun e w' => e = .returned (.bool (before ⟨a1, a2⟩ ⟨b1, b2⟩)) ∧ AftP a1 a2 b1 b2 w w' := by
   refine (before_exactP a1 a2 b1 b2 _).mono ?_
   rintro e w' ⟨h, os, rfl⟩
   exact ⟨h, aft_ofP ..⟩
 have hC := fun W => before_exactP b1 b2 a1 a2 W
 unfold ordZ
 generalize before ⟨a1, a2⟩ ⟨b1, b2⟩ = B at hB ⊢
 generalize before ⟨b1, b2⟩ ⟨a1, a2⟩ = C at hC ⊢
 go_enter Tryz.func102, Tryz.ntmps102
 cases B
 · cases C
   · go_wp2_with (go_at_call 137; first | (with_reducible refine (hC _).mono ?_; rintro e w'' ⟨rfl, os2, rfl⟩) | (refine hB.mono ?_; rintro e w' ⟨rfl, hG, c0, c1, d0, d1⟩))
     go_ret
     obtain ⟨os, rfl⟩ := hG
     exact ⟨by simp, _, by rw [grow_grow]⟩
   · go_wp2_with (go_at_call 137; first | (with_reducible refine (hC _).mono ?_; rintro e w'' ⟨rfl, os2, rfl⟩) | (refine hB.mono ?_; rintro e w' ⟨rfl, hG, c0, c1, d0, d1⟩))
     go_ret
     obtain ⟨os, rfl⟩ := hG
     exact ⟨by simp, _, by rw [grow_grow]⟩
 · go_wp2_with (go_at_call 137; refine hB.mono ?_; rintro e w' ⟨rfl, hG, c0, c1, d0, d1⟩)
   go_ret
   obtain ⟨os, rfl⟩ := hG
   exact ⟨by simp, _, rfl⟩
theorem or1_exact (a1 a2 b1 b2 : Int) (w : World) : Calls Tryz.prog 177 #[.agg #[.int .i64 a1, .int .i64 a2], .agg #[.int .i64 b1, .int .i64 b2]] w fun e w' => e = .returned (.int .i64 (ordZ ⟨a1, a2⟩ ⟨b1, b2⟩)) ∧ ∃ os, w' = grow w os := by
 have hB := fun W => order_exact a1 a2 b1 b2 W
 go_enter Tryz.func177, Tryz.ntmps177
 go_wp2_with (go_at_call 102; refine (hB _).mono ?_; rintro e w' ⟨rfl, os, rfl⟩)
 go_ret
 exact ⟨by simp, _, by rw [grow2P, grow_grow]⟩
end YtklgiidfompdpaaGreatDoor
end Go.Proofs
namespace Go.Proofs
open Go.Shelf
namespace YtklgiidfompdpaaGreatDoor
open Go Go.Sl Go.Gv Go.Kv Go.Sort Go.Po
set_option maxRecDepth 100000
instance instKeyO : Inhabited Key := ⟨⟨0, 0⟩⟩
def cfO (a b : Key) : Int := ordZ a b
theorem ltOf_cfO (x y : Key) : ltOf cfO x y = before x y := by
 unfold ltOf cfO; exact ordZ_lt
theorem swo_keyO : SWO (ltOf cfO) where
 irrefl x := by rw [ltOf_cfO]; exact before_irr
 trans x y z h1 h2 := by rw [ltOf_cfO] at *; exact before_trans h1 h2
 ntrans x y z h1 h2 := by rw [ltOf_cfO] at *; rw [before_not] at *; omega
theorem tot_keyO (x y : Key) (h1 : ltOf cfO x y = false) (h2 : ltOf cfO y x = false) : x = y := by
 rw [ltOf_cfO] at *; rw [before_not] at *
 cases x; cases y; simp at *; omega
def sortM (l : List Key) : List Key := l.mergeSort fun x y => !before y x
theorem sortM_length {l : List Key} : (sortM l).length = l.length := List.length_mergeSort ..
theorem sortO_spec (a : Option Addr) (c : Nat) (xs : List Key) (hl : xs.length ≤ 100000) : Ct Tryz.prog 135 [.slice a xs.length c, .func (.func 177) #[] #[]] [sl 28 2 keyC a c xs]
   (fun v hs => v = .tuple #[] ∧ hs = [sl 28 2 keyC a c (sortM xs)]) := by
 refine ⟨enters_of Tryz.func135 (by kernel_rfl) rfl _, fun w0 w R s => ?_⟩
 by_cases he : xs = []
 · subst he
   refine (AnyF.slices_SortFunc_none { Tryz.sortKeys with } a c (.func (.func 177) #[] #[]) w).mono ?_
   rintro e w' ⟨rfl, rfl⟩
   exact ⟨_, _, rfl, ⟨rfl, rfl⟩, by rw [show sortM ([] : List Key) = [] from List.mergeSort_nil]; exact s⟩
 · obtain ⟨b, off, ha, -⟩ := (SlH.own .hd : SlH w0 ([sl 28 2 keyC a c xs] ++ R) 2 keyC a xs) w s he
   subst ha
   obtain ⟨hH, hb⟩ := sl_holds ek_28 s
   have eg : ∀ args w, (callFunc 177 args).run Tryz.prog w = .ok (.enter 177 args) w := enters_of Tryz.func177 (by kernel_rfl) rfl
   have hS := AnyQ.slices_SortFunc_total (P := Tryz.prog) { Tryz.sortKeys with } 2 Tryz.isAgg28 Tryz.sizeOf28 keyC (fun _ => rfl) ek_28.one cfO swo_keyO 177 #[] b off c xs.toArray w eg
     (fun m os dk _ x y => (or1_exact x.o x.q y.o y.q _).mono fun e w' ⟨h1, os', h2⟩ => ⟨h1, 0, os', h2⟩) hH hb (by simp; omega) tot_keyO
   refine hS.mono ?_
   rintro e w' ⟨rfl, n, os, rfl⟩
   refine ⟨_, _, rfl, ⟨rfl, rfl⟩, ?_⟩
   have hm : (xs.toArray.toList.mergeSort fun x y => !(ltOf cfO) y x) = sortM xs := by
     have e : (fun x y : Key => !(ltOf cfO) y x) = fun x y => !before y x := by funext x y; rw [ltOf_cfO]
     rw [e]; rfl
   rw [hm]
   exact sl_sorted ek_28 sortM_length s
end YtklgiidfompdpaaGreatDoor
end Go.Proofs
namespace Go.Proofs.YtklgiidfompdpaaGreatDoor
open Go Go.Sl Go.Gv Go.Po
set_option maxRecDepth 100000
def porV (ls : List (SlV PostV)) : List Key := if mayAll (ls.map fun l => l.xs.map PostV.p) then dd (sortM (keysL ls)) else []
theorem por_spec {S : HProp} {a : Option Addr} {c : Nat} {ls : List (SlV PostV)} (hS : LRd S a ls) (hl : ls.length ≤ 900) (hk : (keysL ls).length ≤ 90000) :
   Ct Tryz.prog 132 [.slice a ls.length c] [S] (fun v hs => ∃ a' c', v = .slice a' (porV ls).length c' ∧ hs = [S, sl 28 2 keyC a' c' (porV ls)]) := by
 refine Cti Tryz.func132 (by kernel_rfl) 33 Tryz.ntmps132 rfl rfl fun w0 R => ?_
 refine Gs.slAddr (hS.1.h (by repeat constructor)) fun lb lo hla => ?_
 refine Gsr (Las rfl rfl (Lnt (Gs.seq (Gsr (Lmv rfl rfl (La rfl (asC (odd_spec hS (by omega))) ?_))))))
 rintro _ _ ⟨_, ⟨rfl, rfl⟩, rfl⟩
 refine Lnt (Gs.cond rfl (fun hc0 => ?_) (fun hc0 => ?_))
 ·
  have hno : porV ls = [] := if_neg (by intro h; have h2 : mayAll (plain2 ls) = true := h; rw [not_t hc0] at h2; cases h2)
  refine Gsr (Las rfl rfl (Lnt (Gs.ret (Gr (Gs.slNil 28 2 keyC ?_)))))
  exact Gs.fin1 Tryz.results132 rfl _ (⟨none, 0, by rw [hno]; rfl, by rw [hno]⟩) (by repeat constructor)
 have hmay : mayAll (plain2 ls) = true := not_f hc0
 refine Gs.skip (Gn (Gsr (Las rfl rfl (Lnil (Gs.slNil 28 2 keyC (Gn (Gs.seq (Gsr (Lmv rfl rfl (Lq rfl (pu_len Tryz.underlying120 rfl) (Lmv rfl rfl ?_)))))))))))
 refine Lnt (Gs.block (Gs.loop1 (fun s : Nat × (Option Addr × Nat) × List Key => s.1 ≤ ls.length ∧ s.2.2 = keysL (ls.take s.1)) (fun s => [(3, .slice s.2.1.1 s.2.2.length s.2.1.2), (10, .slice a ls.length c), (11, int ls.length), (12, int s.1)]) (fun s => [S, sl 28 2 keyC s.2.1.1 s.2.1.2 s.2.2] ++ R) (fun s => ls.length - s.1) (0, (none, 0), []) (⟨Nat.zero_le _, rfl⟩) (by repeat constructor) (by repeat constructor) (fun s hs => ?_)))
 obtain ⟨i, ⟨ka, kc⟩, K⟩ := s
 obtain ⟨hi, hK⟩ := hs
 dsimp only at hi hK ⊢
 refine Gsr (Lq rfl (pu_lt rfl rfl) (Lnt (Gs.seq (Gs.cond rfl (fun hc1 => ?_) (fun hc1 => ?_)))))
 ·
  have hlt : i < ls.length := by have := of_decide_eq_true hc1; omega
  obtain ⟨⟨ya, yx, yc⟩, hy⟩ : ∃ x, ls[i]? = some x := ⟨ls[i], by simp [hlt]⟩
  obtain rfl := hla (by rintro rfl; simp at hlt)
  have hyS : PRd S ya yx ∧ yx.length ≤ 1000 := hS.2 _ (List.mem_of_getElem? hy)
  have hkt : keysL (ls.take (i + 1)) = keysL (ls.take i) ++ yx.map PostV.k := keysL_take hy
  have hkl := keysL_le ls (i + 1)
  rw [hkt, List.length_append, List.length_map] at hkl
  refine Gs.slAddr (hyS.1.1.h (by repeat constructor)) fun yb yo hya => ?_
  refine Gs.skip (Gn (Gs.seq (Gs.block (Gsr (Lq rfl (pu_ia se_120 rfl rfl (by omega) (by omega)) (Lr rfl (rd_ld na_94 rfl (Rdc.el0 (enc := slC) (sz := 1) (hS.1.h (by repeat constructor)) hy rfl rfl)) ?_))))))
  refine Las rfl rfl (Lnt (Gsr (Lmv rfl rfl (Lq rfl (pu_len Tryz.underlying94 rfl) (Lmv rfl rfl (Lnt (Gs.block (Gs.loop1 (fun s : Nat × (Option Addr × Nat) × List Key => s.1 ≤ yx.length ∧ s.2.2 = keysL (ls.take i) ++ (yx.take s.1).map PostV.k) (fun s => [(3, .slice s.2.1.1 s.2.2.length s.2.1.2), (10, .slice (some ⟨lb, lo, none⟩) ls.length c), (11, int ls.length), (12, int i), (16, .slice ya yx.length yc), (17, int yx.length), (18, int s.1)]) (fun s => [S, sl 28 2 keyC s.2.1.1 s.2.1.2 s.2.2] ++ R) (fun s => yx.length - s.1) (0, (ka, kc), K) (⟨Nat.zero_le _, by show K = _; rw [hK]; simp⟩) (by repeat constructor) (by repeat constructor) (fun s hs1 => ?_)))))))))
  obtain ⟨j, ⟨ka, kc⟩, K⟩ := s
  obtain ⟨hj, hK⟩ := hs1
  dsimp only at hj hK ⊢
  have hKl : K.length ≤ 90000 := by rw [hK, List.length_append, List.length_map, List.length_take]; omega
  refine Gsr (Lq rfl (pu_lt rfl rfl) (Lnt (Gs.seq (Gs.cond rfl (fun hc2 => ?_) (fun hc2 => ?_)))))
  ·
   have hlt1 : j < yx.length := by have := of_decide_eq_true hc2; omega
   obtain ⟨p, hp⟩ : ∃ x, yx[j]? = some x := ⟨yx[j], by simp [hlt1]⟩
   obtain rfl := hya (by intro e; rw [e] at hp; simp at hp)
   have hin : K ++ [p.k] = keysL (ls.take i) ++ (yx.take (j + 1)).map PostV.k := by rw [hK, mapk_take hp, List.append_assoc]
   refine Gs.skip (Gn (Gs.seq (Gs.block (Gsr (Lq rfl (pu_ia se_94 rfl rfl (by omega) (by omega)) (Lr rfl (rd_lda ag_106 rfl (Rdc.el0 (hyS.1.1.h (by repeat constructor)) hp rfl rfl) rfl) ?_))))))
   refine La rfl (ac_alloc zv_106 rfl) ?_
   rintro _ _ ⟨pb, rfl, rfl⟩
   refine Lac0 rfl trivial (ac_st sz_106 rfl rfl (by repeat constructor) rfl rfl rfl rfl) ?_
   rintro _ _ rfl
   refine Lnt (Gs.reg (Lmv rfl rfl (Lq rfl (pu_fa fa_106_0 rfl) (Lr rfl (rd_lda ag_28 rfl (Rdc.cl 2 (by repeat constructor) rfl) rfl) ?_))))
   refine La rfl (ac_lit encC_28 ([p.k]) et_48 ek_28 rfl (by repeat constructor) rfl rfl (by decide)) ?_
   rintro _ _ ⟨a25, rfl, rfl⟩
   refine La rfl (ac_append (xs := K) (ys := [p.k]) et_48 ek_28 rfl rfl (by repeat constructor) (SrcH.sl Tryz.underlying48 ek_28 (SlH.own (by repeat constructor))) (by first | omega | (simp; omega)) (by first | omega | (simp; omega))) ?_
   rintro _ _ ⟨a26, c26, rfl, rfl⟩
   refine Las rfl rfl (Lnil (Gs.blk_n (Gn (Gs.reg (Lq rfl (by first | exact pu_addI rfl rfl rfl (by omega) (by omega) | exact pu_add rfl rfl) ?_)))))
   refine Lmv rfl rfl (Lnt ?_)
   exact Ag (j + 1, (a26, c26), K ++ [p.k]) ⟨by show j + 1 ≤ yx.length; omega, hin⟩ (by show yx.length - (j + 1) < yx.length - j; omega)
  have hge1 : j = yx.length := by have := of_decide_eq_false hc2; omega
  rw [hge1, List.take_length, ← hkt] at hK
  refine Gs.exit (Gx (Gx (Gs.blk_hit (Gs.blk_n (Gn (Gs.reg (Lq rfl (by first | exact pu_addI rfl rfl rfl (by omega) (by omega) | exact pu_add rfl rfl) ?_)))))))
  refine Lmv rfl rfl (Lnt ?_)
  exact Ag (i + 1, (ka, kc), K) ⟨by show i + 1 ≤ ls.length; omega, hK⟩ (by show ls.length - (i + 1) < ls.length - i; omega)
 have hge : i = ls.length := by have := of_decide_eq_false hc1; omega
 rw [hge, List.take_length] at hK
 subst hK
 refine Gs.exit (Gx (Gx (Gs.blk_hit (Gn (Gsr (Lmv rfl rfl (La rfl (asC (sortO_spec ka kc (keysL ls) (by omega))) ?_)))))))
 rintro _ _ ⟨_, ⟨rfl, rfl⟩, rfl⟩
 refine Lnt (Gs.seq ?_)
 rw [show (keysL ls).length = (sortM (keysL ls)).length from sortM_length.symm]
 refine Gs.reg (Lmv rfl rfl (La rfl (asC (compact_spec (a := ka) (c := kc) (xs := sortM (keysL ls)) (by rw [sortM_length]; omega))) ?_))
 rintro _ _ ⟨_, ⟨rfl, rfl⟩, rfl⟩
 refine Las rfl rfl (Lnt (Gs.ret ?_))
 exact Gs.fin1 Tryz.results132 rfl _ (⟨ka, kc, by rw [show porV ls = dd (sortM (keysL ls)) from if_pos hmay], by rw [show porV ls = dd (sortM (keysL ls)) from if_pos hmay]⟩) (by repeat constructor)
end Go.Proofs.YtklgiidfompdpaaGreatDoor
namespace Go.Po
open Go Go.Sl Go.Gv
abbrev AscK (l : List Key) : Prop := l.Pairwise fun a b => before a b = true
theorem asc_ext : ∀ {l m : List Key}, AscK l → AscK m → (∀ k, k ∈ l ↔ k ∈ m) → l = m
 | [], [], _, _, _ => rfl
 | [], y :: m, _, _, h => absurd ((h y).2 (by simp)) (by simp)
 | x :: l, [], _, _, h => absurd ((h x).1 (by simp)) (by simp)
 | x :: l, y :: m, hl, hm, h => by
   have hl' := List.pairwise_cons.1 hl
   have hm' := List.pairwise_cons.1 hm
   have e : x = y := by
     rcases List.mem_cons.1 ((h x).1 (by simp)) with e | hx
     · exact e
     rcases List.mem_cons.1 ((h y).2 (by simp)) with e | hy
     · exact e.symm
     have h1 := hm'.1 x hx
     have h2 := hl'.1 y hy
     rw [before_asymm h1] at h2; cases h2
   subst e
   congr 1
   refine asc_ext hl'.2 hm'.2 fun k => ⟨fun hk => ?_, fun hk => ?_⟩
   · rcases List.mem_cons.1 ((h k).1 (by simp [hk])) with e | hx
     · subst e; have := hl'.1 k hk; rw [before_irr] at this; cases this
     · exact hx
   · rcases List.mem_cons.1 ((h k).2 (by simp [hk])) with e | hx
     · subst e; have := hm'.1 k hk; rw [before_irr] at this; cases this
     · exact hx
theorem asc_filter {l : List Key} (h : AscK l) (f : Key → Bool) : AscK (l.filter f) := List.Pairwise.filter _ h
theorem dd_mem : ∀ (l : List Key) (k : Key), k ∈ dd l ↔ k ∈ l
 | [], _ => Iff.rfl
 | [_], _ => Iff.rfl
 | x :: y :: l, k => by
   have ih := dd_mem (y :: l) k
   unfold dd
   split
   · rename_i e; subst e
     rw [ih]; simp
   · simp only [List.mem_cons] at ih ⊢; rw [ih]
theorem dd_asc : ∀ {l : List Key}, (l.Pairwise fun a b => before b a = false) → AscK (dd l)
 | [], _ => List.Pairwise.nil
 | [_], _ => List.pairwise_singleton ..
 | x :: y :: l, h => by
   have h' := List.pairwise_cons.1 h
   have ih := dd_asc h'.2
   unfold dd
   split
   · exact ih
   · rename_i hne
     refine List.pairwise_cons.2 ⟨fun k hk => ?_, ih⟩
     have hk' := (dd_mem _ k).1 hk
     have h1 := h'.1 k hk'
     by_cases e : x = k
     · subst e
       rcases List.mem_cons.1 hk' with e | hk2
       · exact (hne e).elim
       · have h2 := (List.pairwise_cons.1 h'.2).1 x hk2
         have h3 := h'.1 y (by simp)
         rcases before_total hne with h4 | h4
         · rw [h4] at h2; cases h2
         · rw [h4] at h3; cases h3
     · rcases before_total e with h4 | h4
       · exact h4
       · rw [h4] at h1; cases h1
theorem intoL_asc {l : List Key} (hA : AscK l) (k : Key) : AscK (intoL l k) ∧ ∀ j, j ∈ intoL l k ↔ j = k ∨ j ∈ l := by
 have hlo : ∀ x ∈ l.take (at_ l k), before x k = true := fun x hx => by
   obtain ⟨m, h1, h2⟩ := mem_take_at hx
   obtain ⟨hl, rfl⟩ := List.getElem?_eq_some_iff.1 h2
   have := List.not_of_lt_findIdx (p := fun x => !before x k) (xs := l) h1
   simpa using this
 unfold intoL
 split
 · rename_i he
   exact ⟨hA, fun j => ⟨fun hj => .inr hj, fun hj => hj.elim (fun e => e ▸ List.mem_of_getElem? he) id⟩⟩
 · rename_i he
   have hhi : ∀ x ∈ l.drop (at_ l k), before k x = true := fun x hx => by
     obtain ⟨m, h1, h2⟩ := mem_drop_at hx
     have hlen : m < l.length := (List.getElem?_eq_some_iff.1 h2).1
     have hlt : at_ l k < l.length := by omega
     have h3 : before (l[at_ l k]'hlt) k = false := by
       have := List.findIdx_getElem (p := fun x => !before x k) (xs := l) (w := hlt)
       have h4 : (!before (l[at_ l k]'hlt) k) = true := this
       simpa using h4
     have h5 : before k (l[at_ l k]'hlt) = true := by
       have hne : l[at_ l k]'hlt ≠ k := fun e => he (by rw [List.getElem?_eq_getElem hlt, e])
       rcases before_total hne with h | h
       · rw [h] at h3; cases h3
       · exact h
     obtain ⟨hl2, rfl⟩ := List.getElem?_eq_some_iff.1 h2
     rcases Nat.lt_or_eq_of_le h1 with h | h
     · exact before_trans h5 (List.pairwise_iff_getElem.1 hA _ _ hlt hl2 h)
     · have : l[at_ l k]'hlt = l[m] := by congr 1
       rw [← this]; exact h5
   constructor
   · refine List.pairwise_append.2 ⟨List.pairwise_append.2 ⟨hA.sublist (List.take_sublist ..), List.pairwise_singleton .., fun x hx y hy => ?_⟩, hA.sublist (List.drop_sublist ..), fun x hx y hy => ?_⟩
     · simp at hy; subst hy; exact hlo x hx
     · rcases List.mem_append.1 hx with hx | hx
       · exact before_trans (hlo x hx) (hhi y hy)
       · simp at hx; subst hx; exact hhi y hy
   · intro j
     have e : j ∈ l ↔ j ∈ l.take (at_ l k) ∨ j ∈ l.drop (at_ l k) := by rw [← List.mem_append, List.take_append_drop]
     rw [e, List.mem_append, List.mem_append, List.mem_singleton]
     constructor
     · rintro ((h | h) | h)
       · exact .inr (.inl h)
       · exact .inl h
       · exact .inr (.inr h)
     · rintro (h | h | h)
       · exact .inl (.inr h)
       · exact .inl (.inl h)
       · exact .inr h
theorem intoAll_asc (ks : List Key) : AscK (intoAll ks) ∧ ∀ j, j ∈ intoAll ks ↔ j ∈ ks := by
 have : ∀ (ks acc : List Key), AscK acc → AscK (ks.foldl intoL acc) ∧ ∀ j, j ∈ ks.foldl intoL acc ↔ j ∈ acc ∨ j ∈ ks := by
   intro ks
   induction ks with
   | nil => intro acc h; exact ⟨h, fun j => by simp⟩
   | cons k ks ih =>
     intro acc h
     obtain ⟨h1, h2⟩ := intoL_asc h k
     obtain ⟨h3, h4⟩ := ih _ h1
     refine ⟨h3, fun j => ?_⟩
     rw [List.foldl_cons, h4, h2, List.mem_cons]
     constructor
     · rintro ((h | h) | h)
       · exact .inr (.inl h)
       · exact .inl h
       · exact .inr (.inr h)
     · rintro (h | h | h)
       · exact .inl (.inr h)
       · exact .inl (.inl h)
       · exact .inr h
 obtain ⟨h1, h2⟩ := this ks [] List.Pairwise.nil
 exact ⟨h1, fun j => by rw [intoAll, h2]; simp⟩
theorem orV_asc (ls : List (SlV PostV)) : AscK (orV ls) := by
 unfold orV; split
 · exact (intoAll_asc _).1
 · exact List.Pairwise.nil
theorem keysL_mem {ls : List (SlV PostV)} {k : Key} : k ∈ keysL ls ↔ ∃ l ∈ ls, ∃ p ∈ l.xs, p.k = k := by
 unfold keysL
 rw [List.mem_flatMap]
 constructor
 · rintro ⟨l, hl, h⟩
   obtain ⟨p, hp, e⟩ := List.mem_map.1 h
   exact ⟨l, hl, p, hp, e⟩
 · rintro ⟨l, hl, p, hp, e⟩
   exact ⟨l, hl, List.mem_map.2 ⟨p, hp, e⟩⟩
abbrev MayL (ls : List (SlV PostV)) : Prop := mayAll (ls.map fun l => l.xs.map PostV.p) = true
theorem orV_mem {ls : List (SlV PostV)} (h : MayL ls) {k : Key} : k ∈ orV ls ↔ ∃ l ∈ ls, ∃ p ∈ l.xs, p.k = k := by
 rw [orV, if_pos h, (intoAll_asc _).2, keysL_mem]
theorem keys_asc {l : SlV PostV} (h : mayB (l.xs.map PostV.p) = true) : AscK (l.xs.map PostV.k) := by
 have := may_asc h
 rw [List.map_map] at this
 exact this
theorem look_iff {l : List PostV} {k : Key} : (lookP l k).isSome = true ↔ ∃ p ∈ l, p.k = k := by
 unfold lookP; rw [List.find?_isSome]; simp
theorem andV_asc (ls : List (SlV PostV)) : AscK (andV ls) := by
 unfold andV; split
 · exact List.Pairwise.nil
 · rename_i l0 r
   split
   · rename_i hm
     have h0 : mayB (l0.xs.map PostV.p) = true := List.all_eq_true.1 hm _ (by simp)
     exact (keys_asc h0).sublist (List.Sublist.map _ List.filter_sublist)
   · exact List.Pairwise.nil
theorem andV_iff {ls : List (SlV PostV)} (h : MayL ls) (hne : ls ≠ []) {k : Key} : k ∈ andV ls ↔ ∀ l ∈ ls, ∃ p ∈ l.xs, p.k = k := by
 obtain ⟨l0, r, rfl⟩ := List.exists_cons_of_ne_nil hne
 have e : andV (l0 :: r) = (l0.xs.filter fun p => hasAll (l0 :: r) p.k).map PostV.k := if_pos h
 rw [e, List.mem_map]
 constructor
 · rintro ⟨p, hp, rfl⟩ l hl
   have := List.all_eq_true.1 (List.mem_filter.1 hp).2 l hl
   exact look_iff.1 this
 · intro hk
   obtain ⟨p, hp, rfl⟩ := hk l0 (by simp)
   exact ⟨p, List.mem_filter.2 ⟨hp, List.all_eq_true.2 fun l hl => look_iff.2 (hk l hl)⟩, rfl⟩
theorem phraseV_asc (ls : List (SlV PostV)) : AscK (phraseV ls) := asc_filter (andV_asc ls) _
theorem phrase_eq (ls : List (SlV PostV)) : eachV (fun ps => followB (ps.map fun p => p.t.xs)) ls = phraseV ls := by
 unfold eachV phraseV andV
 split
 · rfl
 · rename_i l0 r
   split
   · rename_i hm
     have h0 : mayB (l0.xs.map PostV.p) = true := List.all_eq_true.1 hm _ (by simp)
     rw [List.filter_map, List.filter_filter]
     congr 1
     refine List.filter_congr fun p hp => ?_
     have hl := look_self (may_asc h0) hp
     have hf : foundV (l0 :: r) p.k = p :: foundV r p.k := by
       unfold foundV
       rw [List.filterMap_cons_some (f := fun l : SlV PostV => lookP l.xs p.k) hl]
     rw [← found_all, hf, Bool.and_comm]
     congr 1
     show followB ((p :: foundV r p.k).map fun p => p.t.xs) = followB (atsV (l0 :: r) p.k)
     unfold atsV
     rw [hf]
   · rfl
end Go.Po
namespace Go.Proofs.YtklgiidfompdpaaGreatDoor
open Go Go.Sl Go.Gv Go.Po
theorem porV_eq (ls : List (SlV PostV)) : porV ls = orV ls := by
 unfold porV orV
 split
 · refine asc_ext (dd_asc ?_) (intoAll_asc _).1 fun k => ?_
   · have := List.pairwise_mergeSort (le := fun x y : Key => !before y x) (fun a b c h1 h2 => by
       simp only [Bool.not_eq_true'] at *
       rw [before_not] at *; omega) (fun a b => by
       cases h : before b a with
       | false => rfl
       | true => simp [before_asymm h]) (keysL ls)
     exact this.imp fun h => by simpa using h
   · rw [dd_mem, (intoAll_asc _).2]
     exact (List.mergeSort_perm ..).mem_iff
 · rfl
theorem phrase_eq' (ls : List (SlV PostV)) : eachV followV ls = phraseV ls := phrase_eq ls
end Go.Proofs.YtklgiidfompdpaaGreatDoor
namespace Go.Ix
open Go Go.Sl Go.Gv Go.Kv Go.Po Go.Bst
theorem fold_catP (k : Key) : ∀ (l : List PostP) (M : PM), (mkeys l).Nodup → mget (l.foldl catP M) k = match mget l k with
   | none => mget M k
   | some at' => some ((mget M k).getD [] ++ at')
 | [], _, _ => rfl
 | e :: l, M, hn => by
   have hn' := List.nodup_cons.1 hn
   rw [List.foldl_cons, fold_catP k l _ hn'.2]
   have he : mget (e :: l) k = if k = e.1 then some e.2 else mget l k := by obtain ⟨a, b⟩ := e; rfl
   have hc : mget (catP M e) k = if k = e.1 then some ((mget M e.1).getD [] ++ e.2) else mget M k := mget_put _ _ _ _
   rw [he, hc]
   by_cases h : k = e.1
   · subst h
     rw [if_pos rfl, if_pos rfl, mget_none.2 hn'.1]
   · rw [if_neg h, if_neg h]
theorem catP_nodup : ∀ (l : List PostP) (M : PM), (mkeys M).Nodup → (mkeys (l.foldl catP M)).Nodup
 | [], _, h => h
 | _ :: l, _, h => catP_nodup l _ (nodup_put h _ _)
end Go.Ix
namespace Go.Proofs.YtklgiidfompdpaaGreatDoor
open Go Go.Sl Go.Gv Go.Kv Go.Po Go.Ix Go.Bst
theorem toks_le121 (r : Rec) : (toksV r.t).length ≤ 121 := by rw [toksV, toks_length]; exact words_len _
def preAts (w : ByteArray) (ws : List ByteArray) (r : Rec) : List Int := (ws.filter fun s => preB s w).flatMap fun s => atsOf (toksV r.t) s
theorem may_nodup {l : List PostP} (h : mayB l = true) : (mkeys l).Nodup := (may_asc h).imp fun {a b} hab e => by rw [e, before_irr] at hab; cases hab
theorem IxIs.posn {rs : List Rec} {s : PL × PW} (h : IxIs rs s) {r : Rec} (hr : r ∈ rs) (w : ByteArray) : mget ((mget s.1 w).getD []) r.key = mget (tok r) w := by
 obtain ⟨h1, h2⟩ := h.getD w
 have hn := may_nodup h1
 cases hm : mget (tok r) w with
 | some l => exact mget_of_mem hn ((h2 (r.key, l)).2 ⟨r, hr, rfl, hm⟩)
 | none =>
   cases hm' : mget ((mget s.1 w).getD []) r.key with
   | none => rfl
   | some l =>
     obtain ⟨r', hr', h3, h4⟩ := (h2 (r.key, l)).1 (mget_mem hm')
     rw [key_inj h.keys hr' hr h3.symm, hm] at h4; cases h4
theorem IxIs.pre_get {rs : List Rec} {s : PL × PW} (h : IxIs rs s) (w : ByteArray) : ∀ (ws : List ByteArray) (M : PM), (mkeys M).Nodup → (∀ k ∈ mkeys M, k ∈ rs.map Rec.key) →
   (mkeys (ws.foldl (preStep w s.1) M)).Nodup ∧ (∀ k ∈ mkeys (ws.foldl (preStep w s.1) M), k ∈ rs.map Rec.key) ∧
   ∀ r ∈ rs, (mget (ws.foldl (preStep w s.1) M) r.key).getD [] = (mget M r.key).getD [] ++ preAts w ws r ∧ (mget (ws.foldl (preStep w s.1) M) r.key = none ↔ mget M r.key = none ∧ preAts w ws r = [])
 | [], M, hn, hk => ⟨hn, hk, fun r hr => ⟨by simp [preAts], by simp [preAts]⟩⟩
 | v :: ws, M, hn, hk => by
   rw [List.foldl_cons]
   by_cases hp : preB v w = true
   · have hst : preStep w s.1 M v = ((mget s.1 v).getD []).foldl catP M := by unfold preStep; rw [if_pos hp]
     obtain ⟨h1, h2⟩ := h.getD v
     have hnl := may_nodup h1
     have hn2 : (mkeys (((mget s.1 v).getD []).foldl catP M)).Nodup := catP_nodup _ _ hn
     have hk2 : ∀ k ∈ mkeys (((mget s.1 v).getD []).foldl catP M), k ∈ rs.map Rec.key := fun k hkm => by
       cases hm : mget ((mget s.1 v).getD []) k with
       | some l =>
         obtain ⟨r, hr, h3, -⟩ := (h2 (k, l)).1 (mget_mem hm)
         exact List.mem_map.2 ⟨r, hr, h3.symm⟩
       | none =>
         refine hk k (Classical.byContradiction fun hc => ?_)
         have := fold_catP k ((mget s.1 v).getD []) M hnl
         rw [hm, mget_none.2 hc] at this
         exact mget_none.1 this hkm
     obtain ⟨i1, i2, i3⟩ := IxIs.pre_get h w ws _ hn2 hk2
     rw [hst]
     refine ⟨i1, i2, fun r hr => ?_⟩
     obtain ⟨j1, j2⟩ := i3 r hr
     have hg := fold_catP r.key ((mget s.1 v).getD []) M hnl
     rw [h.posn hr, posL_get] at hg
     have hpa : preAts w (v :: ws) r = atsOf (toksV r.t) v ++ preAts w ws r := by unfold preAts; rw [List.filter_cons_of_pos (p := fun s => preB s w) hp, List.flatMap_cons]
     rw [hpa]
     by_cases ha : atsOf (toksV r.t) v = []
     · rw [if_pos ha] at hg
       rw [j1, j2, hg, ha]; simp
     · rw [if_neg ha] at hg
       rw [j1, j2, hg]
       refine ⟨by simp, ?_⟩
       simp [ha]
   · have hst : preStep w s.1 M v = M := by unfold preStep; rw [if_neg hp]
     rw [hst]
     obtain ⟨i1, i2, i3⟩ := IxIs.pre_get h w ws M hn hk
     refine ⟨i1, i2, fun r hr => ?_⟩
     have hpa : preAts w (v :: ws) r = preAts w ws r := by unfold preAts; rw [List.filter_cons_of_neg (p := fun s => preB s w) (by simpa using hp)]
     rw [hpa]; exact i3 r hr
theorem ats_mem {T : List WordP} {s : ByteArray} {x : Int} (h : x ∈ atsOf T s) : (s, x) ∈ T := by
 unfold atsOf at h
 obtain ⟨p, hp, rfl⟩ := List.mem_map.1 h
 obtain ⟨h1, h2⟩ := List.mem_filter.1 hp
 have : p.1 = s := of_decide_eq_true h2
 rw [← this]; exact h1
theorem up_inj {T : List WordP} (h : T.Pairwise fun p q => p.2 < q.2) {p q : WordP} (hp : p ∈ T) (hq : q ∈ T) (e : p.2 = q.2) : p = q := by
 induction T with
 | nil => cases hp
 | cons x T ih =>
   have h' := List.pairwise_cons.1 h
   rcases List.mem_cons.1 hp with h1 | h1
   · rcases List.mem_cons.1 hq with h2 | h2
     · rw [h1, h2]
     · have := h'.1 q h2; rw [h1] at e; omega
   · rcases List.mem_cons.1 hq with h2 | h2
     · have := h'.1 p h1; rw [h2] at e; omega
     · exact ih h'.2 h1 h2
theorem flat_nodup {T : List WordP} (h : UpT T) : ∀ (ws : List ByteArray), ws.Nodup → (ws.flatMap fun s => atsOf T s).Nodup
 | [], _ => List.nodup_nil
 | v :: ws, hn => by
   have hn' := List.nodup_cons.1 hn
   rw [List.flatMap_cons, List.nodup_append]
   refine ⟨(ats_up h v).1.imp fun {a b} hab e => by omega, flat_nodup h ws hn'.2, fun a ha b hb e => ?_⟩
   subst e
   obtain ⟨s, hs, hb'⟩ := List.mem_flatMap.1 hb
   have := up_inj h.1 (ats_mem ha) (ats_mem hb') rfl
   have ev : v = s := congrArg Prod.fst this
   exact hn'.1 (by rw [ev]; exact hs)
theorem preAts_rises (w : ByteArray) {ws : List ByteArray} (hn : ws.Nodup) (r : Rec) (hne : preAts w ws r ≠ []) : risesB (sortI (preAts w ws r)) = true := by
 have hup := up_toks r.t
 have hnd : (preAts w ws r).Nodup := flat_nodup hup _ (List.Nodup.sublist List.filter_sublist hn)
 have hnd2 : (sortI (preAts w ws r)).Nodup := (sortI_perm _).nodup_iff.2 hnd
 have hle : (sortI (preAts w ws r)).Pairwise fun x y => x ≤ y := by
   have := List.pairwise_mergeSort (le := fun x y : Int => decide (x ≤ y)) (fun a b c h1 h2 => by simp only [decide_eq_true_eq] at *; omega) (fun a b => by rcases Int.le_total a b with h | h <;> simp [h]) (preAts w ws r)
   exact this.imp fun {a b} h => by simpa using h
 have hlt : (sortI (preAts w ws r)).Pairwise (· < ·) := (hle.and hnd2).imp fun {a b} h => by have := h.1; have := h.2; omega
 unfold risesB
 rw [rises_pw (fun x hx => ?_) hlt, Bool.true_and]
 · exact decide_eq_true fun e => hne (List.length_eq_zero_iff.1 (by rw [← sortI_length, e]; rfl))
 · have hx2 := (sortI_perm _).subset hx
   unfold preAts at hx2
   obtain ⟨s, -, hs⟩ := List.mem_flatMap.1 hx2
   have := (ats_up hup s).2 x hs
   omega
theorem preAts_len (w : ByteArray) {ws : List ByteArray} (hn : ws.Nodup) (r : Rec) : (preAts w ws r).length ≤ 121 := by
 have hnd : (preAts w ws r).Nodup := flat_nodup (up_toks r.t) _ (List.Nodup.sublist List.filter_sublist hn)
 have := nodup_sub (m := (toksV r.t).map Prod.snd) hnd fun x hx => by
   obtain ⟨s, -, hs⟩ := List.mem_flatMap.1 hx
   exact List.mem_map.2 ⟨(s, x), ats_mem hs, rfl⟩
 rw [List.length_map] at this
 exact Nat.le_trans this (toks_le121 r)
theorem IxIs.pre {rs : List Rec} {s : PL × PW} (h : IxIs rs s) (w : ByteArray) {l : List PostP} (hp : List.Perm l (mm sortI (prefM w s.1))) (ho : l.Pairwise fun p q => before q.1 p.1 = false) :
   mayB l = true ∧ (mkeys l).Nodup ∧ (∀ p ∈ l, p.2.length ≤ 1000) ∧ (∀ r ∈ rs, ∀ v ∈ sortB (mkeys s.1), preB v w = true → ∀ at', mget (tok r) v = some at' → ∃ p ∈ l, p.1 = r.key ∧ at'.length ≤ p.2.length) := by
 have hwn : (sortB (mkeys s.1)).Nodup := (sortB_perm _).nodup_iff.2 h.ln
 obtain ⟨h1, h2, h3⟩ := h.pre_get w (sortB (mkeys s.1)) [] List.nodup_nil (fun k hk => by cases hk)
 have hkm : mkeys (mm sortI (prefM w s.1)) = mkeys (prefM w s.1) := by simp [mm, mkeys]
 have hln : (mkeys l).Nodup := by
   rw [(hp.map Prod.fst).nodup_iff]
   show (mkeys (mm sortI (prefM w s.1))).Nodup
   rw [hkm]; exact h1
 have hget : ∀ r ∈ rs, ∀ x, (r.key, x) ∈ l → preAts w (sortB (mkeys s.1)) r ≠ [] ∧ x = sortI (preAts w (sortB (mkeys s.1)) r) := fun r hr x hx => by
   have hx2 := hp.subset hx
   obtain ⟨e, he, hxe⟩ := List.mem_map.1 hx2
   obtain ⟨k, at'⟩ := e
   have hk : k = r.key := congrArg Prod.fst hxe
   have hxs : sortI at' = x := congrArg Prod.snd hxe
   rw [hk] at he
   have hg := mget_of_mem h1 he
   obtain ⟨h4, h5⟩ := h3 r hr
   have hne : preAts w (sortB (mkeys s.1)) r ≠ [] := fun e => by
     rw [h5.2 ⟨rfl, e⟩] at hg; cases hg
   have h6 : (mget (List.foldl (preStep w s.1) [] (sortB (mkeys s.1))) r.key).getD [] = preAts w (sortB (mkeys s.1)) r := by rw [h4]; rfl
   rw [hg] at h6
   have h7 : at' = preAts w (sortB (mkeys s.1)) r := h6
   exact ⟨hne, by rw [← hxs, h7]⟩
 have hmemr : ∀ p ∈ l, ∃ r ∈ rs, p.1 = r.key := fun p hpl => by
   have hx2 := hp.subset hpl
   obtain ⟨e, he, hxe⟩ := List.mem_map.1 hx2
   obtain ⟨r, hr, hk⟩ := List.mem_map.1 (h2 e.1 (List.mem_map.2 ⟨e, he, rfl⟩))
   exact ⟨r, hr, by rw [hk, ← hxe]⟩
 refine ⟨may_of ?_ fun p hpl => ?_, hln, fun p hpl => ?_, fun r hr v hv hpv at' hat => ?_⟩
 · have hk2 : l.Pairwise fun p q => p.1 ≠ q.1 := List.pairwise_map.1 hln
   refine (ho.and hk2).imp fun {a b} hab => ?_
   rcases before_total hab.2 with h4 | h4
   · exact h4
   · rw [hab.1] at h4; cases h4
 · obtain ⟨r, hr, hk⟩ := hmemr p hpl
   obtain ⟨h4, h5⟩ := hget r hr p.2 (by rw [← hk]; exact hpl)
   rw [h5]; exact preAts_rises w hwn r h4
 · obtain ⟨r, hr, hk⟩ := hmemr p hpl
   obtain ⟨h4, h5⟩ := hget r hr p.2 (by rw [← hk]; exact hpl)
   rw [h5, sortI_length]
   exact Nat.le_trans (preAts_len w hwn r) (by decide)
 · obtain ⟨h4, h5⟩ := h3 r hr
   have hsub : at'.length ≤ (preAts w (sortB (mkeys s.1)) r).length ∧ preAts w (sortB (mkeys s.1)) r ≠ [] := by
     rw [posL_get] at hat
     split at hat
     · cases hat
     · rename_i hne
       cases hat
       unfold preAts
       have hvf : v ∈ (sortB (mkeys s.1)).filter fun s => preB s w := List.mem_filter.2 ⟨hv, hpv⟩
       obtain ⟨l1, l2, e⟩ := List.append_of_mem hvf
       rw [e, List.flatMap_append, List.flatMap_cons]
       refine ⟨by simp only [List.length_append]; omega, fun e2 => hne ?_⟩
       have := congrArg List.length e2
       simp only [List.length_append, List.length_nil] at this
       exact List.length_eq_zero_iff.1 (by omega)
   cases hg : mget (List.foldl (preStep w s.1) [] (sortB (mkeys s.1))) r.key with
   | none => exact (hsub.2 (h5.1 hg).2).elim
   | some x =>
     have h6 : (mget (List.foldl (preStep w s.1) [] (sortB (mkeys s.1))) r.key).getD [] = preAts w (sortB (mkeys s.1)) r := by rw [h4]; rfl
     rw [hg] at h6
     have h7 : x = preAts w (sortB (mkeys s.1)) r := h6
     refine ⟨(r.key, sortI x), hp.symm.subset (List.mem_map.2 ⟨(r.key, x), mget_mem hg, rfl⟩), rfl, ?_⟩
     show at'.length ≤ (sortI x).length
     rw [sortI_length, h7]; exact hsub.1
end Go.Proofs.YtklgiidfompdpaaGreatDoor
