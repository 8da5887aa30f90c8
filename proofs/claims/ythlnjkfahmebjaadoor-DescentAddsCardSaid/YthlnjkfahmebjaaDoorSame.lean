/- Walks: tree.Same, where it is so. -/
import Derived.Test.YthlnjkfahmebjaaDoorRef12
namespace Go.Proofs.YthlnjkfahmebjaaDoor
open Go Go.Sl Go.Gv Go.Kv
set_option maxRecDepth 100000
theorem treeSame_yes (a b : Nat) (A B : List Rec) (hAB : ∀ r ∈ A, lookR B r.key = some r) (hl : A.length = B.length) :
    Ct Tryd.prog 26 [ptr a, ptr b] [tre a A, tre b B] (fun v hs => v = .bool true ∧ hs = [tre a A, tre b B]) := by
  refine Ct.intro Tryd.func26 rfl (by kernel_rfl) 52 Tryd.ntmps26 (Nat.le_of_ble_eq_true rfl) fun w0 R => ?_
  refine Gs.seq ?_
  refine Gs.reg ?_
  refine Go.Sl.L.pu rfl rfl trivial (pu_assign rfl) ?_
  refine Go.Sl.L.nil ?_
  refine Gs.then_n ?_
  refine Gs.seq ?_
  refine Gs.seq ?_
  refine Gs.reg ?_
  refine Go.Sl.L.pu rfl rfl trivial (pu_move rfl) ?_
  refine Go.Sl.L.pu rfl rfl trivial (pu_eqN Tryd.underlying25 rfl rfl) ?_
  refine Go.Sl.L.puBf rfl rfl trivial (pu_move rfl) rfl ?_
  refine Go.Sl.L.pu rfl rfl ⟨_, rfl, rfl⟩ (pu_move rfl) ?_
  refine Go.Sl.L.pu rfl rfl ⟨_, rfl, rfl⟩ (pu_eqN Tryd.underlying25 rfl rfl) ?_
  refine Go.Sl.L.pu rfl rfl trivial (by first | exact pu_pick_t rfl rfl | exact pu_pick_f rfl rfl) ?_
  refine Go.Sl.L.nil ?_
  refine Gs.then_n ?_
  refine Gs.cond_f rfl ?_
  refine Gs.skip ?_
  refine Gs.then_n ?_
  refine Gs.seq ?_
  refine Gs.seq ?_
  refine Gs.treOpen (L := A) (by repeat constructor) fun m1 m2 C hok hC => Gs.treOpen (L := B) (by repeat constructor) fun n1 n2 D hok' hD => ?_
  refine Gs.reg ?_
  refine Go.Sl.L.pu rfl rfl trivial (pu_move rfl) ?_
  refine Go.Sl.L.pu rfl rfl trivial (by first | exact pu_nil rfl | exact pu_nilF rfl) ?_
  refine Go.Sl.L.pu rfl rfl trivial (pu_fa fa_80_0 rfl) ?_
  refine Go.Sl.L.rd rfl rfl trivial (rd_ld na_77 rfl (Rdc.cl1 (by repeat constructor) rfl)) ?_
  refine Go.Sl.L.ac rfl rfl trivial (ac_range (enck := keyV) (encv := leafV) (m := lents A) Tryd.underlying77 rfl (by repeat constructor)) ?_
  rintro _ _ ⟨r, rfl, rfl⟩
  refine Go.Sl.L.nil ?_
  refine Gs.then_n ?_
  refine Gs.block ?_
  refine Gs.loop1 (fun s : List (Key × (Rec × Int)) × Option (Key × (Rec × Int)) => ∀ p ∈ s.1, p ∈ lents A) (fun s => [(0, ptr a), (1, ptr b), (22, .pointer (some ⟨r, 0, none⟩))]) (fun s => [itr keyV leafV r m1 (lents A) s.1 s.2, cl a 80 (treeC m1 m2), mp partV int m2 C, cl b 80 (treeC n1 n2), mp keyV leafV n1 (lents B), mp partV int n2 D] ++ R) (fun s => s.1.length) (lents A, none) (fun p hp => hp) (by repeat constructor) (by repeat constructor) (fun s hs => ?_)
  obtain ⟨left, last⟩ := s
  dsimp only at hs ⊢
  refine Gs.seq ?_
  refine Gs.reg ?_
  refine Go.Sl.L.ac rfl rfl trivial (ac_next rfl (by repeat constructor)) ?_
  rintro _ _ (⟨hl0, rfl, rfl⟩ | ⟨i, p, hp, rfl, rfl⟩)
  · skip
    refine Go.Sl.L.pu rfl rfl trivial (pu_extract rfl rfl) ?_
    refine Go.Sl.L.nil ?_
    refine Gs.then_n ?_
    refine Gs.seq ?_
    refine Gs.cond_f rfl ?_
    refine Gs.exit ?_
    refine Gs.then_x ?_
    refine Gs.then_x ?_
    refine Gs.blk_hit ?_
    refine Gs.then_n ?_
    refine Gs.seq ?_
    refine Gs.itrEnd (by repeat constructor) ?_
    refine Gs.treClose (L := A) (C := C) (by repeat constructor) hok hC ?_
    refine Gs.treClose (L := B) (C := D) (by repeat constructor) hok' hD ?_
    refine Gs.reg ?_
    refine Go.Sl.L.pu rfl rfl trivial (pu_move rfl) ?_
    refine Go.Sl.L.ac rfl rfl trivial (as_call (treeLen_spec a A) (by repeat constructor) (by repeat constructor)) ?_
    rintro _ _ ⟨_, ⟨rfl, rfl⟩, rfl⟩
    refine Go.Sl.L.pu rfl rfl trivial (pu_move rfl) ?_
    refine Go.Sl.L.ac rfl rfl trivial (as_call (treeLen_spec b B) (by repeat constructor) (by repeat constructor)) ?_
    rintro _ _ ⟨_, ⟨rfl, rfl⟩, rfl⟩
    refine Go.Sl.L.pu rfl rfl trivial (pu_eq rfl rfl) ?_
    refine Go.Sl.L.pu rfl rfl trivial (pu_assign rfl) ?_
    refine Go.Sl.L.nil ?_
    refine Gs.then_n ?_
    refine Gs.ret ?_
    exact Gs.fin1 Tryd.results26 rfl _ (⟨by rw [hl]; simp, rfl⟩) (by repeat constructor)
  · skip
    have hpl := hs p (List.mem_of_getElem? hp)
    obtain ⟨x, hx, rfl⟩ := List.mem_map.1 hpl
    have hlk := hAB x hx
    have hil := (List.getElem?_eq_some_iff.1 hp).1
    refine Go.Sl.L.pu rfl rfl trivial (pu_extract rfl rfl) ?_
    refine Go.Sl.L.nil ?_
    refine Gs.then_n ?_
    refine Gs.seq ?_
    refine Gs.cond_t rfl ?_
    refine Gs.skip ?_
    refine Gs.then_n ?_
    refine Gs.block ?_
    refine Gs.seq ?_
    refine Gs.reg ?_
    refine Go.Sl.L.rd rfl rfl trivial (ac_entry rfl (by repeat constructor)) ?_
    refine Go.Sl.L.pu rfl rfl trivial (pu_extract rfl rfl) ?_
    refine Go.Sl.L.pu rfl rfl trivial (pu_extract rfl rfl) ?_
    refine Go.Sl.L.ac rfl rfl trivial (ac_alloc zv_38 rfl) ?_
    rintro _ _ ⟨b5, rfl, rfl⟩
    refine Go.Sl.L.ac rfl rfl trivial (ac_alloc zv_87 rfl) ?_
    rintro _ _ ⟨b6, rfl, rfl⟩
    refine Go.Sl.L.ac0 rfl trivial (ac_st sz_38 rfl rfl (by repeat constructor) rfl rfl rfl rfl) ?_
    rintro _ _ rfl
    refine Go.Sl.L.ac0 rfl trivial (ac_st sz_87 rfl rfl (by repeat constructor) rfl rfl rfl rfl) ?_
    rintro _ _ rfl
    refine Go.Sl.L.nil ?_
    refine Gs.then_n ?_
    refine Gs.seq ?_
    refine Gs.regD mixed (by kernel_rfl) ?_
    refine Rg.pu 0 rfl rfl (by kernel_rfl) trivial (pu_move rfl) ?_
    refine Rg.pu 1 rfl rfl (by kernel_rfl) trivial (by first | exact pu_nil rfl | exact pu_nilF rfl) ?_
    refine Rg.pu 2 rfl rfl (by kernel_rfl) trivial (pu_fa fa_80_0 rfl) ?_
    refine Rg.rd 3 rfl rfl (by kernel_rfl) trivial (rd_ld na_77 rfl (Rdc.cl1 (by repeat constructor) rfl)) ?_
    refine Rg.rd 4 rfl rfl (by kernel_rfl) trivial (rd_lda ag_38 rfl (Rdc.cl 2 (by repeat constructor) rfl) rfl) ?_
    refine Rg.rd 5 rfl rfl (by kernel_rfl) trivial (rd_look2 (k := x.key) Tryd.underlying77 kt_38 zvk_87 rfl rfl (by repeat constructor)) ?_
    rw [mget_lents, hlk]
    refine Rg.pu 6 rfl rfl (by kernel_rfl) trivial (pu_move rfl) ?_
    refine Rg.pu 7 rfl rfl (by kernel_rfl) trivial (pu_extract rfl rfl) ?_
    refine Rg.pu 8 rfl rfl (by kernel_rfl) trivial (pu_extract rfl rfl) ?_
    refine Rg.one (by kernel_rfl) (Stp.acK 9 rfl rfl (by kernel_rfl) trivial (ac_alloc zv_87 rfl) (by rintro _ _ ⟨b7, rfl, rfl⟩ w s; first | exact s.drop | exact s | exact Ent.sat (by repeat constructor) s) ?_)
    rintro _ _ ⟨b7, rfl, rfl⟩
    refine Rg.one (by kernel_rfl) (Stp.ac0 10 rfl rfl (by kernel_rfl) trivial (ac_st sz_87 rfl rfl (by repeat constructor) rfl rfl rfl rfl)  ?_)
    rintro _ _ rfl
    refine Rg.pu 11 rfl rfl (by kernel_rfl) trivial (pu_assign rfl) ?_
    refine Rg.end (by kernel_rfl) ?_
    refine Gs.then_n ?_
    refine Gs.seq ?_
    refine Gs.reg ?_
    refine Go.Sl.L.pu rfl rfl trivial (pu_move rfl) ?_
    refine Go.Sl.L.pu rfl rfl trivial (pu_not rfl) ?_
    refine Go.Sl.L.puBf rfl rfl trivial (pu_move rfl) rfl ?_
    refine Go.Sl.L.pu rfl rfl ⟨_, rfl, rfl⟩ (pu_fa fa_87_0 rfl) ?_
    refine Go.Sl.L.rd rfl rfl ⟨_, rfl, rfl⟩ (rd_lda ag_42 rfl (Rdc.cl 5 (by repeat constructor) rfl) rfl) ?_
    refine Go.Sl.L.pu rfl rfl ⟨_, rfl, rfl⟩ (pu_fa fa_87_0 rfl) ?_
    refine Go.Sl.L.rd rfl rfl ⟨_, rfl, rfl⟩ (rd_lda ag_42 rfl (Rdc.cl 5 (by repeat constructor) rfl) rfl) ?_
    refine Go.Sl.L.ac rfl rfl ⟨_, rfl, rfl⟩ (as_call (recSame_spec x x) (by repeat constructor) (by repeat constructor)) ?_
    rintro _ _ ⟨_, ⟨rfl, rfl⟩, rfl⟩
    refine Go.Sl.L.pu rfl rfl ⟨_, rfl, rfl⟩ (pu_not rfl) ?_
    refine Go.Sl.L.pu rfl rfl trivial (by first | exact pu_pick_t rfl rfl | exact pu_pick_f rfl rfl) ?_
    refine Go.Sl.L.nil ?_
    refine Gs.then_n ?_
    refine Gs.cond_ff rfl (by simp) ?_
    refine Gs.skip ?_
    refine Gs.blk_n ?_
    refine Gs.then_n ?_
    exact Gs.again1 (left.eraseIdx i, some (x.key, (x, hashR x))) (fun q hq => hs q (List.mem_of_mem_eraseIdx hq)) (by show (left.eraseIdx i).length < left.length; rw [List.length_eraseIdx_of_lt hil]; omega) (by repeat constructor) (by repeat constructor)
end Go.Proofs.YthlnjkfahmebjaaDoor
