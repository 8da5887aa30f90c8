/- held.Keys: the keys, in order. -/
import Derived.Test.YthikmfpfbfjbiaaDoorHeld
import Derived.Test.YthikmfpfbfjbiaaDoorSort
namespace Go.Proofs.YthikmfpfbfjbiaaDoor
open Go Go.Sl Go.Gv Go.Kv
set_option maxRecDepth 100000
theorem sortedFunc_spec (b m : Nat) (es : List (Key × Rec)) (hl : es.length ≤ 1000) :
    Ct Tryd.prog 29 [.func (.func 41) #[] #[.pointer (some ⟨b, 0, none⟩)], .func (.func 31) #[] #[]]
      [cl b 59 [.map (some m)], mp keyV recV m es] (fun v hs => ∃ a c, v = .slice a (sortK (mkeys es)).length c ∧ hs = [sl 25 2 keyC a c (sortK (mkeys es)), mp keyV recV m es]) := by
  refine Ct.intro Tryd.func29 rfl (by kernel_rfl) 12 Tryd.ntmps29 (Nat.le_of_ble_eq_true rfl) fun w0 R => ?_
  refine Gs.mpNodup (enck := keyV) (encv := recV) (b := m) (m := es) (by repeat constructor) fun hnd => ?_
  refine Gs.seq ?_
  refine Gs.reg ?_
  refine Go.Sl.L.pu rfl rfl trivial (pu_assign rfl) ?_
  refine Go.Sl.L.nil ?_
  refine Gs.then_n ?_
  refine Gs.seq ?_
  refine Gs.reg ?_
  refine Go.Sl.L.pu rfl rfl trivial (pu_move rfl) ?_
  refine Go.Sl.L.ac rfl rfl trivial (as_call (collect_spec b m es hl) (by repeat constructor) (by repeat constructor)) ?_
  rintro _ _ ⟨_, ⟨xs, a, c, hp, rfl, rfl⟩, rfl⟩
  refine Go.Sl.L.pu rfl rfl trivial (pu_assign rfl) ?_
  refine Go.Sl.L.nil ?_
  have hxn : xs.Nodup := hp.nodup_iff.2 hnd
  have hxl : xs.length ≤ 1000 := by rw [hp.length_eq]; simp [mkeys]; exact hl
  have hss : sortK xs = sortK (mkeys es) := asc_uniq (sortK_asc hxn) (sortK_asc hnd) ((sortK_perm xs).trans (hp.trans (sortK_perm _).symm))
  refine Gs.then_n ?_
  refine Gs.seq ?_
  refine Gs.reg ?_
  refine Go.Sl.L.pu rfl rfl trivial (pu_move rfl) ?_
  refine Go.Sl.L.pu rfl rfl trivial (pu_move rfl) ?_
  refine Go.Sl.L.ac rfl rfl trivial (as_call (sort_spec a c xs hxn hxl) (by repeat constructor) (by repeat constructor)) ?_
  rintro _ _ ⟨_, ⟨rfl, rfl⟩, rfl⟩
  refine Go.Sl.L.nil ?_
  rw [hss]
  refine Gs.then_n ?_
  refine Gs.seq ?_
  refine Gs.reg ?_
  refine Go.Sl.L.pu rfl rfl trivial (pu_move rfl) ?_
  refine Go.Sl.L.pu rfl rfl trivial (pu_assign rfl) ?_
  refine Go.Sl.L.nil ?_
  refine Gs.then_n ?_
  refine Gs.ret ?_
  exact Gs.fin1 Tryd.results29 rfl _ (⟨a, c, by rw [← hss, sortK_length], rfl⟩) (by repeat constructor)
theorem keys_spec (b m : Nat) (most : Int) (L : List Rec) (hL : L.length ≤ 1000) : Ct Tryd.prog 17 [ptr b] [cl b 61 (heldC most m), mp keyV recV m (ents L)]
    (fun v hs => ∃ a c, v = .slice a (sortK (L.map Rec.key)).length c ∧ hs = [cl b 61 (heldC most m), mp keyV recV m (ents L), sl 25 2 keyC a c (sortK (L.map Rec.key))]) := by
  refine Ct.intro Tryd.func17 rfl (by kernel_rfl) 11 Tryd.ntmps17 (Nat.le_of_ble_eq_true rfl) fun w0 R => ?_
  refine Gs.seq ?_
  refine Gs.reg ?_
  refine Go.Sl.L.pu rfl rfl trivial (pu_assign rfl) ?_
  refine Go.Sl.L.nil ?_
  refine Gs.then_n ?_
  refine Gs.seq ?_
  refine Gs.seq ?_
  refine Gs.reg ?_
  refine Go.Sl.L.pu rfl rfl trivial (pu_move rfl) ?_
  refine Go.Sl.L.pu rfl rfl trivial (pu_eqN Tryd.underlying33 rfl rfl) ?_
  refine Go.Sl.L.nil ?_
  refine Gs.then_n ?_
  refine Gs.cond_f rfl ?_
  refine Gs.skip ?_
  refine Gs.then_n ?_
  refine Gs.seq ?_
  refine Gs.reg ?_
  refine Go.Sl.L.pu rfl rfl trivial (pu_move rfl) ?_
  refine Go.Sl.L.pu rfl rfl trivial (by first | exact pu_nil rfl | exact pu_nilF rfl) ?_
  refine Go.Sl.L.pu rfl rfl trivial (pu_fa fa_61_1 rfl) ?_
  refine Go.Sl.L.rd rfl rfl trivial (rd_ld na_59 rfl (Rdc.cl1 (by repeat constructor) rfl)) ?_
  refine Go.Sl.L.ac rfl rfl trivial (as_call (keysFn_spec m) (by repeat constructor) (by repeat constructor)) ?_
  rintro _ _ ⟨_, ⟨kb, rfl, rfl⟩, rfl⟩
  refine Go.Sl.L.ac rfl rfl trivial (as_call (sortedFunc_spec kb m (ents L) (by rw [length_ents]; exact hL)) (by repeat constructor) (by repeat constructor)) ?_
  rintro _ _ ⟨_, ⟨a, c, rfl, rfl⟩, rfl⟩
  rw [mkeys_ents]
  refine Go.Sl.L.pu rfl rfl trivial (pu_assign rfl) ?_
  refine Go.Sl.L.nil ?_
  refine Gs.then_n ?_
  refine Gs.ret ?_
  exact Gs.fin1 Tryd.results17 rfl _ (⟨a, c, rfl, rfl⟩) (by repeat constructor)
end Go.Proofs.YthikmfpfbfjbiaaDoor
