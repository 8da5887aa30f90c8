/- Walks: drive's methods. -/
import Derived.Test.YtmfgemhjepagjaaSortS
namespace Go.Proofs.Ytmfgemhjepagjaa
open Go Go.Sl Go.Gv Go.Kv Go.Dv Go.Bst
set_option maxRecDepth 100000
theorem used_spec (b : Nat) (most : Int) (D : List Fl) (hD : D.length ≤ 1000) : Ct Try.prog 15 [ptr b] [drv b most D] (fun v hs => v = int (used D) ∧ hs = [drv b most D]) := by
  refine Ct.intro Try.func15 rfl (by kernel_rfl) 27 Try.ntmps15 (Nat.le_of_ble_eq_true rfl) fun w0 R => ?_
  refine Gs.seq ?_
  refine Gs.reg ?_
  refine Go.Sl.L.pu rfl rfl trivial (pu_assign rfl) ?_
  refine Go.Sl.L.nil ?_
  refine Gs.then_n ?_
  refine Gs.seq ?_
  refine Gs.reg ?_
  refine Go.Sl.L.pu rfl rfl trivial (pu_assign rfl) ?_
  refine Go.Sl.L.nil ?_
  refine Gs.then_n ?_
  refine Gs.seq ?_
  refine Gs.seq ?_
  refine Gs.reg ?_
  refine Go.Sl.L.pu rfl rfl trivial (pu_move rfl) ?_
  refine Go.Sl.L.ac rfl rfl trivial (as_call (names_spec b most D hD) (by repeat constructor) (by repeat constructor)) ?_
  rintro _ _ ⟨_, ⟨a2, c2, rfl, rfl⟩, rfl⟩
  refine Gs.drvOpen (by repeat constructor) fun m P hP hok => ?_
  obtain ⟨ns, hns⟩ : ∃ ns, ns = sortB (names D) := ⟨_, rfl⟩
  have hperm : List.Perm ns (names D) := by rw [hns]; exact sortB_perm _
  have hnl : ns.length ≤ 1000 := by rw [hperm.length_eq]; simpa using hD
  have hsum : (ns.map (lenOf D)).sum = used D := lenOf_sum hok.nd hperm
  have hroom := hok.room
  have hhi := hok.hi
  rw [← hns]
  refine Gs.slAddr (SlH.own (by repeat constructor) : SlH _ _ 1 strC a2 ns) fun kb ko hka => ?_
  refine Go.Sl.L.pu rfl rfl trivial (pu_len Try.underlying37 rfl) ?_
  refine Go.Sl.L.pu rfl rfl trivial (pu_move rfl) ?_
  refine Go.Sl.L.nil ?_
  refine Gs.then_n ?_
  refine Gs.block ?_
  refine Gs.loop1 (fun i : Nat => i ≤ ns.length) (fun i => [(0, ptr b), (3, int (((ns.map (lenOf D)).take i).sum : Nat)), (7, .slice a2 ns.length c2), (8, int ns.length), (9, int i)]) (fun i => [cl b 51 (driveC most m), mp strV pv m (pairs P), files P, sl 9 1 strC a2 c2 ns] ++ R) (fun i => ns.length - i) 0 (Nat.zero_le _) (by repeat constructor) (by repeat constructor) (fun i hi => ?_)
  refine Gs.seq ?_
  refine Gs.reg ?_
  refine Go.Sl.L.pu rfl rfl trivial (pu_lt rfl rfl) ?_
  refine Go.Sl.L.nil ?_
  refine Gs.then_n ?_
  refine Gs.seq ?_
  refine Gs.cond rfl (fun hc0 => ?_) (fun hc0 => ?_)
  · skip
    have hlt : i < ns.length := by have := of_decide_eq_true hc0; omega
    obtain ⟨k, hk⟩ : ∃ k, ns[i]? = some k := ⟨ns[i], by simp [hlt]⟩
    obtain rfl := hka (by rintro rfl; simp at hlt)
    have hmem : k ∈ names D := hperm.mem_iff.1 (List.mem_of_getElem? hk)
    obtain ⟨h1, h2⟩ | ⟨U, f, p, V, e0, e1, e2, e3, -, -, -, -, -⟩ := find_at (P := P) (by rw [hP]; exact hok.nd) k
    · rw [hP, lookF_none] at h1; exact (h1 hmem).elim
    have hle : lenOf D k = f.b.length := by rw [← hP]; simp only [lenOf, e2]
    have hst : ((ns.map (lenOf D)).take (i + 1)).sum = ((ns.map (lenOf D)).take i).sum + f.b.length := sum_take_succ (by rw [List.getElem?_map, hk]; simp [hle])
    have hb1 := sum_take_le (ns.map (lenOf D)) (i + 1)
    refine Gs.skip ?_
    refine Gs.then_n ?_
    refine Gs.seq ?_
    refine Gs.block ?_
    refine Gs.seq ?_
    refine Gs.reg ?_
    refine Go.Sl.L.pu rfl rfl trivial (pu_ia se_37 rfl rfl (by omega) (by omega)) ?_
    refine Go.Sl.L.rd rfl rfl trivial (rd_ld na_9 rfl (Rdc.el0 (SlH.own (by repeat constructor)) hk rfl rfl)) ?_
    refine Go.Sl.L.pu rfl rfl trivial (pu_assign rfl) ?_
    refine Go.Sl.L.nil ?_
    refine Gs.then_n ?_
    refine Gs.reg ?_
    refine Go.Sl.L.pu rfl rfl trivial (pu_move rfl) ?_
    refine Go.Sl.L.pu rfl rfl trivial (pu_move rfl) ?_
    refine Go.Sl.L.pu rfl rfl trivial (by first | exact pu_nil rfl | exact pu_nilF rfl) ?_
    refine Go.Sl.L.pu rfl rfl trivial (pu_fa fa_51_1 rfl) ?_
    refine Go.Sl.L.rd rfl rfl trivial (rd_ld na_49 rfl (Rdc.cl1 (by repeat constructor) rfl)) ?_
    refine Go.Sl.L.pu rfl rfl trivial (pu_move rfl) ?_
    refine Go.Sl.L.rd rfl rfl trivial (rd_look1 (k := k) Try.underlying49 kt_9 zvk_53 rfl rfl (by repeat constructor)) ?_
    rw [e3]
    subst e0
    refine Gs.filOpen (U := U) (V := V) (f := f) (p := p) (by repeat constructor) fun fa fc => ?_
    refine Go.Sl.L.pu rfl rfl trivial (by first | exact pu_nil rfl | exact pu_nilF rfl) ?_
    refine Go.Sl.L.pu rfl rfl trivial (pu_fa fa_55_0 rfl) ?_
    refine Go.Sl.L.rd rfl rfl trivial (rd_ld na_22 rfl (Rdc.cl1 (by repeat constructor) rfl)) ?_
    refine Go.Sl.L.pu rfl rfl trivial (pu_len Try.underlying22 rfl) ?_
    refine Go.Sl.L.pu rfl rfl trivial (pu_addI (z := (((ns.map (lenOf D)).take (i + 1)).sum : Nat)) rfl rfl (by rw [hst]; omega) (by omega) (by omega)) ?_
    refine Go.Sl.L.pu rfl rfl trivial (pu_assign rfl) ?_
    refine Go.Sl.L.nil ?_
    refine Gs.filClose (U := U) (V := V) (f := f) (p := p) (by repeat constructor) rfl rfl rfl ?_
    refine Gs.blk_n ?_
    refine Gs.then_n ?_
    refine Gs.reg ?_
    refine Go.Sl.L.pu rfl rfl trivial (by first | exact pu_addI rfl rfl rfl (by omega) (by omega) | exact pu_add rfl rfl) ?_
    refine Go.Sl.L.pu rfl rfl trivial (pu_move rfl) ?_
    refine Go.Sl.L.nil ?_
    refine Gs.then_n ?_
    exact Gs.again1 (i + 1) (by omega) (by omega) (by repeat constructor) (by repeat constructor)
  · skip
    have hge : i = ns.length := by have := of_decide_eq_false hc0; omega
    have hall : ((ns.map (lenOf D)).take i).sum = used D := by rw [List.take_of_length_le (by rw [List.length_map]; omega), hsum]
    rw [hall]
    refine Gs.exit ?_
    refine Gs.then_x ?_
    refine Gs.then_x ?_
    refine Gs.blk_hit ?_
    refine Gs.then_n ?_
    refine Gs.seq ?_
    refine Gs.reg ?_
    refine Go.Sl.L.pu rfl rfl trivial (pu_move rfl) ?_
    refine Go.Sl.L.pu rfl rfl trivial (pu_assign rfl) ?_
    refine Go.Sl.L.nil ?_
    refine Gs.then_n ?_
    refine Gs.ret ?_
    refine Gs.drvClose (P := P) (D := D) (by repeat constructor) hP hok ?_
    exact Gs.fin1 Try.results15 rfl _ (⟨rfl, rfl⟩) (by repeat constructor)
theorem usedNil_spec : Ct Try.prog 15 [.pointer none] [] (fun v hs => v = int 0 ∧ hs = []) := by
  refine Ct.intro Try.func15 rfl (by kernel_rfl) 27 Try.ntmps15 (Nat.le_of_ble_eq_true rfl) fun w0 R => ?_
  refine Gs.seq ?_
  refine Gs.reg ?_
  refine Go.Sl.L.pu rfl rfl trivial (pu_assign rfl) ?_
  refine Go.Sl.L.nil ?_
  refine Gs.then_n ?_
  refine Gs.seq ?_
  refine Gs.reg ?_
  refine Go.Sl.L.pu rfl rfl trivial (pu_assign rfl) ?_
  refine Go.Sl.L.nil ?_
  refine Gs.then_n ?_
  refine Gs.seq ?_
  refine Gs.seq ?_
  refine Gs.reg ?_
  refine Go.Sl.L.pu rfl rfl trivial (pu_move rfl) ?_
  refine Go.Sl.L.ac rfl rfl trivial (as_call (namesNil_spec) (by repeat constructor) (by repeat constructor)) ?_
  rintro _ _ ⟨_, ⟨rfl, rfl⟩, rfl⟩
  rename_i RR
  refine Go.Sl.L.pu rfl rfl trivial (pu_len Try.underlying37 rfl) ?_
  refine Go.Sl.L.pu rfl rfl trivial (pu_move rfl) ?_
  refine Go.Sl.L.nil ?_
  refine Gs.then_n ?_
  refine Gs.block ?_
  refine Gs.loop1 (fun _ : Unit => True) (fun _ => [(3, int 0), (8, int 0), (9, int 0)]) (fun _ => RR) (fun _ => 0) () (trivial) (by repeat constructor) (by repeat constructor) (fun i hi => ?_)
  refine Gs.seq ?_
  refine Gs.reg ?_
  refine Go.Sl.L.pu rfl rfl trivial (pu_lt rfl rfl) ?_
  refine Go.Sl.L.nil ?_
  refine Gs.then_n ?_
  refine Gs.seq ?_
  refine Gs.cond_f rfl ?_
  refine Gs.exit ?_
  refine Gs.then_x ?_
  refine Gs.then_x ?_
  refine Gs.blk_hit ?_
  refine Gs.then_n ?_
  refine Gs.seq ?_
  refine Gs.reg ?_
  refine Go.Sl.L.pu rfl rfl trivial (pu_move rfl) ?_
  refine Go.Sl.L.pu rfl rfl trivial (pu_assign rfl) ?_
  refine Go.Sl.L.nil ?_
  refine Gs.then_n ?_
  refine Gs.ret ?_
  exact Gs.fin1 Try.results15 rfl _ (⟨rfl, rfl⟩) (by repeat constructor)
def looseD (D : List Fl) (n : ByteArray) : Int := match lookF D n with
  | some f => f.b.length - f.s
  | none => 0
theorem loose_spec (b : Nat) (most : Int) (D : List Fl) (n : ByteArray) : Ct Try.prog 12 [ptr b, .string n] [drv b most D] (fun v hs => v = int (looseD D n) ∧ hs = [drv b most D]) := by
  refine Ct.intro Try.func12 rfl (by kernel_rfl) 25 Try.ntmps12 (Nat.le_of_ble_eq_true rfl) fun w0 R => ?_
  refine Gs.drvOpen (by repeat constructor) fun m P hP hok => ?_
  have hhi := hok.hi
  have hroom := hok.room
  obtain ⟨h1, h2⟩ | ⟨U, f, p, V, e0, e1, e2, e3, -, -, -, -, -⟩ := find_at (P := P) (by rw [hP]; exact hok.nd) n
  · have hv : looseD D n = 0 := by rw [← hP]; simp only [looseD, h1]
    refine Gs.seq ?_
    refine Gs.reg ?_
    refine Go.Sl.L.pu rfl rfl trivial (pu_assign rfl) ?_
    refine Go.Sl.L.nil ?_
    refine Gs.then_n ?_
    refine Gs.seq ?_
    refine Gs.reg ?_
    refine Go.Sl.L.pu rfl rfl trivial (pu_move rfl) ?_
    refine Go.Sl.L.pu rfl rfl trivial (pu_move rfl) ?_
    refine Go.Sl.L.ac rfl rfl trivial (as_call (find_none h2) (by repeat constructor) (by repeat constructor)) ?_
    rintro _ _ ⟨_, ⟨rfl, rfl⟩, rfl⟩
    refine Go.Sl.L.pu rfl rfl trivial (pu_move rfl) ?_
    refine Go.Sl.L.pu rfl rfl trivial (pu_extract rfl rfl) ?_
    refine Go.Sl.L.pu rfl rfl trivial (pu_extract rfl rfl) ?_
    refine Go.Sl.L.pu rfl rfl trivial (pu_assign rfl) ?_
    refine Go.Sl.L.pu rfl rfl trivial (pu_assign rfl) ?_
    refine Go.Sl.L.nil ?_
    refine Gs.then_n ?_
    refine Gs.seq ?_
    refine Gs.seq ?_
    refine Gs.reg ?_
    refine Go.Sl.L.pu rfl rfl trivial (pu_move rfl) ?_
    refine Go.Sl.L.pu rfl rfl trivial (pu_ne rfl rfl) ?_
    refine Go.Sl.L.nil ?_
    refine Gs.then_n ?_
    refine Gs.cond_tt rfl rfl ?_
    refine Gs.seq ?_
    refine Gs.reg ?_
    refine Go.Sl.L.pu rfl rfl trivial (pu_assign rfl) ?_
    refine Go.Sl.L.nil ?_
    refine Gs.then_n ?_
    refine Gs.ret ?_
    refine Gs.then_r ?_
    refine Gs.drvClose (P := P) (D := D) (by repeat constructor) hP hok ?_
    exact Gs.fin1 Try.results12 rfl _ (⟨by rw [hv], rfl⟩) (by repeat constructor)
  · have hv : looseD D n = f.b.length - f.s := by rw [← hP]; simp only [looseD, e2]
    have hfm : f ∈ D := by rw [← hP, e0]; simp
    have hf1 := hok.firm f hfm
    have hf2 := used_mem hfm
    refine Gs.seq ?_
    refine Gs.reg ?_
    refine Go.Sl.L.pu rfl rfl trivial (pu_assign rfl) ?_
    refine Go.Sl.L.nil ?_
    refine Gs.then_n ?_
    refine Gs.seq ?_
    refine Gs.reg ?_
    refine Go.Sl.L.pu rfl rfl trivial (pu_move rfl) ?_
    refine Go.Sl.L.pu rfl rfl trivial (pu_move rfl) ?_
    refine Go.Sl.L.ac rfl rfl trivial (as_call (find_some e3) (by repeat constructor) (by repeat constructor)) ?_
    rintro _ _ ⟨_, ⟨rfl, rfl⟩, rfl⟩
    refine Go.Sl.L.pu rfl rfl trivial (pu_move rfl) ?_
    refine Go.Sl.L.pu rfl rfl trivial (pu_extract rfl rfl) ?_
    refine Go.Sl.L.pu rfl rfl trivial (pu_extract rfl rfl) ?_
    refine Go.Sl.L.pu rfl rfl trivial (pu_assign rfl) ?_
    refine Go.Sl.L.pu rfl rfl trivial (pu_assign rfl) ?_
    refine Go.Sl.L.nil ?_
    refine Gs.then_n ?_
    refine Gs.seq ?_
    refine Gs.seq ?_
    refine Gs.reg ?_
    refine Go.Sl.L.pu rfl rfl trivial (pu_move rfl) ?_
    refine Go.Sl.L.pu rfl rfl trivial (pu_ne rfl rfl) ?_
    refine Go.Sl.L.nil ?_
    refine Gs.then_n ?_
    refine Gs.cond_ff rfl rfl ?_
    refine Gs.skip ?_
    refine Gs.then_n ?_
    refine Gs.seq ?_
    subst e0
    refine Gs.filOpen (U := U) (V := V) (f := f) (p := p) (by repeat constructor) fun fa fc => ?_
    refine Gs.regD mixed (by kernel_rfl) ?_
    refine Rg.pu 0 rfl rfl (by kernel_rfl) trivial (pu_move rfl) ?_
    refine Rg.pu 1 rfl rfl (by kernel_rfl) trivial (by first | exact pu_nil rfl | exact pu_nilF rfl) ?_
    refine Rg.pu 2 rfl rfl (by kernel_rfl) trivial (pu_fa fa_55_0 rfl) ?_
    refine Rg.rd 3 rfl rfl (by kernel_rfl) trivial (rd_ld na_22 rfl (Rdc.cl1 (by repeat constructor) rfl)) ?_
    refine Rg.pu 4 rfl rfl (by kernel_rfl) trivial (pu_len Try.underlying22 rfl) ?_
    refine Rg.pu 5 rfl rfl (by kernel_rfl) trivial (pu_move rfl) ?_
    refine Rg.pu 6 rfl rfl (by kernel_rfl) trivial (by first | exact pu_nil rfl | exact pu_nilF rfl) ?_
    refine Rg.pu 7 rfl rfl (by kernel_rfl) trivial (pu_fa fa_55_1 rfl) ?_
    refine Rg.rd 8 rfl rfl (by kernel_rfl) trivial (rd_ld na_3 rfl (Rdc.cl1 (by repeat constructor) rfl)) ?_
    refine Rg.pu 9 rfl rfl (by kernel_rfl) trivial (by first | exact pu_subI rfl rfl rfl (by omega) (by omega) | exact pu_sub rfl rfl) ?_
    refine Rg.pu 10 rfl rfl (by kernel_rfl) trivial (pu_assign rfl) ?_
    refine Rg.end (by kernel_rfl) ?_
    refine Gs.then_n ?_
    refine Gs.ret ?_
    refine Gs.filClose (U := U) (V := V) (f := f) (p := p) (by repeat constructor) rfl rfl rfl ?_
    refine Gs.drvClose (D := D) (by repeat constructor) hP hok ?_
    exact Gs.fin1 Try.results12 rfl _ (⟨by rw [hv], rfl⟩) (by repeat constructor)
theorem looseNil_spec (n : ByteArray) : Ct Try.prog 12 [.pointer none, .string n] [] (fun v hs => v = int 0 ∧ hs = []) := by
  refine Ct.intro Try.func12 rfl (by kernel_rfl) 25 Try.ntmps12 (Nat.le_of_ble_eq_true rfl) fun w0 R => ?_
  refine Gs.seq ?_
  refine Gs.reg ?_
  refine Go.Sl.L.pu rfl rfl trivial (pu_assign rfl) ?_
  refine Go.Sl.L.nil ?_
  refine Gs.then_n ?_
  refine Gs.seq ?_
  refine Gs.reg ?_
  refine Go.Sl.L.pu rfl rfl trivial (pu_move rfl) ?_
  refine Go.Sl.L.pu rfl rfl trivial (pu_move rfl) ?_
  refine Go.Sl.L.ac rfl rfl trivial (as_call (find_nil n) (by repeat constructor) (by repeat constructor)) ?_
  rintro _ _ ⟨_, ⟨rfl, rfl⟩, rfl⟩
  refine Go.Sl.L.pu rfl rfl trivial (pu_move rfl) ?_
  refine Go.Sl.L.pu rfl rfl trivial (pu_extract rfl rfl) ?_
  refine Go.Sl.L.pu rfl rfl trivial (pu_extract rfl rfl) ?_
  refine Go.Sl.L.pu rfl rfl trivial (pu_assign rfl) ?_
  refine Go.Sl.L.pu rfl rfl trivial (pu_assign rfl) ?_
  refine Go.Sl.L.nil ?_
  refine Gs.then_n ?_
  refine Gs.seq ?_
  refine Gs.seq ?_
  refine Gs.reg ?_
  refine Go.Sl.L.pu rfl rfl trivial (pu_move rfl) ?_
  refine Go.Sl.L.pu rfl rfl trivial (pu_ne rfl rfl) ?_
  refine Go.Sl.L.nil ?_
  refine Gs.then_n ?_
  refine Gs.cond_tt rfl rfl ?_
  refine Gs.seq ?_
  refine Gs.reg ?_
  refine Go.Sl.L.pu rfl rfl trivial (pu_assign rfl) ?_
  refine Go.Sl.L.nil ?_
  refine Gs.then_n ?_
  refine Gs.ret ?_
  refine Gs.then_r ?_
  exact Gs.fin1 Try.results12 rfl _ (⟨rfl, rfl⟩) (by repeat constructor)
def readE (D : List Fl) (n : ByteArray) : Int := match lookF D n with
  | some _ => 0
  | none => 13
def readL (D : List Fl) (n : ByteArray) : List UInt8 := match lookF D n with
  | some f => f.b
  | none => []
theorem read_spec (b : Nat) (most : Int) (D : List Fl) (n : ByteArray) : Ct Try.prog 14 [ptr b, .string n] [drv b most D]
    (fun v hs => ∃ a c, v = .tuple #[.slice a (readL D n).length c, int (readE D n)] ∧ hs = [drv b most D, sl 5 1 byteC a c (readL D n)]) := by
  refine Ct.intro Try.func14 rfl (by kernel_rfl) 22 Try.ntmps14 (Nat.le_of_ble_eq_true rfl) fun w0 R => ?_
  refine Gs.drvOpen (by repeat constructor) fun m P hP hok => ?_
  have hhi := hok.hi
  have hroom := hok.room
  obtain ⟨h1, h2⟩ | ⟨U, f, p, V, e0, e1, e2, e3, -, -, -, -, -⟩ := find_at (P := P) (by rw [hP]; exact hok.nd) n
  · have hv : readL D n = [] := by rw [← hP]; simp only [readL, h1]
    have hv2 : readE D n = 13 := by rw [← hP]; simp only [readE, h1]
    refine Gs.seq ?_
    refine Gs.reg ?_
    refine Go.Sl.L.pu rfl rfl trivial (pu_assign rfl) ?_
    refine Go.Sl.L.pu rfl rfl trivial (pu_assign rfl) ?_
    refine Go.Sl.L.nil ?_
    refine Gs.then_n ?_
    refine Gs.seq ?_
    refine Gs.reg ?_
    refine Go.Sl.L.pu rfl rfl trivial (pu_move rfl) ?_
    refine Go.Sl.L.pu rfl rfl trivial (pu_move rfl) ?_
    refine Go.Sl.L.ac rfl rfl trivial (as_call (find_none h2) (by repeat constructor) (by repeat constructor)) ?_
    rintro _ _ ⟨_, ⟨rfl, rfl⟩, rfl⟩
    refine Go.Sl.L.pu rfl rfl trivial (pu_move rfl) ?_
    refine Go.Sl.L.pu rfl rfl trivial (pu_extract rfl rfl) ?_
    refine Go.Sl.L.pu rfl rfl trivial (pu_extract rfl rfl) ?_
    refine Go.Sl.L.pu rfl rfl trivial (pu_assign rfl) ?_
    refine Go.Sl.L.pu rfl rfl trivial (pu_assign rfl) ?_
    refine Go.Sl.L.nil ?_
    refine Gs.then_n ?_
    refine Gs.seq ?_
    refine Gs.seq ?_
    refine Gs.reg ?_
    refine Go.Sl.L.pu rfl rfl trivial (pu_move rfl) ?_
    refine Go.Sl.L.pu rfl rfl trivial (pu_ne rfl rfl) ?_
    refine Go.Sl.L.nil ?_
    refine Gs.then_n ?_
    refine Gs.cond_tt rfl rfl ?_
    refine Gs.seq ?_
    refine Gs.reg ?_
    refine Go.Sl.L.pu rfl rfl trivial (pu_move rfl) ?_
    refine Go.Sl.L.pu rfl rfl trivial (pu_assign rfl) ?_
    refine Go.Sl.L.pu rfl rfl trivial (pu_assign rfl) ?_
    refine Go.Sl.L.nil ?_
    refine Gs.then_n ?_
    refine Gs.ret ?_
    refine Gs.then_r ?_
    refine Gs.drvClose (P := P) (D := D) (by repeat constructor) hP hok ?_
    refine Gs.slNil 5 1 byteC ?_
    exact Gs.fin2 Try.results14 rfl rfl _ (⟨none, 0, by rw [hv, hv2]; rfl, by rw [hv]⟩) (by repeat constructor)
  · have hv : readL D n = f.b := by rw [← hP]; simp only [readL, e2]
    have hv2 : readE D n = 0 := by rw [← hP]; simp only [readE, e2]
    have hfm : f ∈ D := by rw [← hP, e0]; simp
    have hf2 := used_mem hfm
    refine Gs.seq ?_
    refine Gs.reg ?_
    refine Go.Sl.L.pu rfl rfl trivial (pu_assign rfl) ?_
    refine Go.Sl.L.pu rfl rfl trivial (pu_assign rfl) ?_
    refine Go.Sl.L.nil ?_
    refine Gs.then_n ?_
    refine Gs.seq ?_
    refine Gs.reg ?_
    refine Go.Sl.L.pu rfl rfl trivial (pu_move rfl) ?_
    refine Go.Sl.L.pu rfl rfl trivial (pu_move rfl) ?_
    refine Go.Sl.L.ac rfl rfl trivial (as_call (find_some e3) (by repeat constructor) (by repeat constructor)) ?_
    rintro _ _ ⟨_, ⟨rfl, rfl⟩, rfl⟩
    refine Go.Sl.L.pu rfl rfl trivial (pu_move rfl) ?_
    refine Go.Sl.L.pu rfl rfl trivial (pu_extract rfl rfl) ?_
    refine Go.Sl.L.pu rfl rfl trivial (pu_extract rfl rfl) ?_
    refine Go.Sl.L.pu rfl rfl trivial (pu_assign rfl) ?_
    refine Go.Sl.L.pu rfl rfl trivial (pu_assign rfl) ?_
    refine Go.Sl.L.nil ?_
    refine Gs.then_n ?_
    refine Gs.seq ?_
    refine Gs.seq ?_
    refine Gs.reg ?_
    refine Go.Sl.L.pu rfl rfl trivial (pu_move rfl) ?_
    refine Go.Sl.L.pu rfl rfl trivial (pu_ne rfl rfl) ?_
    refine Go.Sl.L.nil ?_
    refine Gs.then_n ?_
    refine Gs.cond_ff rfl rfl ?_
    refine Gs.skip ?_
    refine Gs.then_n ?_
    refine Gs.seq ?_
    subst e0
    refine Gs.filOpen (U := U) (V := V) (f := f) (p := p) (by repeat constructor) fun fa fc => ?_
    refine Gs.reg ?_
    refine Go.Sl.L.pu rfl rfl trivial (pu_move rfl) ?_
    refine Go.Sl.L.pu rfl rfl trivial (by first | exact pu_nil rfl | exact pu_nilF rfl) ?_
    refine Go.Sl.L.pu rfl rfl trivial (pu_fa fa_55_0 rfl) ?_
    refine Go.Sl.L.rd rfl rfl trivial (rd_ld na_22 rfl (Rdc.cl1 (by repeat constructor) rfl)) ?_
    refine Go.Sl.L.ac rfl rfl trivial (as_call (cloneB_spec (S := sl 5 1 byteC fa fc f.b) Srd.own (by omega)) (by repeat constructor) (by repeat constructor)) ?_
    rintro _ _ ⟨_, ⟨a', c', rfl, rfl⟩, rfl⟩
    refine Go.Sl.L.pu rfl rfl trivial (pu_assign rfl) ?_
    refine Go.Sl.L.pu rfl rfl trivial (pu_assign rfl) ?_
    refine Go.Sl.L.nil ?_
    refine Gs.then_n ?_
    refine Gs.ret ?_
    refine Gs.filClose (U := U) (V := V) (f := f) (p := p) (by repeat constructor) rfl rfl rfl ?_
    refine Gs.drvClose (D := D) (by repeat constructor) hP hok ?_
    exact Gs.fin2 Try.results14 rfl rfl _ (⟨a', c', by rw [hv, hv2], by rw [hv]⟩) (by repeat constructor)
theorem readNil_spec (n : ByteArray) : Ct Try.prog 14 [.pointer none, .string n] [] (fun v hs => v = .tuple #[.slice none 0 0, int 1] ∧ hs = []) := by
  refine Ct.intro Try.func14 rfl (by kernel_rfl) 22 Try.ntmps14 (Nat.le_of_ble_eq_true rfl) fun w0 R => ?_
  refine Gs.seq ?_
  refine Gs.reg ?_
  refine Go.Sl.L.pu rfl rfl trivial (pu_assign rfl) ?_
  refine Go.Sl.L.pu rfl rfl trivial (pu_assign rfl) ?_
  refine Go.Sl.L.nil ?_
  refine Gs.then_n ?_
  refine Gs.seq ?_
  refine Gs.reg ?_
  refine Go.Sl.L.pu rfl rfl trivial (pu_move rfl) ?_
  refine Go.Sl.L.pu rfl rfl trivial (pu_move rfl) ?_
  refine Go.Sl.L.ac rfl rfl trivial (as_call (find_nil n) (by repeat constructor) (by repeat constructor)) ?_
  rintro _ _ ⟨_, ⟨rfl, rfl⟩, rfl⟩
  refine Go.Sl.L.pu rfl rfl trivial (pu_move rfl) ?_
  refine Go.Sl.L.pu rfl rfl trivial (pu_extract rfl rfl) ?_
  refine Go.Sl.L.pu rfl rfl trivial (pu_extract rfl rfl) ?_
  refine Go.Sl.L.pu rfl rfl trivial (pu_assign rfl) ?_
  refine Go.Sl.L.pu rfl rfl trivial (pu_assign rfl) ?_
  refine Go.Sl.L.nil ?_
  refine Gs.then_n ?_
  refine Gs.seq ?_
  refine Gs.seq ?_
  refine Gs.reg ?_
  refine Go.Sl.L.pu rfl rfl trivial (pu_move rfl) ?_
  refine Go.Sl.L.pu rfl rfl trivial (pu_ne rfl rfl) ?_
  refine Go.Sl.L.nil ?_
  refine Gs.then_n ?_
  refine Gs.cond_tt rfl rfl ?_
  refine Gs.seq ?_
  refine Gs.reg ?_
  refine Go.Sl.L.pu rfl rfl trivial (pu_move rfl) ?_
  refine Go.Sl.L.pu rfl rfl trivial (pu_assign rfl) ?_
  refine Go.Sl.L.pu rfl rfl trivial (pu_assign rfl) ?_
  refine Go.Sl.L.nil ?_
  refine Gs.then_n ?_
  refine Gs.ret ?_
  refine Gs.then_r ?_
  exact Gs.fin2 Try.results14 rfl rfl _ (⟨rfl, rfl⟩) (by repeat constructor)
end Go.Proofs.Ytmfgemhjepagjaa
