/- What the closing leans on: part 11. -/
import Derived.Test.YtflfhpokmidnmaaGreatDoorXe
import Derived.Test.YtflfhpokmidnmaaGreatDoorXi
import Derived.Test.YtflfhpokmidnmaaGreatDoorXc
import Derived.Lib.OthersKept
import Derived.Test.YtflfhpokmidnmaaGreatDoorXj
namespace Go.Proofs.YtflfhpokmidnmaaGreatDoor
open Go Go.Sl Go.Gv Go.Kv Go.Dv Go.Bst
set_option maxRecDepth 100000
def s_YOk (P : Program) (l : Nat) (J : List ByteArray → HProp) : Prop := ∀ (pre : List ByteArray) (x : ByteArray) (w0 w : World) (R : List HProp), pre.length < 1000 → Sat w0 w (J pre :: R) → ∃ f tmps assign body, (Instr.yield l #[strV x]).run P w = .ok (.round l f tmps assign body) w ∧
 ∀ m, RoundIn Fence.wide m P l f tmps assign body w fun e w' => e = .returned (.bool true) ∧ Sat w0 w' (J (pre ++ [x]) :: R)
theorem s_erase_perm {α : Type} : ∀ {l : List α} {i : Nat} {x : α}, l[i]? = some x → List.Perm (x :: l.eraseIdx i) l
 | [], _, _, h => by simp at h
 | a :: l, 0, x, h => by simp at h; subst h; exact List.Perm.refl _
 | a :: l, i + 1, x, h => by
   have := s_erase_perm (l := l) (i := i) (x := x) (by simpa using h)
   exact (List.Perm.swap a x _).trans (this.cons a)
theorem Gs.s_yieldAt {l : Nat} {J : List ByteArray → HProp} (hY : s_YOk Tryz.prog l J) {w0 : World} {n m k dd : Nat} {env : Env} {H : List HProp} {Q : Exit → Act → World → Prop} {ops : Array Oper} {rest : List Nat} {x y : Operand} {ts : Array TypeId} {ty : TypeId} {pos : String} {af : Array Edge} {pre : List ByteArray} (z : ByteArray)
   (hpl : pre.length < 1000) (ho : ops[k]? = some ⟨some dd, .call ⟨.value x, #[y], ts⟩, ty, pos, af, none⟩) (hdn : Nat.blt dd n = true) (hx : ev env x = some (.func (.yield l) #[] #[])) (hy : ev env y = some (strV z))
   (g : Gs w0 n ((dd, .bool true) :: env) (J (pre ++ [z]) :: H) (wpOpsIn Fence.wide m Tryz.prog ops Q rest)) : Gs w0 n env (J pre :: H) (wpOpsIn Fence.wide m Tryz.prog ops Q (k :: rest)) := fun a w e t => by
 obtain ⟨f, tmps, assign, body, h1, h2⟩ := hY pre z w0 w H hpl t
 have hw : Region.wanted ⟨some dd, .call ⟨.value x, #[y], ts⟩, ty, pos, af, none⟩ (yielded ops a.tmps) = true := by simp [Region.wanted]
 have hr : (execOp a.eval ⟨some dd, .call ⟨.value x, #[y], ts⟩, ty, pos, af, none⟩).run Tryz.prog w = .ok (.round l f tmps assign body) w := by
   show (do let d ← resolve a.eval ⟨.value x, #[y], ts⟩ ty; invoke d.target d.args : Sem Next).run Tryz.prog w = _
   have hr1 : resolve a.eval ⟨.value x, #[y], ts⟩ ty = (pure ⟨.fn (.yield l) #[], #[strV z]⟩ : Sem Deferred) := by
     simp only [resolve, e.eval hx, Deferred.ofValue]
     simp [e.eval hy]
   rw [hr1]
   simp only [Sem.run_bind, Sem.run_pure, Result.andThen_ok, invoke]
   exact h1
 simp only [wpOpsIn, ho, hw, if_true]
 unfold Oper.wpIn
 refine ⟨fun _ _ => trivial, ?_⟩
 rw [show Fence.wide.round = none from rfl, Oper.semAt_none, hr]
 refine ⟨(fun hs => by cases hs), (h2 (m - 1)).mono ?_⟩
 rintro e' w' ⟨rfl, t'⟩
 exact g _ _ (e.put (by simpa [Nat.blt_eq] using hdn) _) t'
theorem s_keysFn_spec (m : Nat) : Ct Tryz.prog 73 [.map (some m)] []
   (fun v hs => ∃ b, v = .func (.func 114) #[] #[.pointer (some ⟨b, 0, none⟩)] ∧ hs = [cl b 87 [.map (some m)]]) := by
 refine Cti Tryz.func73 (by kernel_rfl) 4 Tryz.ntmps73 rfl rfl fun w0 R => ?_
 refine Gsr (La rfl (ac_box rfl rfl) ?_)
 rintro _ _ ⟨b, rfl, rfl⟩
 refine Las rfl rfl (Lnt (Gsr (Lq rfl (pu_func (by repeat constructor) (by repeat constructor)) ?_)))
 refine Las rfl rfl (Lnt (Gs.ret ?_))
 exact Gs.fin1 Tryz.results73 rfl _ (⟨b, rfl, rfl⟩) (by repeat constructor)
theorem s_iter_spec {l : Nat} {J : List ByteArray → HProp} (hY : s_YOk Tryz.prog l J) (b m : Nat) (es : List (ByteArray × (Option Nat))) (hes : es.length ≤ 1000) :
   Ct Tryz.prog 114 [.func (.yield l) #[] #[], .pointer (some ⟨b, 0, none⟩)] [J [], cl b 87 [.map (some m)], mp strV pv m es]
     (fun _ hs => ∃ xs, List.Perm xs (mkeys es) ∧ hs = [J xs, cl b 87 [.map (some m)], mp strV pv m es]) := by
 refine Cti Tryz.func114 (by kernel_rfl) 14 Tryz.ntmps114 rfl rfl fun w0 R => ?_
 refine Gsr (Lr rfl (rd_ld na_87 rfl (Rdc.cl1 (by repeat constructor) rfl)) ?_)
 refine La rfl (ac_range (enck := strV) (encv := pv) Tryz.underlying87 rfl (by repeat constructor)) ?_
 rintro _ _ ⟨r, rfl, rfl⟩
 refine Lnt (Gs.block (Gs.loop1 (fun s : List ByteArray × List (ByteArray × (Option Nat)) × Option (ByteArray × (Option Nat)) => List.Perm (s.1 ++ mkeys s.2.1) (mkeys es)) (fun s => [(0, .func (.yield l) #[] #[]), (5, .pointer (some ⟨r, 0, none⟩))]) (fun s => [itr strV pv r m es s.2.1 s.2.2, J s.1, cl b 87 [.map (some m)]] ++ R) (fun s => s.2.1.length) ([], es, none) (List.Perm.refl _) (by repeat constructor) (by repeat constructor) (fun s hs => ?_)))
 obtain ⟨pre, left, last⟩ := s
 dsimp only at hs ⊢
 refine Gsr (La rfl (ac_next rfl (by repeat constructor)) ?_)
 rintro _ _ (⟨hl, rfl, rfl⟩ | ⟨i, p, hp, rfl, rfl⟩)
 ·
  have hl' : left = [] := hl
  subst hl'
  refine Gs.itrEnd (by repeat constructor) ?_
  refine Lq rfl (pu_extract rfl rfl) (Lnt (Gs.seq (Gs.cond_f rfl (Gs.exit (Gx (Gx (Gs.blk_hit (Gs.fin_n ?_))))))))
  exact Gs.fin0 Tryz.results114 _ (⟨pre, by simpa [mkeys] using hs, rfl⟩) (by repeat constructor)
 have hperm : List.Perm ((pre ++ [p.1]) ++ mkeys (left.eraseIdx i)) (mkeys es) := by
   refine List.Perm.trans ?_ hs
   rw [List.append_assoc]
   refine List.Perm.append_left pre ?_
   have h1 : List.Perm (p :: left.eraseIdx i) left := s_erase_perm hp
   exact h1.map Prod.fst
 have hlt : (left.eraseIdx i).length < left.length := by
   have := (List.getElem?_eq_some_iff.1 hp).1
   rw [List.length_eraseIdx_of_lt this]; omega
 have hpl : pre.length < 1000 := by
   have h1 := hs.length_eq
   have h2 := (List.getElem?_eq_some_iff.1 hp).1
   simp [mkeys] at h1; omega
 refine Lq rfl (pu_extract rfl rfl) (Lnt (Gs.seq (Gs.cond_t rfl (Gs.skip (Gn (Gs.block (Gsr (Lr rfl (ac_entry rfl (by repeat constructor)) ?_))))))))
 refine Lq rfl (pu_extract rfl rfl) (Las rfl rfl (Lnt (Gs.seq (Gs.wide (m := 0) ?_))))
 refine GI.reg [0, 1, 2, 3] rfl (GI.rd Fw.wide rfl rfl rfl rfl rfl (Pu.rd (pu_move rfl)) (GI.rd Fw.wide rfl rfl rfl rfl rfl (Pu.rd (pu_move rfl)) (Gs.take (A := J pre) (by repeat constructor) ?_)))
 refine Gs.s_yieldAt hY p.1 hpl rfl rfl rfl rfl (GI.rd Fw.wide rfl rfl rfl rfl rfl (Pu.rd (pu_not rfl)) (GI.nil (Gn (Gs.cond_f rfl (Gs.skip (Gs.blk_n (Gn ?_)))))))
 exact Ag (pre ++ [p.1], left.eraseIdx i, some p) hperm hlt
def s_colJ (l b2 : Nat) (r : Loop) (pre : List ByteArray) : HProp := fun h => ∃ p : Option Addr × Nat, two (pt l (.loop r)) (two (cl b2 22 [.slice p.1 pre.length p.2]) (sl 9 1 strC p.1 p.2 pre)) h
theorem s_colJ_fold {l b2 n : Nat} {r : Loop} {pre : List ByteArray} {a : Option Addr} {c : Nat} {w0 w : World} {L : List HProp} (hn : n = pre.length) (s : Sat w0 w (pt l (.loop r) :: cl b2 22 [.slice a n c] :: sl 9 1 strC a c pre :: L)) : Sat w0 w (s_colJ l b2 r pre :: L) := by
 subst hn
 have s1 : Sat w0 w (cl b2 22 [.slice a pre.length c] :: sl 9 1 strC a c pre :: pt l (.loop r) :: L) := (s.take (.tl (.tl .hd))).take (.tl (.tl .hd))
 exact (Sat.two.2 ((Sat.two.2 s1).take (.tl .hd))).ent fun h x => ⟨(a, c), x⟩
theorem s_colJ_open {l b2 : Nat} {r : Loop} {pre : List ByteArray} {w0 w : World} {L : List HProp} (s : Sat w0 w (s_colJ l b2 r pre :: L)) : ∃ a c, Sat w0 w (pt l (.loop r) :: cl b2 22 [.slice a pre.length c] :: sl 9 1 strC a c pre :: L) := by
 obtain ⟨p, s1⟩ := s.ex
 have s2 := Sat.two.1 ((Sat.two.1 s1).take (.tl .hd))
 exact ⟨p.1, p.2, s2.take (.tl (.tl .hd))⟩
theorem s_collect_seq (b m : Nat) (es : List (ByteArray × (Option Nat))) (hl : es.length ≤ 1000) :
   Ct Tryz.prog 141 [.slice none 0 0, .func (.func 114) #[] #[.pointer (some ⟨b, 0, none⟩)]]
     [cl b 87 [.map (some m)], mp strV pv m es] (fun v hs => ∃ xs a c, List.Perm xs (mkeys es) ∧ v = .slice a xs.length c ∧ hs = [sl 9 1 strC a c xs, mp strV pv m es]) := by
 refine Ct.introM Tryz.func141 rfl (by kernel_rfl) 13 Tryz.ntmps141 (Nat.le_of_ble_eq_true rfl) fun w0 R => ?_
 refine Gsr (La rfl (ac_box rfl rfl) ?_)
 rintro _ _ ⟨b2, rfl, rfl⟩
 refine Las rfl rfl (Lnt (Gs.seq (Gsr (Lmv rfl rfl (Lnt (Gs.block (Gs.slNil 9 1 strC ?_)))))))
 intro a w e s
 have hen : ∀ args w, (callFunc 114 args).run Tryz.prog w = .ok (.enter 114 args) w := Go.Proofs.enters_of Tryz.func114 (by kernel_rfl) rfl
 have he : a.eval (.tmp 6) = .func (.func 114) #[] #[.pointer (some ⟨b, 0, none⟩)] := e.eval rfl
 refine wp_rangeCall he hen fun fn r hr => ?_
 have sat1 := s.alloc2 (.deferred (some [])) (.loop r)
 have hY : s_YOk Tryz.prog (w.heap.size + 1) (s_colJ (w.heap.size + 1) b2 r) := by
   intro pre x w1 w' R' hpl hs
   obtain ⟨a', c', s1⟩ := s_colJ_open hs
   refine ⟨r.fn, _, r.assign, r.body, run_yield s1.pt (by rw [hr]; rfl), fun m => roundIn_of_wpIn trivial ?_⟩
   have ht : (r.params.zip #[strV x]).foldl (fun tmps (t, a) => tmps.setIfInBounds t a) r.tmps = (a.put (some 7) (strV x)).tmps := by rw [hr]; simp [Act.put]
   have e7 : EnvOk 13 [(7, strV x), (2, .pointer (some ⟨b2, 0, none⟩))] ⟨(r.params.zip #[strV x]).foldl (fun tmps (t, a) => tmps.setIfInBounds t a) r.tmps, []⟩ := by
     rw [ht]
     have e8 := (e.put (d := 7) (by decide) (strV x)).sub (e := [(7, strV x), (2, .pointer (some ⟨b2, 0, none⟩))]) (by repeat constructor)
     exact ⟨e8.size, rfl, e8.slots⟩
   refine (?_ : Gs w1 13 [(7, strV x), (2, .pointer (some ⟨b2, 0, none⟩))] _ _) _ _ e7 s1
   subst hr
   refine GI.reg [0] rfl (GI.rd (Fw.round _) rfl rfl rfl rfl rfl (Pu.rd (pu_assign rfl)) (GI.nil (Gn (Gs.take .hd (Gs.begin rfl (GI.block (GI.reg [0, 1, 2, 3, 4] rfl (GI.rd (Fw.round _) rfl rfl rfl rfl rfl (rd_ld na_22 rfl (Rdc.cl1 (by repeat constructor) rfl)) ?_))))))))
   refine GI.rd (Fw.round _) rfl rfl rfl rfl rfl (Pu.rd (pu_move rfl)) (GI.ac (Fw.round _) rfl rfl rfl rfl rfl (ac_lit strC [x] et_22 ek_9 rfl (by repeat constructor) rfl rfl (by decide)) ?_)
   rintro _ _ ⟨lb, rfl, rfl⟩
   refine GI.ac (Fw.round _) rfl rfl rfl rfl rfl (ac_append (xs := pre) et_22 ek_9 rfl rfl (by repeat constructor) (SrcH.sl Tryz.underlying22 ek_9 (SlH.own (by repeat constructor))) (by simp; omega) (by simp; omega)) ?_
   rintro _ _ ⟨a2, c2, rfl, rfl⟩
   refine GI.ac0 (Fw.round _) rfl rfl rfl rfl (ac_st sz_22 rfl rfl (by repeat constructor) rfl rfl rfl rfl) ?_
   rintro _ _ rfl
   refine GI.nil (Gs.blk_n (Gs.take (A := pt (w.heap.size + 1) (.loop _)) (by repeat constructor) ?_))
   refine Gs.endRound fun w'' s'' => ⟨rfl, s_colJ_fold (a := a2) (c := c2) rfl (Ent.sat (by repeat constructor) s'')⟩
 have satJ : Sat w0 ((w.alloc (.deferred (some []))).alloc (.loop r)) ([s_colJ (w.heap.size + 1) b2 r [], cl b 87 [.map (some m)], mp strV pv m es] ++ (pt w.heap.size (.deferred (some [])) :: R)) := by
   have := sat1.takes (As := [pt (w.heap.size + 1) (.loop r), cl b2 22 [.slice none 0 0], sl 9 1 strC none 0 [], cl b 87 [.map (some m)], mp strV pv m es]) (by repeat constructor)
   exact s_colJ_fold rfl this
 refine ((s_iter_spec hY b m es hl).calls w0 _ _ satJ).mono ?_
 rintro e' w' ⟨v, hs, rfl, ⟨xs, hp, rfl⟩, sat2⟩
 obtain ⟨a', c', s3⟩ := s_colJ_open sat2
 have hend := run_endLoop (P := Tryz.prog) s3.pt (by rw [hr]; simp)
 rw [show r.pending = none by rw [hr]] at hend
 refine ⟨v, _, rfl, hend, ?_⟩
 have s4 : Sat w0 (w'.putObj (w.heap.size + 1) (.loop { r with state := .exhausted, pending := none })) _ := s3.setMap
 have rho : Rho [(2, .pointer (some ⟨b2, 0, none⟩))] a.eval := (e.sub (e := [(2, .pointer (some ⟨b2, 0, none⟩))]) (by repeat constructor)).rho
 refine wp_seq (wp_region_lit ?_)
 refine tail_rd rfl rfl (rd_ld na_22 rfl (Rdc.cl1 (by repeat constructor) rfl)) rho s4 fun w5 s5 => ?_
 have e5 := (e.put (d := 12) (by decide) (.slice a' xs.length c'))
 have rho5 : Rho [(12, .slice a' xs.length c')] (({ a with defers := [{ target := .collected w.heap.size, args := #[] }] ++ a.defers } : Act).put (some 12) (.slice a' xs.length c')).eval :=
   (e5.sub (e := [(12, .slice a' xs.length c')]) (by repeat constructor)).rho
 refine tail_rd rfl rfl (Pu.rd (pu_assign rfl)) rho5 s5 fun w6 s6 => ?_
 have e6 := (e5.put (d := 4) (by decide) (.slice a' xs.length c'))
 refine wp_ret ?_
 have s7 := s6.take (A := pt w.heap.size (.deferred (some []))) (by repeat constructor)
 have hds : a.defers = [] := e.defers
 show LeavesInM Fence.wide 0 _ _ _ _ ({ target := .collected w.heap.size, args := #[] } :: a.defers) .returning w6
 rw [hds]
 refine ⟨by simp, .inl ⟨w.heap.size, _, rfl, run_takeDeferred s7.pt, ?_⟩⟩
 have s8 : Sat w0 (w6.putObj w.heap.size (.deferred none)) _ := s7.setMap (o' := .deferred none)
 refine ⟨_, results_tmp Tryz.results141 _ _ _, _, _, rfl, ⟨xs, a', c', hp, ?_, rfl⟩, Ent.sat (by repeat constructor) s8⟩
 exact e6.slots 4 _ rfl
theorem s_collect_spec (b m : Nat) (es : List (ByteArray × (Option Nat))) (hl : es.length ≤ 1000) :
   Ct Tryz.prog 112 [.func (.func 114) #[] #[.pointer (some ⟨b, 0, none⟩)]]
     [cl b 87 [.map (some m)], mp strV pv m es] (fun v hs => ∃ xs a c, List.Perm xs (mkeys es) ∧ v = .slice a xs.length c ∧ hs = [sl 9 1 strC a c xs, mp strV pv m es]) := by
 refine Cti Tryz.func112 (by kernel_rfl) 5 Tryz.ntmps112 rfl rfl fun w0 R => ?_
 refine Gsr (Las rfl rfl (Lnt (Gsr (Lmv rfl rfl (La rfl (asC (s_collect_seq b m es hl)) ?_)))))
 rintro _ _ ⟨_, ⟨xs, a, c, hp, rfl, rfl⟩, rfl⟩
 refine Las rfl rfl (Lnt (Gs.ret ?_))
 exact Gs.fin1 Tryz.results112 rfl _ (⟨xs, a, c, hp, rfl, rfl⟩) (by repeat constructor)
end Go.Proofs.YtflfhpokmidnmaaGreatDoor
namespace Go.Sl
open Go Go.ChangeMaps
section
variable {P : Program} {n : Nat} {w0 : World} {env : Env} {H : List HProp}
def sit (r : Nat) (s : ByteArray) (i : Nat) : HProp := pt r (.stringIter s i)
theorem ac_rangeS {d : Option Tmp} {x : Operand} {T ty : TypeId} {pos : String} {af : Array Edge} {g : Option (Nat × Bool)} {s : ByteArray} (ht : P.underlying T = some .string) (hx : ev env x = some (.string s)) :
   Ac P ⟨d, .range T x, ty, pos, af, g⟩ w0 env H (fun v H'' => ∃ r, v = .pointer (some ⟨r, 0, none⟩) ∧ H'' = sit r s 0 :: H) := Ac.of_run fun ρ w r st => by
 refine ⟨_, _, _, run_v (s := Instr.range T (ρ x)) (v := .pointer (some ⟨w.heap.size, 0, none⟩)) (w' := w.iter s 0) ?_, ⟨w.heap.size, rfl, rfl⟩, ?_⟩
 · rw [r.eval hx]; exact run_range_string w T s ht
 · exact st.alloc _
theorem ac_nextS {d : Option Tmp} {x : Operand} {ty : TypeId} {pos : String} {af : Array Edge} {g : Option (Nat × Bool)} {s : ByteArray} {r i : Nat} {H' : List HProp}
   (hx : ev env x = some (.pointer (some ⟨r, 0, none⟩))) (t : Take (sit r s i) H H') :
   Ac P ⟨d, .next x true, ty, pos, af, g⟩ w0 env H (fun v H'' => (¬ i < s.size ∧ v = .tuple #[.bool false] ∧ H'' = sit r s i :: H') ∨
     (i < s.size ∧ v = .tuple #[.bool true, .int .i64 i, .int .i32 (Utf8.decode s i).1] ∧ H'' = sit r s (i + (Utf8.decode s i).2) :: H')) := Ac.of_run fun ρ w rr st => by
 have s1 := st.take t
 have hk : w.heap[r]? = some (.stringIter s i) := Sat.pt s1
 by_cases h : i < s.size
 · refine ⟨_, _, _, run_v (s := Instr.next (ρ x) true ty) (by rw [rr.eval hx]; exact Lib.run_next_any_at w r s i ty hk h), .inr ⟨h, rfl, rfl⟩, ?_⟩
   exact Sat.setMap s1
 · exact ⟨_, _, _, run_v (s := Instr.next (ρ x) true ty) (by rw [rr.eval hx]; exact Lib.run_next_end_at w r s i ty hk h), .inl ⟨h, rfl, rfl⟩, s1⟩
end
end Go.Sl
namespace Go.Proofs
open Go.Shelf
namespace YtflfhpokmidnmaaGreatDoor
open Go Go.Sl Go.Gv Go.Dv Go.Bst Go.RowKit
set_option maxRecDepth 100000
theorem ofNat_toNat8 (c : UInt8) : (c.toNat : Int).toNat.toUInt8 = c := by
 rw [Int.toNat_natCast]
 exact UInt8.ofNat_toNat
theorem hasRune_spec (s : ByteArray) (c : UInt8) (h : c.toNat < 128) : Ct Tryz.prog 163 [.string s, .int .i32 c.toNat] [] (fun v hs => v = .bool (decide (0 ≤ Lib.indexByte s.data.toList c)) ∧ hs = []) :=
 Ct.ofBelow Tryz.func163 rfl (by kernel_rfl) (V := fun _ => .bool (decide (0 ≤ Lib.indexByte s.data.toList c))) (fun w0 w R st => by
   have := Any.strings_ContainsRune_ascii Tryz.laysCtRune s c.toNat w (by omega) (by omega)
   rw [ofNat_toNat8] at this
   exact this.mono fun e w' ⟨h1, h2⟩ => ⟨h1, by rw [h2]; exact Below.refl _ _⟩) (fun _ => ⟨rfl, rfl⟩)
def abc : List UInt8 := [97, 98, 99, 100, 101, 102, 103, 104, 105, 106, 107, 108, 109, 110, 111, 112, 113, 114, 115, 116, 117, 118, 119, 120, 121, 122, 48, 49, 50, 51, 52, 53, 54, 55, 56, 57, 46]
theorem abc_ok (c : UInt8) : decide (0 ≤ Lib.indexByte abc c) = okB c := by
 have h : ∀ k : Fin 256, decide (0 ≤ Lib.indexByte abc (UInt8.ofNat k.val)) = okB (UInt8.ofNat k.val) := by decide +kernel
 have := h ⟨c.toNat, c.toNat_lt⟩
 rwa [show UInt8.ofNat c.toNat = c from UInt8.ofNat_toNat] at this
theorem odd_specL (c : UInt8) (h : c.toNat < 128) : Ct Tryz.prog 162 [.int .i32 c.toNat] [] (fun v hs => v = .bool (!okB c) ∧ hs = []) := by
 refine Cti Tryz.func162 (by kernel_rfl) 6 Tryz.ntmps162 rfl rfl fun w0 R => ?_
 refine Gsr (Las rfl rfl (Lnt (Gsr (Lmv rfl rfl (La rfl (asC (hasRune_spec ⟨abc.toArray⟩ c h)) ?_)))))
 rintro _ _ ⟨_, ⟨rfl, rfl⟩, rfl⟩
 refine Lq rfl (pu_not rfl) (Las rfl rfl (Lnt (Gs.ret ?_)))
 exact Gs.fin1 Tryz.results162 rfl _ (⟨by rw [← abc_ok c], rfl⟩) (by repeat constructor)
theorem decode_at {s : ByteArray} {i : Nat} (h : i < s.size) {c : UInt8} (hc : s.data.toList[i]? = some c) (ha : c.toNat < 128) : Utf8.decode s i = (c.toNat, 1) := by
 have e : s[i]'h = c := by
   have : s.data.toList[i]? = some (s.data[i]'h) := by simp
   rw [this] at hc; exact Option.some.inj hc
 have := decode_ascii s i h (by rw [e]; exact ha)
 rw [e] at this; exact this
theorem any_drop {p : UInt8 → Bool} {l : List UInt8} {i : Nat} {c : UInt8} (h : l[i]? = some c) : (l.drop i).any p = (p c || (l.drop (i + 1)).any p) := by
 obtain ⟨hl, e⟩ := List.getElem?_eq_some_iff.1 h
 rw [List.drop_eq_getElem_cons hl, List.any_cons, e]
theorem indexFunc_spec (p : UInt8 → Bool) (g : Nat) (s : ByteArray) (hs : s.size ≤ 1000000) (ha : asciiB s = true) (hg : ∀ c : UInt8, c.toNat < 128 → Ct Tryz.prog g [.int .i32 c.toNat] [] (fun v hs => v = .bool (p c) ∧ hs = [])) :
   Ct Tryz.prog 234 [.string s, .func (.func g) #[] #[], .bool true] [] (fun v hs => (∃ z : Int, v = int z ∧ decide (0 ≤ z) = s.data.toList.any p) ∧ hs = []) := by
 have hsz : s.size = s.data.toList.length := by rw [Array.length_toList]; rfl
 refine Cti Tryz.func234 (by kernel_rfl) 21 Tryz.ntmps234 rfl rfl fun w0 R => ?_
 refine Gsr (Las rfl rfl (Lnt (Gs.seq (Gsr (Lmv rfl rfl (La rfl (ac_rangeS Tryz.underlying9 rfl) ?_))))))
 rintro _ _ ⟨r, rfl, rfl⟩
 refine Lnt (Gs.block (Gs.loop1 (fun i : Nat => i ≤ s.size ∧ s.data.toList.any p = (s.data.toList.drop i).any p) (fun i => [(1, .func (.func g) #[] #[]), (2, .bool true), (10, .pointer (some ⟨r, 0, none⟩))]) (fun i => [sit r s i] ++ R) (fun i => s.size - i) 0 (⟨Nat.zero_le _, rfl⟩) (by repeat constructor) (by repeat constructor) (fun i ⟨hi, hd⟩ => ?_)))
 refine Gsr (La rfl (ac_nextS rfl (by repeat constructor)) ?_)
 rintro _ _ (⟨hl, rfl, rfl⟩ | ⟨hl, rfl, rfl⟩)
 ·
  refine Lq rfl (pu_extract rfl rfl) (Lnt (Gs.seq (Gs.cond_f rfl (Gs.exit (Gx (Gx (Gs.blk_hit (Gn (Gsr (Las rfl rfl (Lnt ?_)))))))))))
  refine Gs.ret ?_
  exact Gs.fin1 Tryz.results234 rfl _ (⟨⟨_, rfl, by rw [hd, List.drop_eq_nil_of_le (by omega)]; rfl⟩, rfl⟩) (by repeat constructor)
 obtain ⟨c, hc⟩ : ∃ c, s.data.toList[i]? = some c := ⟨s.data.toList[i]'(by omega), by simp⟩
 have hc1 : c.toNat < 128 := by
   have := List.all_eq_true.1 ha c (List.mem_of_getElem? hc)
   simpa using this
 rw [decode_at hl hc hc1]
 refine Lq rfl (pu_extract rfl rfl) (Lnt (Gs.seq (Gs.cond_t rfl (Gs.skip (Gn (Gs.block (Gsr (Lq rfl (pu_extract rfl rfl) (Lq rfl (pu_extract rfl rfl) (Las rfl rfl (Las rfl rfl ?_)))))))))))
 refine Lnt (Gsr (Lmv rfl rfl (Lmv rfl rfl (La rfl (as_callV rfl (hg c hc1) (by repeat constructor) (by repeat constructor)) ?_))))
 rintro _ _ ⟨_, ⟨rfl, rfl⟩, rfl⟩
 refine Lmv rfl rfl (Lq rfl (pu_eqB Tryz.underlying4 rfl rfl) (Lnt (Gs.cond rfl (fun hq => ?_) (fun hq => ?_))))
 ·
  have hp : p c = true := by simpa using hq
  refine Gsr (Lmv rfl rfl (Las rfl rfl (Lnt (Gs.ret (Gs.blk_r (Gr (Gs.blk_r (Gr ?_))))))))
  exact Gs.fin1 Tryz.results234 rfl _ (⟨⟨_, rfl, by rw [hd, any_drop hc, hp]; simp⟩, rfl⟩) (by repeat constructor)
 have hp : p c = false := by simpa using hq
 refine Gs.skip (Gs.blk_n (Gn ?_))
 exact Ag (i + 1) ⟨by omega, by rw [hd, any_drop hc, hp]; rfl⟩ (by show s.size - (i + 1) < s.size - i; omega)
theorem containsFunc_spec (p : UInt8 → Bool) (g : Nat) (s : ByteArray) (hs : s.size ≤ 1000000) (ha : asciiB s = true) (hg : ∀ c : UInt8, c.toNat < 128 → Ct Tryz.prog g [.int .i32 c.toNat] [] (fun v hs => v = .bool (p c) ∧ hs = [])) :
   Ct Tryz.prog 164 [.string s, .func (.func g) #[] #[]] [] (fun v hs => v = .bool (s.data.toList.any p) ∧ hs = []) := by
 have hI : Ct Tryz.prog 205 [.string s, .func (.func g) #[] #[]] [] (fun v hs => (∃ z : Int, v = int z ∧ decide (0 ≤ z) = s.data.toList.any p) ∧ hs = []) := by
   refine Cti Tryz.func205 (by kernel_rfl) 8 Tryz.ntmps205 rfl rfl fun w0 R => ?_
   refine Gsr (Las rfl rfl (Lnt (Gsr (Lmv rfl rfl (Lmv rfl rfl (La rfl (asC (indexFunc_spec p g s hs ha hg)) ?_))))))
   rintro _ _ ⟨_, ⟨⟨z, rfl, hz⟩, rfl⟩, rfl⟩
   refine Las rfl rfl (Lnt (Gs.ret ?_))
   exact Gs.fin1 Tryz.results205 rfl _ (⟨⟨z, rfl, hz⟩, rfl⟩) (by repeat constructor)
 refine Cti Tryz.func164 (by kernel_rfl) 9 Tryz.ntmps164 rfl rfl fun w0 R => ?_
 refine Gsr (Las rfl rfl (Lnt (Gsr (Lmv rfl rfl (Lmv rfl rfl (La rfl (asC (hI)) ?_))))))
 rintro _ _ ⟨_, ⟨⟨z, rfl, hz⟩, rfl⟩, rfl⟩
 refine Lq rfl (pu_ge rfl rfl) (Las rfl rfl (Lnt (Gs.ret ?_)))
 exact Gs.fin1 Tryz.results164 rfl _ (⟨by rw [← hz], rfl⟩) (by repeat constructor)
theorem named_spec (s : ByteArray) (ha : asciiB s = true) (hsz : s.size ≤ 9223372036854775807) : Ct Tryz.prog 133 [.string s] [] (fun v hs => v = .bool (namedB s) ∧ hs = []) := by
 refine Cti Tryz.func133 (by kernel_rfl) 18 Tryz.ntmps133 rfl rfl fun w0 R => ?_
 refine Gsr (Las rfl rfl (Lnt (Gsr (Las rfl rfl (Lnt (Gsr (Lmv rfl rfl (Lq rfl (pu_lenS Tryz.underlying9 rfl) (Lq rfl (pu_ge rfl rfl) (LpuB rfl rfl trivial (pu_move rfl) (fun hg3 => ?_) (fun hg3 => ?_)))))))))))
 ·
  have hg := of_decide_eq_true hg3
  refine Lpu rfl rfl ⟨_, rfl, rfl⟩ (pu_move rfl) (Lpu rfl rfl ⟨_, rfl, rfl⟩ (pu_lenS Tryz.underlying9 rfl) (Lpu rfl rfl ⟨_, rfl, rfl⟩ (pu_le rfl rfl) (Lpk rfl rfl rfl (LpuB rfl rfl trivial (pu_move rfl) (fun hg8 => ?_) (fun hg8 => ?_)))))
  ·
   have hg8' := of_decide_eq_true hg8
   refine Lpu rfl rfl ⟨_, rfl, rfl⟩ (pu_move rfl) (Lpu rfl rfl ⟨_, rfl, rfl⟩ (pu_move rfl) (Lac rfl rfl ⟨_, rfl, rfl⟩ (asC (containsFunc_spec (fun c => !okB c) _ s (by omega) ha odd_specL)) ?_))
   rintro _ _ ⟨_, ⟨rfl, rfl⟩, rfl⟩
   refine Lpu rfl rfl ⟨_, rfl, rfl⟩ (pu_not rfl) (Lpk rfl rfl rfl (Las rfl rfl (Lnt (Gs.ret ?_))))
   exact Gs.fin1 Tryz.results133 rfl _ (⟨by grind [namedB], rfl⟩) (by repeat constructor)
  have hg8' := of_decide_eq_false hg8
  refine Lof rfl (Lof rfl (Lof rfl (Lof rfl (Lpk rfl rfl rfl (Las rfl rfl (Lnt (Gs.ret ?_)))))))
  exact Gs.fin1 Tryz.results133 rfl _ (⟨by grind [namedB], rfl⟩) (by repeat constructor)
 have hg := of_decide_eq_false hg3
 refine Lof rfl (Lof rfl (Lof rfl (Lpk rfl rfl rfl (Lmv rfl rfl (Lof rfl (Lof rfl (Lof rfl (Lof rfl (Lpk rfl rfl rfl (Las rfl rfl (Lnt ?_)))))))))))
 refine Gs.ret ?_
 exact Gs.fin1 Tryz.results133 rfl _ (⟨by grind [namedB], rfl⟩) (by repeat constructor)
end YtflfhpokmidnmaaGreatDoor
end Go.Proofs
namespace Go.Proofs.YtflfhpokmidnmaaGreatDoor
open Go Go.Sl Go.Gv Go.Kv Go.Dv Go.Bst
set_option maxRecDepth 100000
theorem drvNew_spec (most : Int) : Ct Tryz.prog 30 [int most] [] (fun v hs => ((most < 0 ∨ 1048576 < most) ∧ v = .pointer none ∧ hs = []) ∨
   (0 ≤ most ∧ most ≤ 1048576 ∧ ∃ b, v = ptr b ∧ hs = [drv b most []])) := by
 refine Cti Tryz.func30 (by kernel_rfl) 13 Tryz.ntmps30 rfl rfl fun w0 R => ?_
 refine Gsr (Las rfl rfl (Lnt (Gs.seq (Gsr (Lmv rfl rfl (Lq rfl (pu_lt rfl rfl) (LpuB rfl rfl trivial (pu_move rfl) (fun hg2 => ?_) (fun hg2 => ?_))))))))
 ·
  have hg2' := of_decide_eq_true hg2
  refine Lof rfl (Lof rfl (Lpk rfl rfl rfl (Lnt (Gs.cond_t rfl (Gsr (Las rfl rfl (Lnt (Gs.ret (Gr ?_)))))))))
  exact Gs.fin1 Tryz.results30 rfl _ (.inl ⟨by omega, rfl, rfl⟩) (by repeat constructor)
 have hg2' := of_decide_eq_false hg2
 refine Lpu rfl rfl ⟨_, rfl, rfl⟩ (pu_move rfl) (Lpu rfl rfl ⟨_, rfl, rfl⟩ (pu_gt rfl rfl) (Lpk rfl rfl rfl (Lnt (Gs.cond rfl (fun hc => ?_) (fun hc => ?_)))))
 ·
  have hc' := of_decide_eq_true hc
  refine Gsr (Las rfl rfl (Lnt (Gs.ret (Gr ?_))))
  exact Gs.fin1 Tryz.results30 rfl _ (.inl ⟨by omega, rfl, rfl⟩) (by repeat constructor)
 have hc' := of_decide_eq_false hc
 refine Gs.skip (Gn (Gsr (Lmv rfl rfl (La rfl (ac_mkmap enck_9 encv_86) ?_))))
 rintro _ _ ⟨m, rfl, rfl⟩
 refine Lq rfl (pu_build bd_89 (by repeat constructor) rfl) ?_
 refine La rfl (ac_box rfl rfl) ?_
 rintro _ _ ⟨b, rfl, rfl⟩
 refine Las rfl rfl (Lnt (Gs.ret (Gs.filesNil (Gs.drvClose (P := []) (D := []) (by repeat constructor) rfl (Ok.nil (by omega) (by omega)) ?_))))
 exact Gs.fin1 Tryz.results30 rfl _ (.inr ⟨by omega, by omega, b, rfl, rfl⟩) (by repeat constructor)
theorem drvNew_ok (most : Int) (h : 0 ≤ most) (h2 : most ≤ 1048576) : Ct Tryz.prog 30 [int most] [] (fun v hs => ∃ b, v = ptr b ∧ hs = [drv b most []]) :=
 (drvNew_spec most).mono fun v hs h => by
   rcases h with ⟨h, -⟩ | ⟨-, -, h⟩
   · omega
   · exact h
abbrev fpre (b m : Nat) (most : Int) (P : DP) : List HProp := [cl b 89 (driveC most m), mp strV pv m (pairs P)]
theorem find_some {b m : Nat} {most : Int} {P : DP} {n : ByteArray} {p : Nat} (h : mget (pairs P) n = some (some p)) : Ct Tryz.prog 115 [ptr b, .string n] (fpre b m most P) (fun v hs => v = .tuple #[ptr p, int 0] ∧ hs = fpre b m most P) := by
 refine Cti Tryz.func115 (by kernel_rfl) 18 Tryz.ntmps115 rfl rfl fun w0 R => ?_
 refine Gsr (Las rfl rfl (Las rfl rfl (Lnt (Gs.seq (Gsr (Lmv rfl rfl (Lq rfl (pu_eqN Tryz.underlying40 rfl rfl) (Lnt (Gs.cond_f rfl (Gs.skip (Gn ?_)))))))))))
 refine Gs.seq (Gsr (Lmv rfl rfl (Lq rfl (by first | exact pu_nil rfl | exact pu_nilF rfl) ?_)))
 refine Lq rfl (pu_fa fa_89_1 rfl) (Lr rfl (rd_ld na_87 rfl (Rdc.cl1 (by repeat constructor) rfl)) ?_)
 refine Lmv rfl rfl (Lr rfl (rd_look1 (k := n) Tryz.underlying87 kt_9 zvk_86 rfl rfl (by repeat constructor)) ?_)
 rw [h]
 refine Las rfl rfl (Lnt (Gsr (Lmv rfl rfl (Lq rfl (pu_neN Tryz.underlying86 rfl rfl) (Lnt (Gs.cond_t rfl (Gsr (Lmv rfl rfl (Las rfl rfl (Las rfl rfl (Lnt ?_)))))))))))
 refine Gs.ret (Gr ?_)
 exact Gs.fin2 Tryz.results115 rfl rfl _ (⟨rfl, rfl⟩) (by repeat constructor)
theorem find_none {b m : Nat} {most : Int} {P : DP} {n : ByteArray} (h : mget (pairs P) n = none) : Ct Tryz.prog 115 [ptr b, .string n] (fpre b m most P) (fun v hs => v = .tuple #[.pointer none, int 13] ∧ hs = fpre b m most P) := by
 refine Cti Tryz.func115 (by kernel_rfl) 18 Tryz.ntmps115 rfl rfl fun w0 R => ?_
 refine Gsr (Las rfl rfl (Las rfl rfl (Lnt (Gs.seq (Gsr (Lmv rfl rfl (Lq rfl (pu_eqN Tryz.underlying40 rfl rfl) (Lnt (Gs.cond_f rfl (Gs.skip (Gn ?_)))))))))))
 refine Gs.seq (Gsr (Lmv rfl rfl (Lq rfl (by first | exact pu_nil rfl | exact pu_nilF rfl) ?_)))
 refine Lq rfl (pu_fa fa_89_1 rfl) (Lr rfl (rd_ld na_87 rfl (Rdc.cl1 (by repeat constructor) rfl)) ?_)
 refine Lmv rfl rfl (Lr rfl (rd_look1 (k := n) Tryz.underlying87 kt_9 zvk_86 rfl rfl (by repeat constructor)) ?_)
 rw [h]
 refine Las rfl rfl (Lnt (Gsr (Lmv rfl rfl (Lq rfl (pu_neN Tryz.underlying86 rfl rfl) (Lnt (Gs.cond_f rfl (Gs.skip (Gn (Gsr (Las rfl rfl (Las rfl rfl ?_)))))))))))
 refine Lnt (Gs.ret ?_)
 exact Gs.fin2 Tryz.results115 rfl rfl _ (⟨rfl, rfl⟩) (by repeat constructor)
end Go.Proofs.YtflfhpokmidnmaaGreatDoor
namespace Go.Sl
open Go Go.Sort Go.Proofs
section
variable {α : Type} {w0 w : World} {L : List HProp} {E : Nat} {enc : α → Value} {b off c : Nat} {xs : List α}
variable [Inhabited α]
end
end Go.Sl
namespace Go.Proofs.YtflfhpokmidnmaaGreatDoor
open Go Go.Sl Go.Gv Go.Kv Go.Dv Go.Bst Go.Sort
set_option maxRecDepth 100000
theorem sortS_specL (a : Option Addr) (c : Nat) (xs : List ByteArray) (hl : xs.length ≤ 1000) : Ct Tryz.prog 113 [.slice a xs.length c] [sl 9 1 strC a c xs]
   (fun v hs => v = .tuple #[] ∧ hs = [sl 9 1 strC a c (sortB xs)]) := by
 refine ⟨enters_of Tryz.func113 (by kernel_rfl) rfl _, fun w0 w R s => ?_⟩
 by_cases he : xs = []
 · subst he
   refine (Any.slices_Sort_string_none Tryz.laysSortS a c w).mono ?_
   rintro e w' ⟨rfl, rfl⟩
   exact ⟨_, _, rfl, ⟨rfl, rfl⟩, by rw [show sortB [] = [] by simp [sortB]]; exact s⟩
 · obtain ⟨b, off, ha, -⟩ := (SlH.own .hd : SlH w0 ([sl 9 1 strC a c xs] ++ R) 1 strC a xs) w s he
   subst ha
   have s1 : Sat w0 w (sl 9 1 (fun x : List UInt8 => [encStr x]) (some ⟨b, off, none⟩) c (xs.map fun s => s.data.toList) :: R) := Sat.ent s (sl_map (fun s : ByteArray => s.data.toList) fun x => by show [Value.string x] = [Value.string ⟨x.data.toList.toArray⟩]; rw [of_list])
   obtain ⟨hH, hb⟩ := sl1_holds s1
   have hS := Any.slices_Sort_string Tryz.laysSortS b off c (xs.map fun s => s.data.toList) w hH hb (by simp; omega)
   rw [List.length_map] at hS
   refine hS.mono ?_
   rintro e w' ⟨rfl, n, os, rfl⟩
   refine ⟨_, _, rfl, ⟨rfl, rfl⟩, ?_⟩
   have s2 := sl1_sorted (n := n) (os := os) (ys := (xs.map fun s => s.data.toList).mergeSort fun x y => decide (x ≤ y)) (by rw [List.length_mergeSort]) s1
   exact s2.ent (sl_map (fun l : List UInt8 => (⟨l.toArray⟩ : ByteArray)) fun x => rfl)
theorem sortedS_spec (b m : Nat) (es : List (ByteArray × Option Nat)) (hl : es.length ≤ 1000) :
   Ct Tryz.prog 72 [.func (.func 114) #[] #[.pointer (some ⟨b, 0, none⟩)]]
     [cl b 87 [.map (some m)], mp strV pv m es] (fun v hs => ∃ a c, v = .slice a (sortB (mkeys es)).length c ∧ hs = [sl 9 1 strC a c (sortB (mkeys es)), mp strV pv m es]) := by
 refine Cti Tryz.func72 (by kernel_rfl) 9 Tryz.ntmps72 rfl rfl fun w0 R => ?_
 refine Gsr (Las rfl rfl (Lnt (Gsr (Lmv rfl rfl (La rfl (asC (s_collect_spec b m es hl)) ?_)))))
 rintro _ _ ⟨_, ⟨xs, a, c, hp, rfl, rfl⟩, rfl⟩
 refine Las rfl rfl (Lnil ?_)
 have hxl : xs.length ≤ 1000 := by rw [hp.length_eq]; simp [mkeys]; exact hl
 have hss : sortB xs = sortB (mkeys es) := sortB_of_perm hp
 refine Gn (Gsr (Lmv rfl rfl (La rfl (asC (sortS_specL a c xs hxl)) ?_)))
 rintro _ _ ⟨_, ⟨rfl, rfl⟩, rfl⟩
 refine Lnil ?_
 rw [hss]
 refine Gn (Gsr (Lmv rfl rfl (Las rfl rfl (Lnt (Gs.ret ?_)))))
 exact Gs.fin1 Tryz.results72 rfl _ (⟨a, c, by rw [← hss, sortB_length], rfl⟩) (by repeat constructor)
theorem names_spec (b : Nat) (most : Int) (D : List Fl) (hD : D.length ≤ 1000) : Ct Tryz.prog 39 [ptr b] [drv b most D]
   (fun v hs => ∃ a c, v = .slice a (sortB (names D)).length c ∧ hs = [drv b most D, sl 9 1 strC a c (sortB (names D))]) := by
 refine Cti Tryz.func39 (by kernel_rfl) 11 Tryz.ntmps39 rfl rfl fun w0 R => ?_
 refine Gs.drvOpen (by repeat constructor) fun m P hP hok => ?_
 subst hP
 refine Gsr (Las rfl rfl (Lnt (Gs.seq (Gsr (Lmv rfl rfl (Lq rfl (pu_eqN Tryz.underlying40 rfl rfl) (Lnt (Gs.cond_f rfl (Gs.skip (Gn (Gsr ?_)))))))))))
 refine Lmv rfl rfl (Lq rfl (by first | exact pu_nil rfl | exact pu_nilF rfl) ?_)
 refine Lq rfl (pu_fa fa_89_1 rfl) (Lr rfl (rd_ld na_87 rfl (Rdc.cl1 (by repeat constructor) rfl)) ?_)
 refine La rfl (asC (s_keysFn_spec m)) ?_
 rintro _ _ ⟨_, ⟨kb, rfl, rfl⟩, rfl⟩
 refine La rfl (asC (sortedS_spec kb m (pairs P) (by rw [length_pairs]; exact hD))) ?_
 rintro _ _ ⟨_, ⟨a, c, rfl, rfl⟩, rfl⟩
 rw [mkeys_pairs]
 refine Las rfl rfl (Lnt (Gs.ret (Gs.drvClose (P := P) (D := fls P) (by repeat constructor) rfl hok ?_)))
 exact Gs.fin1 Tryz.results39 rfl _ (⟨a, c, rfl, rfl⟩) (by repeat constructor)
end Go.Proofs.YtflfhpokmidnmaaGreatDoor
namespace Go.Proofs.YtflfhpokmidnmaaGreatDoor
open Go Go.Sl Go.Gv Go.Kv Go.Dv Go.Bst
set_option maxRecDepth 100000
theorem used_spec (b : Nat) (most : Int) (D : List Fl) (hD : D.length ≤ 1000) : Ct Tryz.prog 17 [ptr b] [drv b most D] (fun v hs => v = int (used D) ∧ hs = [drv b most D]) := by
 refine Cti Tryz.func17 (by kernel_rfl) 27 Tryz.ntmps17 rfl rfl fun w0 R => ?_
 refine Gsr (Las rfl rfl (Lnt (Gsr (Las rfl rfl (Lnt (Gs.seq (Gsr (Lmv rfl rfl (La rfl (asC (names_spec b most D hD)) ?_)))))))))
 rintro _ _ ⟨_, ⟨a2, c2, rfl, rfl⟩, rfl⟩
 refine Gs.drvOpen (by repeat constructor) fun m P hP hok => ?_
 obtain ⟨ns, hns⟩ : ∃ ns, ns = sortB (names D) := ⟨_, rfl⟩
 have hperm : List.Perm ns (names D) := by rw [hns]; exact sortB_perm _
 have hnl : ns.length ≤ 1000 := by rw [hperm.length_eq]; simpa using hD
 have hsum : (ns.map (lenOf D)).sum = used D := lenOf_sum hok.nd hperm
 have hroom := hok.room
 have hhi := hok.hi
 rw [← hns]
 refine Gs.slAddr (SlH.own (by repeat constructor) : SlH _ _ 1 strC a2 ns) fun kb ko hka => ?_
 refine Lq rfl (pu_len Tryz.underlying22 rfl) (Lmv rfl rfl (Lnt (Gs.block (Gs.loop1 (fun i : Nat => i ≤ ns.length) (fun i => [(0, ptr b), (3, int (((ns.map (lenOf D)).take i).sum : Nat)), (7, .slice a2 ns.length c2), (8, int ns.length), (9, int i)]) (fun i => [cl b 89 (driveC most m), mp strV pv m (pairs P), files P, sl 9 1 strC a2 c2 ns] ++ R) (fun i => ns.length - i) 0 (Nat.zero_le _) (by repeat constructor) (by repeat constructor) (fun i hi => ?_)))))
 refine Gsr (Lq rfl (pu_lt rfl rfl) (Lnt (Gs.seq (Gs.cond rfl (fun hc0 => ?_) (fun hc0 => ?_)))))
 ·
  have hlt : i < ns.length := by have := of_decide_eq_true hc0; omega
  obtain ⟨k, hk⟩ : ∃ k, ns[i]? = some k := ⟨ns[i], by simp [hlt]⟩
  obtain rfl := hka (by rintro rfl; simp at hlt)
  have hmem : k ∈ names D := hperm.mem_iff.1 (List.mem_of_getElem? hk)
  obtain ⟨h1, h2⟩ | ⟨U, f, p, V, e0, e1, e2, e3, -, -, -, -, -⟩ := find_at (P := P) (by rw [hP]; exact hok.nd) k
  · rw [hP, lookF_none] at h1; exact (h1 hmem).elim
  have hle : lenOf D k = f.b.length := by rw [← hP]; simp only [lenOf, e2]
  have hst : ((ns.map (lenOf D)).take (i + 1)).sum = ((ns.map (lenOf D)).take i).sum + f.b.length := sum_take_succ (by rw [List.getElem?_map, hk]; simp [hle])
  have hb1 := sum_take_le (ns.map (lenOf D)) (i + 1)
  refine Gs.skip (Gn (Gs.seq (Gs.block (Gsr (Lq rfl (pu_ia se_22 rfl rfl (by omega) (by omega)) (Lr rfl (rd_ld na_9 rfl (Rdc.el0 (SlH.own (by repeat constructor)) hk rfl rfl)) ?_))))))
  refine Las rfl rfl (Lnt (Gs.reg (Lmv rfl rfl (Lmv rfl rfl (Lq rfl (by first | exact pu_nil rfl | exact pu_nilF rfl) ?_)))))
  refine Lq rfl (pu_fa fa_89_1 rfl) (Lr rfl (rd_ld na_87 rfl (Rdc.cl1 (by repeat constructor) rfl)) ?_)
  refine Lmv rfl rfl (Lr rfl (rd_look1 (k := k) Tryz.underlying87 kt_9 zvk_86 rfl rfl (by repeat constructor)) ?_)
  rw [e3]
  subst e0
  refine Gs.filOpen (U := U) (V := V) (f := f) (p := p) (by repeat constructor) fun fa fc => ?_
  refine Lq rfl (by first | exact pu_nil rfl | exact pu_nilF rfl) ?_
  refine Lq rfl (pu_fa fa_85_0 rfl) (Lr rfl (rd_ld na_83 rfl (Rdc.cl1 (by repeat constructor) rfl)) ?_)
  refine Lq rfl (pu_len Tryz.underlying83 rfl) (Lq rfl (pu_addI (z := (((ns.map (lenOf D)).take (i + 1)).sum : Nat)) rfl rfl (by rw [hst]; omega) (by omega) (by omega)) ?_)
  refine Las rfl rfl (Lnil (Gs.filClose (U := U) (V := V) (f := f) (p := p) (by repeat constructor) rfl rfl rfl ?_))
  refine Gs.blk_n (Gn (Gs.reg (Lq rfl (by first | exact pu_addI rfl rfl rfl (by omega) (by omega) | exact pu_add rfl rfl) ?_)))
  refine Lmv rfl rfl (Lnt ?_)
  exact Ag (i + 1) (by omega) (by omega)
 have hge : i = ns.length := by have := of_decide_eq_false hc0; omega
 have hall : ((ns.map (lenOf D)).take i).sum = used D := by rw [List.take_of_length_le (by rw [List.length_map]; omega), hsum]
 rw [hall]
 refine Gs.exit (Gx (Gx (Gs.blk_hit (Gn (Gsr (Lmv rfl rfl (Las rfl rfl (Lnt (Gs.ret (Gs.drvClose (P := P) (D := D) (by repeat constructor) hP hok ?_))))))))))
 exact Gs.fin1 Tryz.results17 rfl _ (⟨rfl, rfl⟩) (by repeat constructor)
def looseD (D : List Fl) (n : ByteArray) : Int := match lookF D n with
 | some f => f.b.length - f.s
 | none => 0
theorem loose_spec (b : Nat) (most : Int) (D : List Fl) (n : ByteArray) : Ct Tryz.prog 118 [ptr b, .string n] [drv b most D] (fun v hs => v = int (looseD D n) ∧ hs = [drv b most D]) := by
 refine Cti Tryz.func118 (by kernel_rfl) 25 Tryz.ntmps118 rfl rfl fun w0 R => ?_
 refine Gs.drvOpen (by repeat constructor) fun m P hP hok => ?_
 have hhi := hok.hi
 have hroom := hok.room
 obtain ⟨h1, h2⟩ | ⟨U, f, p, V, e0, e1, e2, e3, -, -, -, -, -⟩ := find_at (P := P) (by rw [hP]; exact hok.nd) n
 · have hv : looseD D n = 0 := by rw [← hP]; simp only [looseD, h1]
   refine Gsr (Las rfl rfl (Lnt (Gsr (Lmv rfl rfl (Lmv rfl rfl (La rfl (asC (find_none h2)) ?_))))))
   rintro _ _ ⟨_, ⟨rfl, rfl⟩, rfl⟩
   refine Lmv rfl rfl (Lq rfl (pu_extract rfl rfl) (Lq rfl (pu_extract rfl rfl) (Las rfl rfl (Las rfl rfl (Lnt (Gs.seq (Gsr (Lmv rfl rfl (Lq rfl (pu_ne rfl rfl) (Lnt (Gs.cond_tt rfl rfl ?_)))))))))))
   refine Gsr (Las rfl rfl (Lnt (Gs.ret (Gr (Gs.drvClose (P := P) (D := D) (by repeat constructor) hP hok ?_)))))
   exact Gs.fin1 Tryz.results118 rfl _ (⟨by rw [hv], rfl⟩) (by repeat constructor)
 · have hv : looseD D n = f.b.length - f.s := by rw [← hP]; simp only [looseD, e2]
   have hfm : f ∈ D := by rw [← hP, e0]; simp
   have hf1 := hok.firm f hfm
   have hf2 := used_mem hfm
   refine Gsr (Las rfl rfl (Lnt (Gsr (Lmv rfl rfl (Lmv rfl rfl (La rfl (asC (find_some e3)) ?_))))))
   rintro _ _ ⟨_, ⟨rfl, rfl⟩, rfl⟩
   refine Lmv rfl rfl (Lq rfl (pu_extract rfl rfl) (Lq rfl (pu_extract rfl rfl) (Las rfl rfl (Las rfl rfl (Lnt (Gs.seq (Gsr (Lmv rfl rfl (Lq rfl (pu_ne rfl rfl) (Lnt (Gs.cond_ff rfl rfl ?_)))))))))))
   refine Gs.skip (Gn (Gs.seq ?_))
   subst e0
   refine Gs.filOpen (U := U) (V := V) (f := f) (p := p) (by repeat constructor) fun fa fc => ?_
   refine Gs.regD mixed (by kernel_rfl) (Rmv 0 rfl (by kernel_rfl) rfl (Rq 1 rfl (by kernel_rfl) (by first | exact pu_nil rfl | exact pu_nilF rfl) ?_))
   refine Rq 2 rfl (by kernel_rfl) (pu_fa fa_85_0 rfl) (Rr 3 rfl (by kernel_rfl) (rd_ld na_83 rfl (Rdc.cl1 (by repeat constructor) rfl)) ?_)
   refine Rq 4 rfl (by kernel_rfl) (pu_len Tryz.underlying83 rfl) (Rmv 5 rfl (by kernel_rfl) rfl (Rq 6 rfl (by kernel_rfl) (by first | exact pu_nil rfl | exact pu_nilF rfl) ?_))
   refine Rq 7 rfl (by kernel_rfl) (pu_fa fa_85_1 rfl) (Rr 8 rfl (by kernel_rfl) (rd_ld na_3 rfl (Rdc.cl1 (by repeat constructor) rfl)) ?_)
   refine Rq 9 rfl (by kernel_rfl) (by first | exact pu_subI rfl rfl rfl (by omega) (by omega) | exact pu_sub rfl rfl) ?_
   refine Rq 10 rfl (by kernel_rfl) (pu_assign rfl) (Rg.end (by kernel_rfl) (Gn (Gs.ret (Gs.filClose (U := U) (V := V) (f := f) (p := p) (by repeat constructor) rfl rfl rfl ?_))))
   refine Gs.drvClose (D := D) (by repeat constructor) hP hok ?_
   exact Gs.fin1 Tryz.results118 rfl _ (⟨by rw [hv], rfl⟩) (by repeat constructor)
def readE (D : List Fl) (n : ByteArray) : Int := match lookF D n with
 | some _ => 0
 | none => 13
def readL (D : List Fl) (n : ByteArray) : List UInt8 := match lookF D n with
 | some f => f.b
 | none => []
theorem read_spec (b : Nat) (most : Int) (D : List Fl) (n : ByteArray) : Ct Tryz.prog 126 [ptr b, .string n] [drv b most D]
   (fun v hs => ∃ a c, v = .tuple #[.slice a (readL D n).length c, int (readE D n)] ∧ hs = [drv b most D, sl 5 1 byteC a c (readL D n)]) := by
 refine Cti Tryz.func126 (by kernel_rfl) 22 Tryz.ntmps126 rfl rfl fun w0 R => ?_
 refine Gs.drvOpen (by repeat constructor) fun m P hP hok => ?_
 have hhi := hok.hi
 have hroom := hok.room
 obtain ⟨h1, h2⟩ | ⟨U, f, p, V, e0, e1, e2, e3, -, -, -, -, -⟩ := find_at (P := P) (by rw [hP]; exact hok.nd) n
 · have hv : readL D n = [] := by rw [← hP]; simp only [readL, h1]
   have hv2 : readE D n = 13 := by rw [← hP]; simp only [readE, h1]
   refine Gsr (Las rfl rfl (Las rfl rfl (Lnt (Gsr (Lmv rfl rfl (Lmv rfl rfl (La rfl (asC (find_none h2)) ?_)))))))
   rintro _ _ ⟨_, ⟨rfl, rfl⟩, rfl⟩
   refine Lmv rfl rfl (Lq rfl (pu_extract rfl rfl) (Lq rfl (pu_extract rfl rfl) (Las rfl rfl (Las rfl rfl (Lnt (Gs.seq (Gsr (Lmv rfl rfl (Lq rfl (pu_ne rfl rfl) (Lnt (Gs.cond_tt rfl rfl ?_)))))))))))
   refine Gsr (Lmv rfl rfl (Las rfl rfl (Las rfl rfl (Lnt (Gs.ret (Gr (Gs.drvClose (P := P) (D := D) (by repeat constructor) hP hok ?_)))))))
   refine Gs.slNil 5 1 byteC ?_
   exact Gs.fin2 Tryz.results126 rfl rfl _ (⟨none, 0, by rw [hv, hv2]; rfl, by rw [hv]⟩) (by repeat constructor)
 · have hv : readL D n = f.b := by rw [← hP]; simp only [readL, e2]
   have hv2 : readE D n = 0 := by rw [← hP]; simp only [readE, e2]
   have hfm : f ∈ D := by rw [← hP, e0]; simp
   have hf2 := used_mem hfm
   refine Gsr (Las rfl rfl (Las rfl rfl (Lnt (Gsr (Lmv rfl rfl (Lmv rfl rfl (La rfl (asC (find_some e3)) ?_)))))))
   rintro _ _ ⟨_, ⟨rfl, rfl⟩, rfl⟩
   refine Lmv rfl rfl (Lq rfl (pu_extract rfl rfl) (Lq rfl (pu_extract rfl rfl) (Las rfl rfl (Las rfl rfl (Lnt (Gs.seq (Gsr (Lmv rfl rfl (Lq rfl (pu_ne rfl rfl) (Lnt (Gs.cond_ff rfl rfl ?_)))))))))))
   refine Gs.skip (Gn (Gs.seq ?_))
   subst e0
   refine Gs.filOpen (U := U) (V := V) (f := f) (p := p) (by repeat constructor) fun fa fc => ?_
   refine Gs.reg (Lmv rfl rfl (Lq rfl (by first | exact pu_nil rfl | exact pu_nilF rfl) ?_))
   refine Lq rfl (pu_fa fa_85_0 rfl) (Lr rfl (rd_ld na_83 rfl (Rdc.cl1 (by repeat constructor) rfl)) ?_)
   refine La rfl (asC (cloneB_spec (S := sl 5 1 byteC fa fc f.b) Srd.own (by omega))) ?_
   rintro _ _ ⟨_, ⟨a', c', rfl, rfl⟩, rfl⟩
   refine Las rfl rfl (Las rfl rfl (Lnt (Gs.ret (Gs.filClose (U := U) (V := V) (f := f) (p := p) (by repeat constructor) rfl rfl rfl ?_))))
   refine Gs.drvClose (D := D) (by repeat constructor) hP hok ?_
   exact Gs.fin2 Tryz.results126 rfl rfl _ (⟨a', c', by rw [hv, hv2], by rw [hv]⟩) (by repeat constructor)
end Go.Proofs.YtflfhpokmidnmaaGreatDoor
namespace Go.Proofs.YtflfhpokmidnmaaGreatDoor
open Go Go.Sl Go.Gv Go.Kv Go.Dv Go.Bst
set_option maxRecDepth 100000
theorem isNone_some {P : DP} {n : ByteArray} (h : (Option.map (fun b => (⟨b, 0, none⟩ : Addr)) ((mget (pairs P) n).getD none)).isNone = false) : mget (pairs P) n ≠ none := fun e => by rw [e] at h; cases h
theorem append_spec {S : HProp} (b : Nat) (most : Int) (D : List Fl) (n : ByteArray) (ha : asciiB n = true) (hn : n.size ≤ 9223372036854775807) {a : Option Addr} {c : Nat} {bs : List UInt8} (hS : Srd S 1 byteC a bs) (hl : bs.length ≤ 1048576) (hD : D.length ≤ 1000) :
   Ct Tryz.prog 91 [ptr b, .string n, .slice a bs.length c] [drv b most D, S] (fun v hs => v = int (appE most D n bs) ∧ hs = [drv b most (appL most D n bs), S]) := by
 refine Cti Tryz.func91 (by kernel_rfl) 51 Tryz.ntmps91 rfl rfl fun w0 R => ?_
 refine Gs.drvOpen (by repeat constructor) fun m0 P0 hP0 hok => ?_
 refine Gs.drvClose (P := P0) (by repeat constructor) hP0 hok ?_
 have hhi := hok.hi
 have hlo := hok.lo
 have hroom := hok.room
 refine Gsr (Las rfl rfl (Lnt (Gs.seq (Gs.block (Gsr (Lmv rfl rfl (Lq rfl (pu_eqN Tryz.underlying40 rfl rfl) (Las rfl rfl (Lnt (Gs.cond_f rfl (Gsr ?_)))))))))))
 refine Lmv rfl rfl (La rfl (asC (named_spec n ha hn)) ?_)
 rintro _ _ ⟨_, ⟨rfl, rfl⟩, rfl⟩
 refine Lq rfl (pu_not rfl) (Las rfl rfl (Lnt (Gs.cond rfl (fun hc1 => ?_) (fun hc1 => ?_))))
 ·
  have hnm : namedB n = false := by simpa using hc1
  have he : appE most D n bs = 2 := by simp [appE, hnm]
  have hL : appL most D n bs = D := by simp [appL, he]
  refine Gsr (Las rfl rfl (Lnt (Gs.ret (Gs.blk_r (Gr ?_)))))
  exact Gs.fin1 Tryz.results91 rfl _ (⟨by rw [he], by rw [hL]⟩) (by repeat constructor)
 have hnm : namedB n = true := by simpa using hc1
 refine Gs.seq (Gs.regD mixed (by kernel_rfl) (Rmv 0 rfl (by kernel_rfl) rfl (Rmv 2 rfl (by kernel_rfl) rfl (Rq 3 rfl (by kernel_rfl) (pu_len Tryz.underlying83 rfl) (Rmv 5 rfl (by kernel_rfl) rfl (Rq 6 rfl (by kernel_rfl) (by first | exact pu_nil rfl | exact pu_nilF rfl) ?_))))))
 refine Rq 7 rfl (by kernel_rfl) (pu_fa fa_89_0 rfl) (Rr 8 rfl (by kernel_rfl) (rd_ld na_3 rfl (Rdc.drvMost (by repeat constructor))) ?_)
 refine Rg.one (by kernel_rfl) (Stp.acR 1 [8] rfl rfl (by kernel_rfl) trivial (asC (used_spec b most D hD)) (by rintro _ _ ⟨_, ⟨rfl, rfl⟩, rfl⟩; exact (Reads.cons rfl rfl rfl trivial rfl (rd_ld na_3 rfl (Rdc.drvMost (by repeat constructor))) Reads.nil)) ?_)
 rintro _ _ ⟨_, ⟨rfl, rfl⟩, rfl⟩
 refine Rq 4 rfl (by kernel_rfl) (by first | exact pu_addI rfl rfl rfl (by omega) (by omega) | exact pu_add rfl rfl) ?_
 refine Rq 9 rfl (by kernel_rfl) (pu_gt rfl rfl) (Rq 10 rfl (by kernel_rfl) (pu_assign rfl) (Rg.end (by kernel_rfl) (Gn (Gs.cond rfl (fun hc2 => ?_) (fun hc2 => ?_)))))
 ·
  have hc2' := of_decide_eq_true hc2
  have he : appE most D n bs = 8 := by simp only [appE, hnm, if_true]; rw [if_pos (by omega)]
  have hL : appL most D n bs = D := by simp [appL, he]
  refine Gsr (Las rfl rfl (Lnt (Gs.ret (Gs.blk_r (Gr ?_)))))
  exact Gs.fin1 Tryz.results91 rfl _ (⟨by rw [he], by rw [hL]⟩) (by repeat constructor)
 have hc2' := of_decide_eq_false hc2
 have he : appE most D n bs = 0 := by simp only [appE, hnm, if_true]; rw [if_neg (by omega)]
 have hL : appL most D n bs = appD D n bs := by simp [appL, he]
 have hokA : Ok most (appD D n bs) := hok.app (by omega)
 refine Gs.drvOpen (by repeat constructor) fun m P hP _ => ?_
 refine Gs.skip (Gs.blk_n (Gn (Gsr (Lmv rfl rfl (Lq rfl (by first | exact pu_nil rfl | exact pu_nilF rfl) ?_)))))
 refine Lq rfl (pu_fa fa_89_1 rfl) (Lr rfl (rd_ld na_87 rfl (Rdc.cl1 (by repeat constructor) rfl)) ?_)
 refine Lmv rfl rfl (Lr rfl (rd_look1 (k := n) Tryz.underlying87 kt_9 zvk_86 rfl rfl (by repeat constructor)) ?_)
 refine Las rfl rfl (Lnt (Gs.seq (Gsr (Lmv rfl rfl (Lq rfl (pu_eqN Tryz.underlying86 rfl rfl) (Lnt (Gs.cond rfl (fun hc3 => ?_) (fun hc3 => ?_))))))))
 ·
  obtain ⟨h1, h2⟩ : lookF (fls P) n = none ∧ mget (pairs P) n = none := by
    rcases find_at (P := P) (by rw [hP]; exact hok.nd) n with h | ⟨U, f, p, V, e0, e1, e2, e3, -, -, -, -, -⟩
    · exact h
    · rw [e3] at hc3; cases hc3
  have hA : appD D n bs = fls P ++ [⟨n, bs, 0⟩] := by rw [← hP]; simp [appD, h1]
  refine Gsr (Lq rfl (pu_build bd_85 (by repeat constructor) rfl) ?_)
  refine La rfl (ac_box rfl rfl) ?_
  rintro _ _ ⟨p, rfl, rfl⟩
  refine Las rfl rfl (Lnt (Gs.reg (Lmv rfl rfl (Lq rfl (by first | exact pu_nil rfl | exact pu_nilF rfl) ?_))))
  refine Lq rfl (pu_fa fa_89_1 rfl) (Lr rfl (rd_ld na_87 rfl (Rdc.cl1 (by repeat constructor) rfl)) ?_)
  refine Lmv rfl rfl (Lmv rfl rfl (Lac0 rfl trivial (ac_put (k := n) (v := some p) (encv := encv_86) Tryz.underlying87 kt_9 rfl rfl rfl (by repeat constructor)) ?_))
  rintro _ _ rfl
  rw [pairs_new (f := ⟨n, bs, 0⟩) h2]
  refine Gs.slNil 5 1 byteC (Lnt (Gsr (Lmv rfl rfl (Lmv rfl rfl (Lq rfl (by first | exact pu_nil rfl | exact pu_nilF rfl) ?_)))))
  refine Lq rfl (pu_fa fa_85_0 rfl) (Lr rfl (rd_ld na_83 rfl (Rdc.cl1 (by repeat constructor) rfl)) ?_)
  refine Lmv rfl rfl (La rfl (ac_append et_83 ek_5 rfl rfl (by repeat constructor) (SrcH.sl Tryz.underlying83 ek_5 (hS.h (by repeat constructor))) (by first | omega | (simp; omega)) (by first | omega | (simp; omega))) ?_)
  rintro _ _ ⟨a48, c48, rfl, rfl⟩
  refine Lq rfl (by first | exact pu_nil rfl | exact pu_nilF rfl) ?_
  refine Lq rfl (pu_fa fa_85_0 rfl) (Lac0 rfl trivial (ac_st sz_83 rfl rfl (by repeat constructor) rfl rfl rfl rfl) ?_)
  rintro _ _ rfl
  refine Lnt (Gsr (Las rfl rfl (Lnt (Gs.ret ?_))))
  first | (refine Gs.filClose (U := U) (V := V) (f := { f with b := f.b ++ bs }) (p := p) (by repeat constructor) (by simp) rfl rfl ?_; refine Gs.drvClose (P := U ++ ({ f with b := f.b ++ bs }, p) :: V) (D := appD D n bs) (by repeat constructor) (by rw [hA]; simp) hokA ?_) | (refine Gs.filNew (U := P) (f := ⟨n, bs, 0⟩) (p := p) (by repeat constructor) (by simp) rfl rfl ?_; refine Gs.drvClose (P := P ++ [(⟨n, bs, 0⟩, p)]) (D := appD D n bs) (by repeat constructor) (by rw [hA]; simp) hokA ?_)
  exact Gs.fin1 Tryz.results91 rfl _ (⟨by rw [he], by rw [hL]⟩) (by repeat constructor)
 obtain ⟨U, f, p, V, e0, e1, e2, e3, e4, -, -, e7, -⟩ : ∃ U f p V, P = U ++ (f, p) :: V ∧ f.n = n ∧ lookF (fls P) n = some f ∧ mget (pairs P) n = some (some p) ∧ (∀ g, upd (fls P) n g = fls U ++ g f :: fls V) ∧ True ∧ True ∧ (∀ f' : Fl, f'.n = n → pairs (U ++ (f', p) :: V) = pairs P) ∧ True := by
   rcases find_at (P := P) (by rw [hP]; exact hok.nd) n with ⟨h1, h2⟩ | ⟨U, f, p, V, e0, e1, e2, e3, e4, -, -, e7, -⟩
   · exact (isNone_some hc3 h2).elim
   · exact ⟨U, f, p, V, e0, e1, e2, e3, e4, trivial, trivial, e7, trivial⟩
 have hA : appD D n bs = fls U ++ { f with b := f.b ++ bs } :: fls V := by rw [← hP]; simp only [appD, e2, Option.isSome_some, if_true]; exact e4 _
 have hfm : f ∈ D := by rw [← hP, e0]; simp
 have hf2 := used_mem hfm
 rw [e3]
 rw [← e7 { f with b := f.b ++ bs } e1]
 rw [e0]
 refine Gs.filOpen (U := U) (V := V) (f := f) (p := p) (by repeat constructor) fun fa fc => ?_
 refine Gs.skip (Gn (Gsr (Lmv rfl rfl (Lmv rfl rfl (Lq rfl (by first | exact pu_nil rfl | exact pu_nilF rfl) ?_)))))
 refine Lq rfl (pu_fa fa_85_0 rfl) (Lr rfl (rd_ld na_83 rfl (Rdc.cl1 (by repeat constructor) rfl)) ?_)
 refine Lmv rfl rfl (La rfl (ac_append et_83 ek_5 rfl rfl (by repeat constructor) (SrcH.sl Tryz.underlying83 ek_5 (hS.h (by repeat constructor))) (by first | omega | (simp; omega)) (by first | omega | (simp; omega))) ?_)
 rintro _ _ ⟨a48, c48, rfl, rfl⟩
 refine Lq rfl (by first | exact pu_nil rfl | exact pu_nilF rfl) ?_
 refine Lq rfl (pu_fa fa_85_0 rfl) (Lac0 rfl trivial (ac_st sz_83 rfl rfl (by repeat constructor) rfl rfl rfl rfl) ?_)
 rintro _ _ rfl
 refine Lnt (Gsr (Las rfl rfl (Lnt (Gs.ret ?_))))
 first | (refine Gs.filClose (U := U) (V := V) (f := { f with b := f.b ++ bs }) (p := p) (by repeat constructor) (by simp) rfl rfl ?_; refine Gs.drvClose (P := U ++ ({ f with b := f.b ++ bs }, p) :: V) (D := appD D n bs) (by repeat constructor) (by rw [hA]; simp) hokA ?_) | (refine Gs.filNew (U := P) (f := ⟨n, bs, 0⟩) (p := p) (by repeat constructor) (by simp) rfl rfl ?_; refine Gs.drvClose (P := P ++ [(⟨n, bs, 0⟩, p)]) (D := appD D n bs) (by repeat constructor) (by rw [hA]; simp) hokA ?_)
 exact Gs.fin1 Tryz.results91 rfl _ (⟨by rw [he], by rw [hL]⟩) (by repeat constructor)
end Go.Proofs.YtflfhpokmidnmaaGreatDoor
namespace Go.Proofs.YtflfhpokmidnmaaGreatDoor
open Go Go.Sl Go.Gv Go.Kv Go.Dv Go.Bst
set_option maxRecDepth 100000
theorem cut_spec (b : Nat) (most : Int) (D : List Fl) (n : ByteArray) (k : Int) : Ct Tryz.prog 128 [ptr b, .string n, int k] [drv b most D] (fun v hs => v = int (cutE D n k) ∧ hs = [drv b most (cutL D n k)]) := by
 refine Cti Tryz.func128 (by kernel_rfl) 45 Tryz.ntmps128 rfl rfl fun w0 R => ?_
 refine Gs.drvOpen (by repeat constructor) fun m P hP hok => ?_
 have hhi := hok.hi
 have hroom := hok.room
 obtain ⟨h1, h2⟩ | ⟨U, f, p, V, e0, e1, e2, e3, e4, -, -, e7, -⟩ := find_at (P := P) (by rw [hP]; exact hok.nd) n
 · have hv : cutE D n k = 13 := by rw [← hP]; simp only [cutE, h1]
   have hL : cutL D n k = D := by simp [cutL, hv]
   refine Gsr (Las rfl rfl (Lnt (Gsr (Lmv rfl rfl (Lmv rfl rfl (La rfl (asC (find_none h2)) ?_))))))
   rintro _ _ ⟨_, ⟨rfl, rfl⟩, rfl⟩
   refine Lmv rfl rfl (Lq rfl (pu_extract rfl rfl) (Lq rfl (pu_extract rfl rfl) (Las rfl rfl (Las rfl rfl (Lnt (Gs.seq (Gs.block (Gsr (Lmv rfl rfl (Lq rfl (pu_ne rfl rfl) (Las rfl rfl ?_)))))))))))
   refine Lnt (Gs.cond_tt rfl rfl (Gsr (Lmv rfl rfl (Las rfl rfl (Lnt (Gs.ret (Gs.blk_r (Gr (Gs.drvClose (P := P) (D := D) (by repeat constructor) hP hok ?_)))))))))
   exact Gs.fin1 Tryz.results128 rfl _ (⟨by rw [hv], by rw [hL]⟩) (by repeat constructor)
 · have hv : cutE D n k = if 0 ≤ k ∧ k ≤ f.b.length then 0 else 2 := by rw [← hP]; simp only [cutE, e2]
   have hfm : f ∈ D := by rw [← hP, e0]; simp
   have hf1 := hok.firm f hfm
   have hf2 := used_mem hfm
   subst e0
   refine Gsr (Las rfl rfl (Lnt (Gsr (Lmv rfl rfl (Lmv rfl rfl (La rfl (asC (find_some e3)) ?_))))))
   rintro _ _ ⟨_, ⟨rfl, rfl⟩, rfl⟩
   refine Lmv rfl rfl (Lq rfl (pu_extract rfl rfl) (Lq rfl (pu_extract rfl rfl) (Las rfl rfl (Las rfl rfl (Lnt (Gs.seq (Gs.block (Gsr (Lmv rfl rfl (Lq rfl (pu_ne rfl rfl) (Las rfl rfl ?_)))))))))))
   refine Lnt (Gs.cond_ff rfl rfl (Gs.seq (Gs.filOpen (U := U) (V := V) (f := f) (p := p) (by repeat constructor) fun fa fc => ?_)))
   refine Gs.slLen (E := 5) (sz := 1) (enc := byteC) (a := fa) (c := fc) (xs := f.b) (by repeat constructor) fun hlc => ?_
   refine Gs.reg (Lmv rfl rfl (Lq rfl (pu_lt rfl rfl) (LpuB rfl rfl trivial (pu_move rfl) (fun hg2 => ?_) (fun hg2 => ?_))))
   ·
    have hg2' := of_decide_eq_true hg2
    have he : cutE D n k = 2 := by rw [hv, if_neg (by omega)]
    have hL : cutL D n k = D := by simp [cutL, he]
    refine Lof rfl (Lof rfl (Lof rfl (Lof rfl (Lof rfl (Lof rfl (Lof rfl (Lpk rfl rfl rfl (Las rfl rfl (Lnt (Gs.cond_t rfl (Gsr ?_)))))))))))
    refine Las rfl rfl (Lnt (Gs.ret (Gs.blk_r (Gr (Gs.filClose (U := U) (V := V) (f := f) (p := p) (by repeat constructor) rfl rfl rfl ?_)))))
    refine Gs.drvClose (D := D) (by repeat constructor) hP hok ?_
    exact Gs.fin1 Tryz.results128 rfl _ (⟨by rw [he], by rw [hL]⟩) (by repeat constructor)
   have hg2' := of_decide_eq_false hg2
   refine Lpu rfl rfl ⟨_, rfl, rfl⟩ (pu_move rfl) (Lpu rfl rfl ⟨_, rfl, rfl⟩ (pu_move rfl) (Lpu rfl rfl ⟨_, rfl, rfl⟩ (by first | exact pu_nil rfl | exact pu_nilF rfl) ?_))
   refine Lpu rfl rfl ⟨_, rfl, rfl⟩ (pu_fa fa_85_0 rfl) (Lrd rfl rfl ⟨_, rfl, rfl⟩ (rd_ld na_83 rfl (Rdc.cl1 (by repeat constructor) rfl)) ?_)
   refine Lpu rfl rfl ⟨_, rfl, rfl⟩ (pu_len Tryz.underlying83 rfl) (Lpu rfl rfl ⟨_, rfl, rfl⟩ (pu_gt rfl rfl) (Lpk rfl rfl rfl (Las rfl rfl (Lnt (Gs.cond rfl (fun hc1 => ?_) (fun hc1 => ?_))))))
   ·
    have hc1' := of_decide_eq_true hc1
    have he : cutE D n k = 2 := by rw [hv, if_neg (by omega)]
    have hL : cutL D n k = D := by simp [cutL, he]
    refine Gsr (Las rfl rfl (Lnt (Gs.ret (Gs.blk_r (Gr (Gs.filClose (U := U) (V := V) (f := f) (p := p) (by repeat constructor) rfl rfl rfl ?_))))))
    refine Gs.drvClose (D := D) (by repeat constructor) hP hok ?_
    exact Gs.fin1 Tryz.results128 rfl _ (⟨by rw [he], by rw [hL]⟩) (by repeat constructor)
   have hc1' := of_decide_eq_false hc1
   have he : cutE D n k = 0 := by rw [hv, if_pos (by omega)]
   have hL : cutL D n k = upd D n (fun f => { f with b := f.b.take k.toNat, s := k.toNat }) := by simp [cutL, he]
   have hL2 : cutL D n k = fls U ++ { f with b := f.b.take k.toNat, s := k.toNat } :: fls V := by rw [hL, ← hP]; exact e4 _
   have hokC : Ok most (cutL D n k) := by
     rw [hL2]
     have hok' := hok
     rw [← hP] at hok'
     refine ⟨hok.lo, hok.hi, ?_, ?_, fun x hx => ?_⟩
     · have := hok'.nd; simp only [fls, names, List.map_append, List.map_cons] at this ⊢; exact this
     · have := hok'.room
       have u1 := used_split (fls U) (fls V) f
       have u2 := used_split (fls U) (fls V) { f with b := f.b.take k.toNat, s := k.toNat }
       simp only [List.length_take] at u2
       simp only [fls, List.map_append, List.map_cons] at this u1 u2 ⊢
       rw [u1] at this; rw [u2]; omega
     · rcases List.mem_append.1 hx with h | h
       · exact hok'.firm x (by simp only [fls, List.map_append, List.map_cons]; exact List.mem_append_left _ h)
       · rcases List.mem_cons.1 h with rfl | h
         · simp only [List.length_take]; omega
         · exact hok'.firm x (by simp only [fls, List.map_append, List.map_cons]; exact List.mem_append_right _ (List.mem_cons_of_mem _ h))
   rw [← e7 { f with b := f.b.take k.toNat, s := k.toNat } e1]
   refine Gs.skip (Gs.blk_n (Gn (Gsr (Lmv rfl rfl (Lmv rfl rfl (Lmv rfl rfl (Lq rfl (by first | exact pu_nil rfl | exact pu_nilF rfl) ?_)))))))
   refine Lq rfl (pu_fa fa_85_0 rfl) (Lr rfl (rd_ld na_83 rfl (Rdc.cl1 (by repeat constructor) rfl)) ?_)
   refine Lmv rfl rfl (Lmv rfl rfl (Lq rfl (pu_slice3H et_83 rfl rfl rfl (by omega) (by omega) (by omega)) (Lmv rfl rfl (Lq rfl (by first | exact pu_nil rfl | exact pu_nilF rfl) ?_))))
   refine Lq rfl (pu_fa fa_85_0 rfl) (Lac0 rfl trivial (ac_st sz_83 rfl rfl (by repeat constructor) rfl rfl rfl rfl) ?_)
   rintro _ _ rfl
   refine Lq rfl (by first | exact pu_nil rfl | exact pu_nilF rfl) ?_
   refine Lq rfl (pu_fa fa_85_1 rfl) (Lac0 rfl trivial (ac_st sz_3 rfl rfl (by repeat constructor) rfl rfl rfl rfl) ?_)
   rintro _ _ rfl
   refine Lnil (Gs.slRoom (E := 5) (sz := 1) (enc := byteC) (a := fa) (c := fc) (xs := f.b) k.toNat (by omega) (by repeat constructor) ?_)
   rw [show int k = int (k.toNat : Int) by rw [Int.toNat_of_nonneg (by omega)]]
   refine Gn (Gsr (Las rfl rfl (Lnt (Gs.ret (Gs.filClose (U := U) (V := V) (f := { f with b := f.b.take k.toNat, s := k.toNat }) (p := p) (by repeat constructor) (by simp; omega) rfl rfl ?_)))))
   refine Gs.drvClose (P := U ++ ({ f with b := f.b.take k.toNat, s := k.toNat }, p) :: V) (D := cutL D n k) (by repeat constructor) (by rw [hL2]; simp) hokC ?_
   exact Gs.fin1 Tryz.results128 rfl _ (⟨by rw [he], rfl⟩) (by repeat constructor)
def remE (D : List Fl) (n : ByteArray) : Int := match lookF D n with
 | some _ => 0
 | none => 13
theorem del_none {D : List Fl} {n : ByteArray} (h : lookF D n = none) : del D n = D := List.filter_eq_self.2 fun f hf => by
 have := lookF_none.1 h
 simp only [ne_eq, decide_not, Bool.not_eq_eq_eq_not, Bool.not_true, decide_eq_false_iff_not]
 exact fun e => this (e ▸ List.mem_map_of_mem hf)
theorem remove_spec (b : Nat) (most : Int) (D : List Fl) (n : ByteArray) : Ct Tryz.prog 77 [ptr b, .string n] [drv b most D] (fun v hs => v = int (remE D n) ∧ hs = [drv b most (del D n)]) := by
 refine Cti Tryz.func77 (by kernel_rfl) 21 Tryz.ntmps77 rfl rfl fun w0 R => ?_
 refine Gs.drvOpen (by repeat constructor) fun m P hP hok => ?_
 obtain ⟨h1, h2⟩ | ⟨U, f, p, V, e0, e1, e2, e3, e4, e5, e6, -, -⟩ := find_at (P := P) (by rw [hP]; exact hok.nd) n
 · have hv : remE D n = 13 := by rw [← hP]; simp only [remE, h1]
   have hL : del D n = D := del_none (by rw [← hP]; exact h1)
   refine Gsr (Las rfl rfl (Lnt (Gs.seq (Gsr (Lmv rfl rfl (Lmv rfl rfl (La rfl (asC (find_none h2)) ?_)))))))
   rintro _ _ ⟨_, ⟨rfl, rfl⟩, rfl⟩
   refine Lmv rfl rfl (Lq rfl (pu_extract rfl rfl) (Lq rfl (pu_extract rfl rfl) (Las rfl rfl (Las rfl rfl (Lnt (Gsr (Lmv rfl rfl (Lq rfl (pu_ne rfl rfl) (Lnt (Gs.cond_tt rfl rfl (Gsr ?_)))))))))))
   refine Lmv rfl rfl (Las rfl rfl (Lnt (Gs.ret (Gr (Gs.drvClose (P := P) (D := D) (by repeat constructor) hP hok ?_)))))
   exact Gs.fin1 Tryz.results77 rfl _ (⟨by rw [hv], by rw [hL]⟩) (by repeat constructor)
 · have hv : remE D n = 0 := by rw [← hP]; simp only [remE, e2]
   have hL : fls (U ++ V) = del D n := by rw [← hP, e5]
   refine Gsr (Las rfl rfl (Lnt (Gs.seq (Gsr (Lmv rfl rfl (Lmv rfl rfl (La rfl (asC (find_some e3)) ?_)))))))
   rintro _ _ ⟨_, ⟨rfl, rfl⟩, rfl⟩
   refine Lmv rfl rfl (Lq rfl (pu_extract rfl rfl) (Lq rfl (pu_extract rfl rfl) (Las rfl rfl (Las rfl rfl (Lnt (Gsr (Lmv rfl rfl (Lq rfl (pu_ne rfl rfl) (Lnt (Gs.cond_ff rfl rfl (Gs.skip ?_)))))))))))
   refine Gn (Gsr (Lmv rfl rfl (Lq rfl (by first | exact pu_nil rfl | exact pu_nilF rfl) ?_)))
   refine Lq rfl (pu_fa fa_89_1 rfl) (Lr rfl (rd_ld na_87 rfl (Rdc.cl1 (by repeat constructor) rfl)) ?_)
   refine Lmv rfl rfl (Lac0 rfl trivial (ac_del (k := n) (encv := encv_86) Tryz.underlying87 kt_9 rfl rfl rfl (by repeat constructor)) ?_)
   rintro _ _ rfl
   rw [e6]
   subst e0
   refine Gs.filOpen (U := U) (V := V) (f := f) (p := p) (by repeat constructor) fun fa fc => ?_
   refine Lnt (Gsr (Las rfl rfl (Lnt (Gs.ret (Gs.drvClose (P := U ++ V) (D := del D n) (by repeat constructor) hL (hok.del n) ?_)))))
   exact Gs.fin1 Tryz.results77 rfl _ (⟨by rw [hv], rfl⟩) (by repeat constructor)
section
variable {w0 : World} {nn : Nat} {env : Env} {H : List HProp} {X : Act → World → Prop}
end
end Go.Proofs.YtflfhpokmidnmaaGreatDoor
namespace Go.Proofs.YtflfhpokmidnmaaGreatDoor
open Go Go.Sl Go.Gv Go.Kv Go.Dv Go.Bst
set_option maxRecDepth 100000
def syncE (D : List Fl) (ns : List ByteArray) : Int := if allB D ns then 0 else 13
theorem allB_take {D : List Fl} {ns : List ByteArray} {i : Nat} {n : ByteArray} (h : ns[i]? = some n) : allB D (ns.take (i + 1)) = (allB D (ns.take i) && (lookF D n).isSome) := by
 unfold allB; rw [List.take_add_one, h]; simp
theorem allB_off {D : List Fl} {ns : List ByteArray} {n : ByteArray} (h : n ∈ ns) (hn : lookF D n = none) : allB D ns = false := by
 unfold allB; rw [List.all_eq_false]; exact ⟨n, h, by simp [hn]⟩
theorem syncL_nil (D : List Fl) : syncL D [] = D := by simp [syncL]
theorem Ok.sync {most : Int} {D : List Fl} (h : Ok most D) (ns : List ByteArray) : Ok most (syncL D ns) := by
 have e1 : names (syncL D ns) = names D := by
   simp only [names, syncL, List.map_map]
   exact List.map_congr_left fun f _ => by simp only [Function.comp]; split <;> rfl
 have e2 : used (syncL D ns) = used D := by
   simp only [used, syncL, List.map_map]
   congr 1
   exact List.map_congr_left fun f _ => by simp only [Function.comp]; split <;> rfl
 refine ⟨h.lo, h.hi, by rw [e1]; exact h.nd, by rw [e2]; exact h.room, fun f hf => ?_⟩
 obtain ⟨x, hx, rfl⟩ := List.mem_map.1 hf
 split
 · exact Nat.le_refl _
 · exact h.firm x hx
theorem names_sync (D : List Fl) (ns : List ByteArray) : names (syncL D ns) = names D := by
 simp only [names, syncL, List.map_map]
 exact List.map_congr_left fun f _ => by simp only [Function.comp]; split <;> rfl
theorem syncL_take {D : List Fl} {ns : List ByteArray} {i : Nat} {n : ByteArray} (h : ns[i]? = some n) : syncL D (ns.take (i + 1)) = upd (syncL D (ns.take i)) n (fun f => { f with s := f.b.length }) := by
 unfold syncL upd
 rw [List.map_map, List.take_add_one, h]
 refine List.map_congr_left fun f _ => ?_
 simp only [Function.comp, Option.toList_some, List.any_append, List.any_cons, List.any_nil, Bool.or_false, Bool.or_eq_true]
 by_cases h1 : (ns.take i).any (fun n => decide (n = f.n)) = true
 · simp only [h1, true_or, if_true]
   by_cases h2 : f.n = n <;> simp [h2]
 · simp only [h1, false_or]
   by_cases h2 : f.n = n
   · simp [h2]
   · have h3 : ¬ n = f.n := fun e => h2 e.symm
     simp [h2, h3]
theorem sync_spec {S : HProp} (b : Nat) (most : Int) (D : List Fl) {a : Option Addr} {c : Nat} {ns : List ByteArray} (hS : Srd S 1 strC a ns) (hl : ns.length ≤ 1000000) :
   Ct Tryz.prog 74 [ptr b, .slice a ns.length c] [drv b most D, S] (fun v hs => v = int (syncE D ns) ∧ hs = [drv b most (if syncE D ns = 0 then syncL D ns else D), S]) := by
 refine Cti Tryz.func74 (by kernel_rfl) 51 Tryz.ntmps74 rfl rfl fun w0 R => ?_
 refine Gs.slAddr (hS.h (by repeat constructor)) fun ab ao hka => ?_
 refine Gs.drvOpen (by repeat constructor) fun m P hP hok => ?_
 refine Gsr (Las rfl rfl (Lnt (Gs.seq (Gsr (Lmv rfl rfl (Lq rfl (pu_eqN Tryz.underlying40 rfl rfl) (Lnt (Gs.cond_f rfl (Gs.skip (Gn (Gs.seq ?_)))))))))))
 refine Gsr (Lmv rfl rfl (Lq rfl (pu_len Tryz.underlying22 rfl) (Lmv rfl rfl (Lnt (Gs.block (Gs.loop1 (fun i : Nat => i ≤ ns.length ∧ allB D (ns.take i) = true) (fun i => [(0, ptr b), (1, .slice a ns.length c), (14, .slice a ns.length c), (15, int ns.length), (16, int i)]) (fun i => [cl b 89 (driveC most m), mp strV pv m (pairs P), files P, S] ++ R) (fun i => ns.length - i) 0 (⟨Nat.zero_le _, rfl⟩) (by repeat constructor) (by repeat constructor) (fun i ⟨hi, hall⟩ => ?_)))))))
 refine Gsr (Lq rfl (pu_lt rfl rfl) (Lnt (Gs.seq (Gs.cond rfl (fun hc1 => ?_) (fun hc1 => ?_)))))
 ·
  have hlt : i < ns.length := by have := of_decide_eq_true hc1; omega
  obtain ⟨k, hk⟩ : ∃ k, ns[i]? = some k := ⟨ns[i], by simp [hlt]⟩
  obtain rfl := hka (by rintro rfl; simp at hlt)
  obtain ⟨x, e, hx, hxe⟩ : ∃ (x : Option Nat) (e : Int), Ct Tryz.prog 115 [ptr b, .string k] (fpre b m most P) (fun v hs => v = .tuple #[pv x, int e] ∧ hs = fpre b m most P) ∧ ((e = 0 ∧ (lookF D k).isSome = true) ∨ (e = 13 ∧ lookF D k = none)) := by
    obtain ⟨h1, h2⟩ | ⟨U, f, p, V, e0, e1, e2, e3, -⟩ := find_at (P := P) (by rw [hP]; exact hok.nd) k
    · exact ⟨none, 13, find_none h2, .inr ⟨rfl, by rw [← hP]; exact h1⟩⟩
    · exact ⟨some p, 0, find_some e3, .inl ⟨rfl, by rw [← hP, e2]; rfl⟩⟩
  refine Gs.skip (Gn (Gs.seq (Gs.block (Gsr (Lq rfl (pu_ia se_22 rfl rfl (by omega) (by omega)) (Lr rfl (rd_ld na_9 rfl (Rdc.el0 (hS.h (by repeat constructor)) hk rfl rfl)) ?_))))))
  refine Las rfl rfl (Lnt (Gsr (Lmv rfl rfl (Lmv rfl rfl (La rfl (asC (hx)) ?_)))))
  rintro _ _ ⟨_, ⟨rfl, rfl⟩, rfl⟩
  refine Lmv rfl rfl (Lq rfl (pu_extract rfl rfl) (Lq rfl (pu_extract rfl rfl) (Las rfl rfl (Las rfl rfl (Lnt (Gsr (Lmv rfl rfl (Lq rfl (pu_ne rfl rfl) (Lnt (Gs.cond rfl (fun hc2 => ?_) (fun hc2 => ?_)))))))))))
  ·
   have hne := of_decide_eq_true hc2
   have hkn : lookF D k = none := by rcases hxe with ⟨h, -⟩ | ⟨-, h⟩ <;> first | exact absurd h hne | exact h
   have hb : allB D ns = false := allB_off (List.mem_of_getElem? hk) hkn
   have he : e = 13 := by rcases hxe with ⟨h, -⟩ | ⟨h, -⟩ <;> first | exact absurd h hne | exact h
   have hE : syncE D ns = 13 := by simp [syncE, hb]
   refine Gsr (Lmv rfl rfl (Las rfl rfl (Lnt (Gs.ret (Gs.blk_r (Gr (Gr (Gs.blk_r (Gr (Gs.drvClose (P := P) (D := D) (by repeat constructor) hP hok ?_))))))))))
   exact Gs.fin1 Tryz.results74 rfl _ (⟨by rw [hE, he], by rw [if_neg (by omega)]⟩) (by repeat constructor)
  have hne := of_decide_eq_false hc2
  have hs1 : (lookF D k).isSome = true := by rcases hxe with ⟨-, h⟩ | ⟨h, -⟩ <;> first | exact h | exact absurd h (by omega)
  refine Gs.skip (Gs.blk_n (Gn (Gs.reg (Lq rfl (by first | exact pu_addI rfl rfl rfl (by omega) (by omega) | exact pu_add rfl rfl) ?_))))
  refine Lmv rfl rfl (Lnt ?_)
  exact Ag (i + 1) ⟨by omega, by rw [allB_take hk, hall, hs1]; rfl⟩ (by show ns.length - (i + 1) < ns.length - i; omega)
 have hge : i = ns.length := by have := of_decide_eq_false hc1; omega
 have hall' : allB D ns = true := by rw [hge, List.take_length] at hall; exact hall
 have hE : syncE D ns = 0 := by simp [syncE, hall']
 clear hi hall hge
 refine Gs.exit (Gx (Gx (Gs.blk_hit (Gn (Gs.seq (Gsr (Lmv rfl rfl (Lq rfl (pu_len Tryz.underlying22 rfl) (Lmv rfl rfl (Lnt (Gs.block ?_)))))))))))
 refine Gs.loop1 (fun s : Nat × DP => s.1 ≤ ns.length ∧ fls s.2 = syncL D (ns.take s.1)) (fun s => [(0, ptr b), (1, .slice a ns.length c), (30, .slice a ns.length c), (31, int ns.length), (32, int s.1)]) (fun s => [cl b 89 (driveC most m), mp strV pv m (pairs s.2), files s.2, S] ++ R) (fun s => ns.length - s.1) (0, P) (⟨Nat.zero_le _, by rw [hP]; exact (syncL_nil D).symm⟩) (by repeat constructor) (by repeat constructor) (fun s hs => ?_)
 obtain ⟨j, Q⟩ := s
 obtain ⟨hj, hQ⟩ := hs
 dsimp only at hj hQ ⊢
 have hokQ : Ok most (fls Q) := by rw [hQ]; exact Ok.sync hok _
 refine Gsr (Lq rfl (pu_lt rfl rfl) (Lnt (Gs.seq (Gs.cond rfl (fun hc3 => ?_) (fun hc3 => ?_)))))
 ·
  have hlt : j < ns.length := by have := of_decide_eq_true hc3; omega
  obtain ⟨k, hk⟩ : ∃ k, ns[j]? = some k := ⟨ns[j], by simp [hlt]⟩
  obtain rfl := hka (by rintro rfl; simp at hlt)
  have hmem : k ∈ names (fls Q) := by
    rw [hQ, names_sync]
    have := List.all_eq_true.1 hall' k (List.mem_of_getElem? hk)
    apply Classical.byContradiction
    intro h; rw [lookF_none.2 h] at this; cases this
  obtain ⟨h1, h2⟩ | ⟨U, f, p, V, e0, e1, e2, e3, e4, -, -, e7, -⟩ := find_at (P := Q) hokQ.nd k
  · exact (lookF_none.1 h1 hmem).elim
  have hn1 : fls (U ++ ({ f with s := f.b.length }, p) :: V) = syncL D (ns.take (j + 1)) := by
    rw [syncL_take hk, ← hQ, e4]; simp
  refine Gs.skip (Gn (Gs.seq (Gs.block (Gsr (Lq rfl (pu_ia se_22 rfl rfl (by omega) (by omega)) (Lr rfl (rd_ld na_9 rfl (Rdc.el0 (hS.h (by repeat constructor)) hk rfl rfl)) ?_))))))
  refine Las rfl rfl (Lnt (Gsr (Lmv rfl rfl (Lq rfl (by first | exact pu_nil rfl | exact pu_nilF rfl) ?_))))
  refine Lq rfl (pu_fa fa_89_1 rfl) (Lr rfl (rd_ld na_87 rfl (Rdc.cl1 (by repeat constructor) rfl)) ?_)
  refine Lmv rfl rfl (Lr rfl (rd_look1 (k := k) Tryz.underlying87 kt_9 zvk_86 rfl rfl (by repeat constructor)) ?_)
  rw [e3]
  rw [← e7 { f with s := f.b.length } e1]
  subst e0
  refine Gs.filOpen (U := U) (V := V) (f := f) (p := p) (by repeat constructor) fun fa fc => ?_
  refine Las rfl rfl (Lnt (Gs.reg (Lmv rfl rfl (Lmv rfl rfl (Lq rfl (by first | exact pu_nil rfl | exact pu_nilF rfl) ?_)))))
  refine Lq rfl (pu_fa fa_85_0 rfl) (Lr rfl (rd_ld na_83 rfl (Rdc.cl1 (by repeat constructor) rfl)) ?_)
  refine Lq rfl (pu_len Tryz.underlying83 rfl) (Lq rfl (by first | exact pu_nil rfl | exact pu_nilF rfl) ?_)
  refine Lq rfl (pu_fa fa_85_1 rfl) (Lac0 rfl trivial (ac_st sz_3 rfl rfl (by repeat constructor) rfl rfl rfl rfl) ?_)
  rintro _ _ rfl
  refine Lnil (Gs.filClose (U := U) (V := V) (f := { f with s := f.b.length }) (p := p) (by repeat constructor) rfl rfl rfl ?_)
  refine Gs.blk_n (Gn (Gs.reg (Lq rfl (by first | exact pu_addI rfl rfl rfl (by omega) (by omega) | exact pu_add rfl rfl) ?_)))
  refine Lmv rfl rfl (Lnt ?_)
  exact Ag (j + 1, U ++ ({ f with s := f.b.length }, p) :: V) ⟨by show j + 1 ≤ ns.length; omega, hn1⟩ (by show ns.length - (j + 1) < ns.length - j; omega)
 have hge : j = ns.length := by have := of_decide_eq_false hc3; omega
 rw [hge, List.take_length] at hQ
 refine Gs.exit (Gx (Gx (Gs.blk_hit (Gn (Gsr (Las rfl rfl (Lnt (Gs.ret (Gs.drvClose (P := Q) (D := syncL D ns) (by repeat constructor) hQ (Ok.sync hok _) ?_)))))))))
 exact Gs.fin1 Tryz.results74 rfl _ (⟨by rw [hE], by rw [hE, if_pos rfl]⟩) (by repeat constructor)
theorem crash_spec (b : Nat) (most : Int) (D : List Fl) (st0 : Int) (hD : D.length ≤ 1000) (hlo : -9223372036854775808 ≤ st0) (hhi0 : st0 < 9223372036854775808) :
   Ct Tryz.prog 43 [ptr b, int st0] [drv b most D] (fun v hs => v = .tuple #[] ∧ hs = [drv b most (crashL st0 D)]) := by
 refine Cti Tryz.func43 (by kernel_rfl) 62 Tryz.ntmps43 rfl rfl fun w0 R => ?_
 refine Gsr (Lmv rfl rfl (La rfl (asC (names_spec b most D hD)) ?_))
 rintro _ _ ⟨_, ⟨a2, c2, rfl, rfl⟩, rfl⟩
 refine Gs.drvOpen (by repeat constructor) fun m P hP hok => ?_
 obtain ⟨ns, hns⟩ : ∃ ns, ns = sortB (names D) := ⟨_, rfl⟩
 have hperm : List.Perm ns (names D) := by rw [hns]; exact sortB_perm _
 have hnl : ns.length ≤ 1000 := by rw [hperm.length_eq]; simpa using hD
 have hL : crashL st0 D = crashN st0 ns D := by rw [hns]; rfl
 rw [← hns]
 refine Gs.slAddr (SlH.own (by repeat constructor) : SlH _ _ 1 strC a2 ns) fun kb ko hka => ?_
 refine Lq rfl (pu_len Tryz.underlying22 rfl) (Lmv rfl rfl (Lnt (Gs.block (Gs.loop1 (fun s : Nat × Int × DP => s.1 ≤ ns.length ∧ crashN s.2.1 (ns.drop s.1) (fls s.2.2) = crashL st0 D ∧ Ok most (fls s.2.2) ∧ names (fls s.2.2) = names D ∧ -9223372036854775808 ≤ s.2.1 ∧ s.2.1 < 9223372036854775808) (fun s => [(0, ptr b), (1, int s.2.1), (9, .slice a2 ns.length c2), (10, int ns.length), (11, int s.1)]) (fun s => [cl b 89 (driveC most m), mp strV pv m (pairs s.2.2), files s.2.2, sl 9 1 strC a2 c2 ns] ++ R) (fun s => ns.length - s.1) (0, st0, P) (⟨Nat.zero_le _, by rw [hL, List.drop_zero, hP], by rw [hP]; exact hok, by rw [hP], hlo, hhi0⟩) (by repeat constructor) (by repeat constructor) (fun s hs => ?_)))))
 obtain ⟨i, st, Q⟩ := s
 obtain ⟨hi, hcr, hokQ, hnm, hs1, hs2⟩ := hs
 dsimp only at hi hcr hokQ hnm hs1 hs2 ⊢
 refine Gsr (Lq rfl (pu_lt rfl rfl) (Lnt (Gs.seq (Gs.cond rfl (fun hc0 => ?_) (fun hc0 => ?_)))))
 ·
  have hlt : i < ns.length := by have := of_decide_eq_true hc0; omega
  obtain ⟨k, hk⟩ : ∃ k, ns[i]? = some k := ⟨ns[i], by simp [hlt]⟩
  obtain rfl := hka (by rintro rfl; simp at hlt)
  have hmem : k ∈ names (fls Q) := by rw [hnm]; exact hperm.mem_iff.1 (List.mem_of_getElem? hk)
  obtain ⟨h1, h2⟩ | ⟨U, f, p, V, e0, e1, e2, e3, e4, -, -, e7, -⟩ := find_at (P := Q) hokQ.nd k
  · exact (lookF_none.1 h1 hmem).elim
  have hfm : f ∈ fls Q := by rw [e0]; simp
  have hf1 := hokQ.firm f hfm
  have hf2 := used_mem hfm
  have hr := hokQ.room
  have hh := hokQ.hi
  have hkeep : min (max st 0) ((f.b.length : Int) - f.s) = (lostF st f : Int) := by unfold lostF; omega
  have hk2 : lostF st f ≤ f.b.length - f.s := by unfold lostF; omega
  have hk3 : (lostF st f : Int) ≤ max st 0 := by omega
  have hn1 : fls (U ++ (crashF st f, p) :: V) = upd (fls Q) k (crashF st) := by rw [e4]; simp
  have hstep : crashN (st - lostF st f) (ns.drop (i + 1)) (upd (fls Q) k (crashF st)) = crashL st0 D := by
    rw [← hcr, List.drop_eq_getElem_cons hlt]
    have : ns[i] = k := by rw [List.getElem?_eq_getElem hlt] at hk; exact Option.some.inj hk
    rw [this, crashN_cons e2]
  have hok2 := hokQ.crash k st
  have hnm2 : names (upd (fls Q) k (crashF st)) = names D := by rw [names_crash, hnm]
  clear hcr
  refine Gs.skip (Gn (Gs.seq (Gs.block (Gsr (Lq rfl (pu_ia se_22 rfl rfl (by omega) (by omega)) (Lr rfl (rd_ld na_9 rfl (Rdc.el0 (SlH.own (by repeat constructor)) hk rfl rfl)) ?_))))))
  refine Las rfl rfl (Lnt (Gsr (Lmv rfl rfl (Lq rfl (by first | exact pu_nil rfl | exact pu_nilF rfl) ?_))))
  refine Lq rfl (pu_fa fa_89_1 rfl) (Lr rfl (rd_ld na_87 rfl (Rdc.cl1 (by repeat constructor) rfl)) ?_)
  refine Lmv rfl rfl (Lr rfl (rd_look1 (k := k) Tryz.underlying87 kt_9 zvk_86 rfl rfl (by repeat constructor)) ?_)
  rw [e3]
  rw [← e7 (crashF st f) e1]
  subst e0
  refine Gs.filOpen (U := U) (V := V) (f := f) (p := p) (by repeat constructor) fun fa fc => ?_
  refine Gs.slLen (E := 5) (sz := 1) (enc := byteC) (a := fa) (c := fc) (xs := f.b) (by repeat constructor) fun hlc => ?_
  refine Las rfl rfl (Lnt (Gs.seq (Gs.regD mixed (by kernel_rfl) (Rmv 0 rfl (by kernel_rfl) rfl (Rq 1 rfl (by kernel_rfl) (pu_max rfl rfl) (Rmv 2 rfl (by kernel_rfl) rfl (Rq 3 rfl (by kernel_rfl) (by first | exact pu_nil rfl | exact pu_nilF rfl) ?_)))))))
  refine Rq 4 rfl (by kernel_rfl) (pu_fa fa_85_0 rfl) (Rr 5 rfl (by kernel_rfl) (rd_ld na_83 rfl (Rdc.cl1 (by repeat constructor) rfl)) ?_)
  refine Rq 6 rfl (by kernel_rfl) (pu_len Tryz.underlying83 rfl) (Rmv 7 rfl (by kernel_rfl) rfl (Rq 8 rfl (by kernel_rfl) (by first | exact pu_nil rfl | exact pu_nilF rfl) ?_))
  refine Rq 9 rfl (by kernel_rfl) (pu_fa fa_85_1 rfl) (Rr 10 rfl (by kernel_rfl) (rd_ld na_3 rfl (Rdc.cl1 (by repeat constructor) rfl)) ?_)
  refine Rq 11 rfl (by kernel_rfl) (by first | exact pu_subI rfl rfl rfl (by omega) (by omega) | exact pu_sub rfl rfl) ?_
  refine Rq 12 rfl (by kernel_rfl) (pu_min rfl rfl) (Rq 13 rfl (by kernel_rfl) (pu_assign rfl) (Rg.end (by kernel_rfl) ?_))
  rw [hkeep]
  refine Gn (Gsr (Lmv rfl rfl (Lmv rfl rfl (Lq rfl (by first | exact pu_subI rfl rfl rfl (by omega) (by omega) | exact pu_sub rfl rfl) ?_))))
  refine Las rfl rfl (Lnt (Gsr (Lmv rfl rfl (Lq rfl (by first | exact pu_nil rfl | exact pu_nilF rfl) ?_))))
  refine Lq rfl (pu_fa fa_85_1 rfl) (Lr rfl (rd_ld na_3 rfl (Rdc.cl1 (by repeat constructor) rfl)) ?_)
  refine Lmv rfl rfl (Lq rfl (pu_addI (z := ((f.s + lostF st f : Nat) : Int)) rfl rfl (by omega) (by omega) (by omega)) ?_)
  refine Lq rfl (by first | exact pu_nil rfl | exact pu_nilF rfl) ?_
  refine Lq rfl (pu_fa fa_85_1 rfl) (Lac0 rfl trivial (ac_st sz_3 rfl rfl (by repeat constructor) rfl rfl rfl rfl) ?_)
  rintro _ _ rfl
  refine Lnt (Gs.regD mixed (by kernel_rfl) (Rmv 0 rfl (by kernel_rfl) rfl (Rmv 1 rfl (by kernel_rfl) rfl (Rq 2 rfl (by kernel_rfl) (by first | exact pu_nil rfl | exact pu_nilF rfl) ?_))))
  refine Rq 3 rfl (by kernel_rfl) (pu_fa fa_85_0 rfl) (Rr 4 rfl (by kernel_rfl) (rd_ld na_83 rfl (Rdc.cl1 (by repeat constructor) rfl)) ?_)
  refine Rmv 5 rfl (by kernel_rfl) rfl (Rq 6 rfl (by kernel_rfl) (by first | exact pu_nil rfl | exact pu_nilF rfl) ?_)
  refine Rq 7 rfl (by kernel_rfl) (pu_fa fa_85_1 rfl) (Rr 8 rfl (by kernel_rfl) (rd_ld na_3 rfl (Rdc.cl1 (by repeat constructor) rfl)) ?_)
  refine Rmv 9 rfl (by kernel_rfl) rfl (Rq 10 rfl (by kernel_rfl) (by first | exact pu_nil rfl | exact pu_nilF rfl) ?_)
  refine Rq 11 rfl (by kernel_rfl) (pu_fa fa_85_1 rfl) (Rr 12 rfl (by kernel_rfl) (rd_ld na_3 rfl (Rdc.cl1 (by repeat constructor) rfl)) ?_)
  refine Rq 13 rfl (by kernel_rfl) (pu_slice3H et_83 rfl rfl rfl (by omega) (by omega) (by omega)) (Rq 14 rfl (by kernel_rfl) (by first | exact pu_nil rfl | exact pu_nilF rfl) ?_)
  refine Rq 15 rfl (by kernel_rfl) (pu_fa fa_85_0 rfl) (Rg.one (by kernel_rfl) (Stp.ac0 16 rfl rfl (by kernel_rfl) trivial (ac_st sz_83 rfl rfl (by repeat constructor) rfl rfl rfl rfl)  ?_))
  rintro _ _ rfl
  refine Rg.end (by kernel_rfl) ?_
  simp only [Int.toNat_natCast]
  refine Gs.slRoom (E := 5) (sz := 1) (enc := byteC) (a := fa) (c := fc) (xs := f.b) (f.s + lostF st f) (by omega) (by repeat constructor) ?_
  refine Gs.filClose (U := U) (V := V) (f := crashF st f) (p := p) (a := fa) (c := f.s + lostF st f) (by repeat constructor) (by simp [crashF]; omega) rfl rfl ?_
  refine Gs.blk_n (Gn (Gs.reg (Lq rfl (by first | exact pu_addI rfl rfl rfl (by omega) (by omega) | exact pu_add rfl rfl) ?_)))
  refine Lmv rfl rfl (Lnt ?_)
  exact Ag (i + 1, st - lostF st f, U ++ (crashF st f, p) :: V) ⟨by show i + 1 ≤ ns.length; omega, by rw [hn1]; exact hstep, by rw [hn1]; exact hok2, by rw [hn1]; exact hnm2, by show -9223372036854775808 ≤ st - lostF st f; omega, by show st - lostF st f < 9223372036854775808; omega⟩ (by show ns.length - (i + 1) < ns.length - i; omega)
 have hge : i = ns.length := by have := of_decide_eq_false hc0; omega
 have hend : fls Q = crashL st0 D := by rw [← hcr, hge, List.drop_length]; rfl
 refine Gs.exit (Gx (Gx (Gs.blk_hit (Gs.fin_n (Gs.drvClose (P := Q) (D := crashL st0 D) (by repeat constructor) hend (by rw [← hend]; exact hokQ) ?_)))))
 exact Gs.fin0 Tryz.results43 _ (⟨rfl, rfl⟩) (by repeat constructor)
end Go.Proofs.YtflfhpokmidnmaaGreatDoor
namespace Go.Proofs.YtflfhpokmidnmaaGreatDoor
open Go Go.Sl Go.Gv Go.Dv Go.Bst
set_option maxRecDepth 100000
theorem readS_all (n : Int) : ∀ (f : Nat) (first : Bool) (x : List UInt8), (∀ e ∈ (readS n f first x).1, mayE e n = true) ∧ (readS n f first x).2 ≤ x.length ∧ (readS n f first x).1.length ≤ x.length
 | 0, _, _ => ⟨(fun e h => by cases h), Nat.zero_le _, Nat.zero_le _⟩
 | f + 1, first, x => by
   rw [readS]
   cases hx : nextB x with
   | none => exact ⟨(fun e h => by cases h), Nat.zero_le _, Nat.zero_le _⟩
   | some y =>
     obtain ⟨k, b, len⟩ := y
     dsimp only
     split
     · exact ⟨(fun e h => by cases h), Nat.zero_le _, Nat.zero_le _⟩
     · cases readEn k b with
       | none => exact ⟨(fun e h => by cases h), Nat.zero_le _, Nat.zero_le _⟩
       | some e =>
         dsimp only
         by_cases hm : mayE e n = true
         · rw [if_pos hm]
           have ih := readS_all n f false (x.drop len)
           have hl := next_len hx
           have hd := ih.2.1
           have hd2 := ih.2.2
           rw [List.length_drop] at hd hd2
           refine ⟨fun a ha => ?_, by show len + _ ≤ _; omega, by rw [List.length_cons]; omega⟩
           rcases List.mem_cons.1 ha with rfl | ha
           · exact hm
           · exact ih.1 a ha
         · rw [if_neg hm]; exact ⟨(fun e h => by cases h), Nat.zero_le _, Nat.zero_le _⟩
theorem noteAll_len (p : Pa) (es : List EntP) : (noteAll p es).t.length = p.t.length ∧ (noteAll p es).z = p.z ∧ (noteAll p es).n = p.n := by
 induction es generalizing p with
 | nil => exact ⟨rfl, rfl, rfl⟩
 | cons e es ih =>
   have := ih (noteP p e 0)
   refine ⟨this.1.trans (noteT_len _ _), this.2.1, this.2.2⟩
theorem noteAll_take {p : Pa} {es : List EntP} {i : Nat} {e : EntP} (h : es[i]? = some e) : noteAll p (es.take (i + 1)) = noteP (noteAll p (es.take i)) e 0 := by
 rw [List.take_add_one, h]; exact noteAll_snoc ..
theorem rec_in {e : EntP} {n : Int} (h : mayE e n = true) (hk : e.kind = 2) : 0 ≤ e.r.o ∧ e.r.o < n := by
 rw [may_rec hk] at h
 simp only [Bool.and_eq_true, decide_eq_true_eq] at h
 refine ⟨?_, h.1.2⟩
 have hr := h.2
 simp only [recB, keyB, Rec.key, Bool.and_eq_true, decide_eq_true_eq] at hr
 exact of_decide_eq_true hr.1.1.1.1.1
theorem lgRead_spec {b d : Nat} {n : Int} {made : Nat} {ps : List Pa} {D : List Fl} {most : Int} {Tx : HProp} (hT : RMs Tx) (h1 : 1 ≤ n) (h8 : n ≤ 8) (hps : ps.length ≤ 900) (nm : ByteArray) :
   Ct Tryz.prog 88 [ptr b, .string nm] [lgr b d n ⟨made, ps⟩, drv d most D, Tx]
     (fun v hs => ∃ a c es ok, v = .tuple #[.slice a es.length c, .bool ok] ∧ plainV es = (readF n D nm).es ∧ hs = [lgr b d n ⟨made, ps ++ (readF n D nm).ps⟩, drv d most (readF n D nm).D, Tx, elO a c es]) := by
 obtain ⟨bs, hbs⟩ : ∃ bs, bs = readL D nm := ⟨_, rfl⟩
 have hbF : bytesF D nm = bs := by rw [hbs]; rfl
 have hall := readS_all n bs.length true bs
 refine Cti Tryz.func88 (by kernel_rfl) 65 Tryz.ntmps88 rfl rfl fun w0 R => ?_
 refine Gs.drvOk (by repeat constructor) fun hok => ?_
 have hbl : bs.length ≤ 1048576 := by
   rw [hbs]; unfold readL
   cases hf : lookF D nm with
   | none => simp
   | some f =>
     obtain ⟨X, Y, e1, -, -, -⟩ := lookF_split hok.nd hf
     have h2 := used_mem (D := D) (f := f) (by rw [e1]; simp)
     have h3 := hok.room
     have h4 := hok.hi
     dsimp only; omega
 refine Gs.lgOpen (by repeat constructor) fun pa pc P hP => ?_
 refine Gsr (Las rfl rfl (Las rfl rfl (Lnt (Gsr (Lmv rfl rfl (Lq rfl (by first | exact pu_nil rfl | exact pu_nilF rfl) ?_))))))
 refine Lq rfl (pu_fa fa_125_0 rfl) (Lr rfl (rd_ld na_40 rfl (Rdc.cl1 (by repeat constructor) rfl)) ?_)
 refine Lmv rfl rfl (La rfl (asC (read_spec d most D nm)) ?_)
 rintro _ _ ⟨_, ⟨ba, bc, rfl, rfl⟩, rfl⟩
 rw [← hbs]
 refine Lmv rfl rfl (Lq rfl (pu_extract rfl rfl) (Lq rfl (pu_extract rfl rfl) (Las rfl rfl (Las rfl rfl (Lnt (Gs.seq (Gs.slLen (E := 5) (sz := 1) (enc := byteC) (a := ba) (c := bc) (xs := bs) (by repeat constructor) fun hbc => ?_)))))))
 refine Gs.reg (Lmv rfl rfl (Lmv rfl rfl (Lq rfl (by first | exact pu_nil rfl | exact pu_nilF rfl) ?_)))
 refine Lq rfl (pu_fa fa_125_1 rfl) (Lr rfl (rd_ld na_3 rfl (Rdc.cl1 (by repeat constructor) rfl)) ?_)
 refine La rfl (asC (segRead_spec (S := sl 5 1 byteC ba bc bs) Srd.own hT hbl hbc n)) ?_
 rintro _ _ ⟨_, ⟨ea, ec, es, rfl, hes, rfl⟩, rfl⟩
 refine Lmv rfl rfl (Lq rfl (pu_extract rfl rfl) (Lq rfl (pu_extract rfl rfl) (Las rfl rfl (Las rfl rfl (Lnil ?_)))))
 have hesl : es.length = (readS n bs.length true bs).1.length := by rw [← hes]; simp
 obtain ⟨sz, hsz⟩ : ∃ z, z = (readS n bs.length true bs).2 := ⟨_, rfl⟩
 have hszl : sz ≤ bs.length := by rw [hsz]; exact hall.2.1
 have hesb : es.length ≤ 1048576 := by have := hall.2.2; omega
 rw [← hsz]
 refine Gn (Gs.seq (Gsr (Lmv rfl rfl (Lq rfl (pu_len Tryz.underlying98 rfl) (Lq rfl (pu_eq rfl rfl) (Lnt (Gs.cond rfl (fun hc0 => ?_) (fun hc0 => ?_))))))))
 ·
  have he0 : es = [] := List.length_eq_zero_iff.1 (by have := of_decide_eq_true hc0; omega)
  have hr0 : (readS n bs.length true bs).1 = [] := by rw [← hes, he0]; rfl
  have hrF : readF n D nm = ⟨[], del D nm, []⟩ := by unfold readF; dsimp only; rw [hbF, if_pos hr0]
  refine Gsr (Lmv rfl rfl (Lq rfl (by first | exact pu_nil rfl | exact pu_nilF rfl) ?_))
  refine Lq rfl (pu_fa fa_125_0 rfl) (Lr rfl (rd_ld na_40 rfl (Rdc.cl1 (by repeat constructor) rfl)) ?_)
  refine Lmv rfl rfl (La rfl (asC (remove_spec d most D nm)) ?_)
  rintro _ _ ⟨_, ⟨rfl, rfl⟩, rfl⟩
  refine Lnt (Gsr (Las rfl rfl (Las rfl rfl (Lnt (Gs.ret (Gr (Gs.lgClose (made := made) (ps := ps) (P := P) (a := pa) (c := pc) (by repeat constructor) rfl hP ?_)))))))
  refine Gs.slNil 106 8 entC (Gs.takes (As := [sl 106 8 entC none 0 []]) (by repeat constructor) ?_)
  refine Gs.bigNil (Gs.takes (As := [sl 106 8 entC none 0 [], big []]) (by repeat constructor) (Gs.toTwo ?_))
  refine (show Gs _ _ _ (elO none 0 [] :: _) _ from ?_)
  exact Gs.fin2 Tryz.results88 rfl rfl _ (⟨none, 0, [], false, rfl, by rw [hrF]; rfl, by rw [hrF, List.append_nil]⟩) (by repeat constructor)
 have hne : (readS n bs.length true bs).1 ≠ [] := fun e => by have := of_decide_eq_false hc0; rw [e] at hesl; simp at hesl; rw [hesl] at this; exact this rfl
 have hrF : readF n D nm = ⟨plainV es, if sz < bs.length then cutL D nm sz else D, [noteAll ⟨nm, sz, zeros n⟩ (plainV es)]⟩ := by unfold readF; dsimp only; rw [hbF, if_neg hne, ← hsz, hes]
 refine Gs.skip (Gn (Gs.seq (Gsr (Lmv rfl rfl (Lmv rfl rfl (Lq rfl (pu_len Tryz.underlying83 rfl) (Lq rfl (pu_lt rfl rfl) (Lnt (Gs.cond rfl (fun hc1 => ?_) (fun hc1 => ?_))))))))))
 ·
  have hlt : sz < bs.length := by have := of_decide_eq_true hc1; omega
  have hrD : (readF n D nm).D = cutL D nm sz := by rw [hrF]; exact if_pos hlt
  refine Gs.reg (Lmv rfl rfl (Lq rfl (by first | exact pu_nil rfl | exact pu_nilF rfl) ?_))
  refine Lq rfl (pu_fa fa_125_0 rfl) (Lr rfl (rd_ld na_40 rfl (Rdc.cl1 (by repeat constructor) rfl)) ?_)
  refine Lmv rfl rfl (Lmv rfl rfl (La rfl (asC (cut_spec d most D nm (sz : Nat))) ?_))
  rintro _ _ ⟨_, ⟨rfl, rfl⟩, rfl⟩
  rw [← hrD]
  refine Lnt (Gs.seq (Gs.lgClose (made := made) (ps := ps) (P := P) (a := pa) (c := pc) (by repeat constructor) rfl hP ?_))
  refine Gs.reg (Lmv rfl rfl (Lmv rfl rfl (Lmv rfl rfl (La rfl (asC (begin_spec (d := d) (made := made) (ps := ps) (nm := nm) (z := sz) h1 h8 (by omega))) ?_))))
  rintro _ _ ⟨_, ⟨rfl, rfl⟩, rfl⟩
  refine Lnil (Gs.slAddr (xs := es) ((erd_elO ea ec es).1.h (by repeat constructor)) fun eb eo hea => ?_)
  refine Gn (Gs.seq (Gsr (Lmv rfl rfl (Lq rfl (pu_len Tryz.underlying98 rfl) (Lmv rfl rfl (Lnt (Gs.block (Gs.loop1 (fun i : Nat => i ≤ es.length) (fun i => [(0, ptr b), (8, .slice ea es.length ec), (54, .slice ea es.length ec), (55, int es.length), (56, int i)]) (fun i => [lgr b d n ⟨made, ps ++ [noteAll ⟨nm, sz, zeros n⟩ ((plainV es).take i)]⟩, drv d most (readF n D nm).D, Tx, elO ea ec es] ++ R) (fun i => es.length - i) 0 (Nat.zero_le _) (by repeat constructor) (by repeat constructor) (fun i hi => ?_)))))))))
  refine Gsr (Lq rfl (pu_lt rfl rfl) (Lnt (Gs.seq (Gs.cond rfl (fun hc2 => ?_) (fun hc2 => ?_)))))
  ·
   have hlt : i < es.length := by have := of_decide_eq_true hc2; omega
   obtain ⟨e, he⟩ : ∃ x, es[i]? = some x := ⟨es[i], by simp [hlt]⟩
   obtain rfl := hea (by rintro rfl; simp at hlt)
   have hep : (plainV es)[i]? = some e.p := by simp [he]
   have hem : mayE e.p n = true := hall.1 _ (by rw [← hes]; exact List.mem_of_getElem? hep)
   have hnl := noteAll_len ⟨nm, sz, zeros n⟩ ((plainV es).take i)
   refine Gs.skip (Gn (Gs.seq (Gs.block (Gsr (Lq rfl (pu_ia se_98 rfl rfl (by omega) (by omega)) (Lr rfl (rd_lda ag_106 rfl (Rdc.el0 ((erd_elO _ ec es).1.h (by repeat constructor)) he rfl rfl) rfl) ?_))))))
   refine La rfl (ac_alloc zv_106 rfl) ?_
   rintro _ _ ⟨b11, rfl, rfl⟩
   refine Lac0 rfl trivial (ac_st sz_106 rfl rfl (by repeat constructor) rfl rfl rfl rfl) ?_
   rintro _ _ rfl
   refine Lnt (Gs.reg (Lmv rfl rfl (Lr rfl (rd_lda ag_106 rfl (Rdc.cl 8 (by repeat constructor) rfl) rfl) ?_)))
   refine La rfl (asC (note_spec (d := d) (n := n) (made := made) (U := ps) (p := noteAll ⟨nm, sz, zeros n⟩ ((plainV es).take i)) (e := e) (z := 0) (by rw [hnl.2.1]; show sz + 0 ≤ _; omega) (by omega) (fun hk => by rw [hnl.1]; have := rec_in hem hk; refine ⟨this.1, ?_⟩; show e.r.o < ((zeros n).length : Int); unfold zeros; rw [List.length_replicate]; have := this.2; have : e.r.o < n := this; omega))) ?_
   rintro _ _ ⟨_, ⟨rfl, rfl⟩, rfl⟩
   rw [← noteAll_take hep]
   refine Lnil (Gs.blk_n (Gn (Gs.reg (Lq rfl (by first | exact pu_addI rfl rfl rfl (by omega) (by omega) | exact pu_add rfl rfl) ?_))))
   refine Lmv rfl rfl (Lnt ?_)
   exact Ag (i + 1) (by omega) (by omega)
  have hge : i = es.length := by have := of_decide_eq_false hc2; omega
  have hpf : ps ++ [noteAll ⟨nm, sz, zeros n⟩ ((plainV es).take i)] = ps ++ (readF n D nm).ps := by rw [hrF, hge, List.take_of_length_le (by simp)]
  rw [hpf]
  refine Gs.exit (Gx (Gx (Gs.blk_hit (Gn (Gsr (Lmv rfl rfl (Las rfl rfl (Las rfl rfl (Lnt (Gs.ret ?_))))))))))
  exact Gs.fin2 Tryz.results88 rfl rfl _ (⟨ea, ec, es, true, rfl, by rw [hrF], rfl⟩) (by repeat constructor)
 have hge : ¬ sz < bs.length := by have := of_decide_eq_false hc1; omega
 have hrD : (readF n D nm).D = D := by rw [hrF]; exact if_neg hge
 rw [show drv d most D = drv d most (readF n D nm).D by rw [hrD]]
 refine Gs.skip (Gn (Gs.seq (Gs.lgClose (made := made) (ps := ps) (P := P) (a := pa) (c := pc) (by repeat constructor) rfl hP ?_)))
 refine Gs.reg (Lmv rfl rfl (Lmv rfl rfl (Lmv rfl rfl (La rfl (asC (begin_spec (d := d) (made := made) (ps := ps) (nm := nm) (z := sz) h1 h8 (by omega))) ?_))))
 rintro _ _ ⟨_, ⟨rfl, rfl⟩, rfl⟩
 refine Lnil (Gs.slAddr (xs := es) ((erd_elO ea ec es).1.h (by repeat constructor)) fun eb eo hea => ?_)
 refine Gn (Gs.seq (Gsr (Lmv rfl rfl (Lq rfl (pu_len Tryz.underlying98 rfl) (Lmv rfl rfl (Lnt (Gs.block (Gs.loop1 (fun i : Nat => i ≤ es.length) (fun i => [(0, ptr b), (8, .slice ea es.length ec), (54, .slice ea es.length ec), (55, int es.length), (56, int i)]) (fun i => [lgr b d n ⟨made, ps ++ [noteAll ⟨nm, sz, zeros n⟩ ((plainV es).take i)]⟩, drv d most (readF n D nm).D, Tx, elO ea ec es] ++ R) (fun i => es.length - i) 0 (Nat.zero_le _) (by repeat constructor) (by repeat constructor) (fun i hi => ?_)))))))))
 refine Gsr (Lq rfl (pu_lt rfl rfl) (Lnt (Gs.seq (Gs.cond rfl (fun hc2 => ?_) (fun hc2 => ?_)))))
 ·
  have hlt : i < es.length := by have := of_decide_eq_true hc2; omega
  obtain ⟨e, he⟩ : ∃ x, es[i]? = some x := ⟨es[i], by simp [hlt]⟩
  obtain rfl := hea (by rintro rfl; simp at hlt)
  have hep : (plainV es)[i]? = some e.p := by simp [he]
  have hem : mayE e.p n = true := hall.1 _ (by rw [← hes]; exact List.mem_of_getElem? hep)
  have hnl := noteAll_len ⟨nm, sz, zeros n⟩ ((plainV es).take i)
  refine Gs.skip (Gn (Gs.seq (Gs.block (Gsr (Lq rfl (pu_ia se_98 rfl rfl (by omega) (by omega)) (Lr rfl (rd_lda ag_106 rfl (Rdc.el0 ((erd_elO _ ec es).1.h (by repeat constructor)) he rfl rfl) rfl) ?_))))))
  refine La rfl (ac_alloc zv_106 rfl) ?_
  rintro _ _ ⟨b11, rfl, rfl⟩
  refine Lac0 rfl trivial (ac_st sz_106 rfl rfl (by repeat constructor) rfl rfl rfl rfl) ?_
  rintro _ _ rfl
  refine Lnt (Gs.reg (Lmv rfl rfl (Lr rfl (rd_lda ag_106 rfl (Rdc.cl 8 (by repeat constructor) rfl) rfl) ?_)))
  refine La rfl (asC (note_spec (d := d) (n := n) (made := made) (U := ps) (p := noteAll ⟨nm, sz, zeros n⟩ ((plainV es).take i)) (e := e) (z := 0) (by rw [hnl.2.1]; show sz + 0 ≤ _; omega) (by omega) (fun hk => by rw [hnl.1]; have := rec_in hem hk; refine ⟨this.1, ?_⟩; show e.r.o < ((zeros n).length : Int); unfold zeros; rw [List.length_replicate]; have := this.2; have : e.r.o < n := this; omega))) ?_
  rintro _ _ ⟨_, ⟨rfl, rfl⟩, rfl⟩
  rw [← noteAll_take hep]
  refine Lnil (Gs.blk_n (Gn (Gs.reg (Lq rfl (by first | exact pu_addI rfl rfl rfl (by omega) (by omega) | exact pu_add rfl rfl) ?_))))
  refine Lmv rfl rfl (Lnt ?_)
  exact Ag (i + 1) (by omega) (by omega)
 have hge : i = es.length := by have := of_decide_eq_false hc2; omega
 have hpf : ps ++ [noteAll ⟨nm, sz, zeros n⟩ ((plainV es).take i)] = ps ++ (readF n D nm).ps := by rw [hrF, hge, List.take_of_length_le (by simp)]
 rw [hpf]
 refine Gs.exit (Gx (Gx (Gs.blk_hit (Gn (Gsr (Lmv rfl rfl (Las rfl rfl (Las rfl rfl (Lnt (Gs.ret ?_))))))))))
 exact Gs.fin2 Tryz.results88 rfl rfl _ (⟨ea, ec, es, true, rfl, by rw [hrF], rfl⟩) (by repeat constructor)
end Go.Proofs.YtflfhpokmidnmaaGreatDoor
namespace Go.Proofs.YtflfhpokmidnmaaGreatDoor
open Go Go.Sl Go.Gv Go.Dv Go.Bst
set_option maxRecDepth 100000
theorem name_pre (k : Nat) : Lib.hasPrefix (nameK k).data.toList (⟨#[108, 111, 103, 46]⟩ : ByteArray).data.toList = true := rfl
theorem name_atoi {k : Nat} (h : k < 100) : Lib.atoi ((nameK k).extract 4 13).data.toList = some (k : Int) := by
 have h1 : ∀ k : Fin 100, decide (Lib.atoi ((nameL k.val).drop 4) = some (k.val : Int)) = true := by decide +kernel
 have h2 := of_decide_eq_true (h1 ⟨k, h⟩)
 have e : ((nameK k).extract 4 13).data.toList = (nameL k).drop 4 := by rw [Lib.extract_data]; rfl
 rw [e]; exact h2
theorem readF_len (n : Int) (D : List Fl) (nm : ByteArray) : (readF n D nm).es.length ≤ (bytesF D nm).length := by
 have h := (readS_all n (bytesF D nm).length true (bytesF D nm)).2.2
 unfold readF
 dsimp only
 split
 · exact Nat.zero_le _
 · exact h
theorem bytes_le {most : Int} {D : List Fl} (hok : Ok most D) (nm : ByteArray) : (bytesF D nm).length ≤ 1048576 := by
 unfold bytesF
 cases hf : lookF D nm with
 | none => simp
 | some f =>
   obtain ⟨X, Y, e1, -, -, -⟩ := lookF_split hok.nd hf
   have h2 := used_mem (D := D) (f := f) (by rw [e1]; simp)
   have h3 := hok.room
   have h4 := hok.hi
   dsimp only; omega
theorem openL_take {n : Int} {ks : List Nat} {i k : Nat} (h : ks[i]? = some k) (o : OOut) : openL n (ks.take (i + 1)) o = openL n [k] (openL n (ks.take i) o) := by
 rw [List.take_add_one, h]; exact openL_snoc ..
theorem openL_made (n : Int) : ∀ (ks : List Nat) (o : OOut) (t : Nat), o.L.made ≤ t → (∀ k ∈ ks, k ≤ t) → (openL n ks o).L.made ≤ t
 | [], _, _, h, _ => h
 | k :: ks, o, t, h, hk => openL_made n ks _ t (by show max o.L.made k ≤ t; have := hk k (by simp); omega) fun j hj => hk j (by simp [hj])
theorem readF_ps (n : Int) (D : List Fl) (nm : ByteArray) : (readF n D nm).ps.length ≤ 1 := by
 unfold readF; dsimp only; split <;> simp
theorem openL_ps (n : Int) : ∀ (ks : List Nat) (o : OOut), (openL n ks o).L.ps.length ≤ o.L.ps.length + ks.length
 | [], _ => Nat.le_refl _
 | k :: ks, o => by
   have h := openL_ps n ks ⟨(readF n o.D (nameK k)).D, ⟨max o.L.made k, o.L.ps ++ (readF n o.D (nameK k)).ps⟩, o.out ++ (readF n o.D (nameK k)).es⟩
   have h2 := readF_ps n o.D (nameK k)
   rw [openL]
   simp only [List.length_append, List.length_cons] at h ⊢
   omega
abbrev zeroB (n : Int) : EntP := baseE (zeros n) (zeros n)
theorem zeroB_may {n : Int} (h1 : 1 ≤ n) (h8 : n ≤ 8) : mayE (zeroB n) n = true := by
 have hv : vecB (zeros n) n = true := by
   rw [vecB_eq]
   simp only [manyB, zeros, Bool.and_eq_true, decide_eq_true_eq, List.length_replicate, List.all_eq_true]
   refine ⟨⟨⟨h1, h8⟩, by omega⟩, fun x hx => ?_⟩
   rw [List.eq_of_mem_replicate hx]; rfl
 have hb : ∀ l : List Int, belowB l l = true := fun l => by
   induction l with
   | nil => rfl
   | cons x l ih => show (decide (x ≤ x) && belowB l l) = true; rw [ih]; simp
 rw [may_base rfl]
 show (decide (Rec.zero = Rec.zero) && vecB (zeros n) n && vecB (zeros n) n && belowB (zeros n) (zeros n)) = true
 rw [hv, hb]; simp
structure OpR where
 code : Int
 D : List Fl
 L : Lg
 out : List EntP
def openA (most n : Int) (ks : List Nat) (D : List Fl) : OpR :=
 let o := openL n ks ⟨D, ⟨0, []⟩, []⟩
 if o.L.ps ≠ [] then ⟨0, o.D, o.L, o.out⟩
 else if appE most o.D (nameK (o.L.made + 1)) (layE (zeroB n)) = 0 then ⟨0, appL most o.D (nameK (o.L.made + 1)) (layE (zeroB n)), ⟨o.L.made + 1, [⟨nameK (o.L.made + 1), (layE (zeroB n)).length, zeros n⟩]⟩, [zeroB n]⟩
 else ⟨appE most o.D (nameK (o.L.made + 1)) (layE (zeroB n)), o.D, ⟨0, []⟩, []⟩
section
variable {w0 : World} {nn : Nat} {env : Env} {H : List HProp} {X : Act → World → Prop}
theorem Gs.elOpen {a : Option Addr} {c : Nat} {es : List EntV} {H' : List HProp} (t : Take (elO a c es) H H') (g : Gs w0 nn env (sl 106 8 entC a c es :: big (es.map entO) :: H') X) : Gs w0 nn env H X := fun ac w e s => g ac w e (Sat.two.1 (s.take t))
theorem Gs.elClose {a : Option Addr} {c : Nat} {es : List EntV} {H' : List HProp} (t : Takes [sl 106 8 entC a c es, big (es.map entO)] H H') (g : Gs w0 nn env (elO a c es :: H') X) : Gs w0 nn env H X := fun ac w e s => g ac w e (Sat.two.2 (s.takes t))
theorem Gs.elNil (g : Gs w0 nn env (elO none 0 [] :: H) X) : Gs w0 nn env H X :=
 Gs.slNil 106 8 entC (Gs.bigNil (Gs.elClose (.cons (.tl .hd) (.cons .hd .nil)) g))
theorem Gs.bigApp {L M H' : List HProp} (t : Takes [big L, big M] H H') (g : Gs w0 nn env (big (L ++ M) :: H') X) : Gs w0 nn env H X := fun ac w e s => by
 have s1 : Sat w0 w (big L :: big M :: H') := s.takes t
 have s2 : Sat w0 w (L ++ big M :: H') := Sat.big.1 s1
 have s3 : Sat w0 w (big M :: (L ++ H')) := s2.take (take_mid (L1 := L) (L2 := H'))
 have s4 : Sat w0 w (M ++ (L ++ H')) := Sat.big.1 s3
 refine g ac w e (Sat.big.2 (s4.imp fun h x => ?_))
 obtain ⟨h1, h2, d, rfl, m, y⟩ := big_append.1 x
 obtain ⟨h3, h4, d2, rfl, l, z⟩ := big_append.1 y
 obtain ⟨da, db⟩ := Hp.disj_un.1 d
 rw [List.append_assoc]
 refine big_append.2 ⟨h3, h1.un h4, Hp.disj_un.2 ⟨da.symm, d2⟩, ?_, l, big_append.2 ⟨h1, h4, db, rfl, m, z⟩⟩
 rw [← Hp.un_assoc, ← Hp.un_assoc, Hp.un_comm da]
end
end Go.Proofs.YtflfhpokmidnmaaGreatDoor
