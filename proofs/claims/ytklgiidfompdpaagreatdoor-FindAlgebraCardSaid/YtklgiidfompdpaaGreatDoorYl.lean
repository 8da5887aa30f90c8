/- What the closing leans on: part 12. -/
import Derived.Test.YtklgiidfompdpaaGreatDoorYk
import Derived.Test.YtklgiidfompdpaaGreatDoorYh
import Derived.Test.YtklgiidfompdpaaGreatDoorCards
import Derived.Test.YtklgiidfompdpaaGreatDoorTie
import Derived.Great.CaseRows
import Derived.Carry
import Derived.Lib.LaidIn
import Derived.Lib.LaidRTab
import Derived.Lib.LaidCase
import Derived.Lib.LaidTab
import Derived.Lib.LaidU8T
import Derived.Deep.DeepHandedRow
import Derived.Deep.DeepWitnessRowRef
import Derived.ProofKit
import Derived.SizedLaws
import Derived.OpenShut
import Derived.Test.YtklgiidfompdpaaGreatDoorYd
import Derived.Test.YtklgiidfompdpaaGreatDoorYg
namespace Go.Sl
open Go
theorem Ct.twoS {P : Program} {f : FuncId} {args : List Value} {A B C : HProp} {φ : Value → HProp → List HProp → Prop} (c : Ct P f args [A, Sl.two B C] (fun v hs => ∃ A' r, φ v A' r ∧ hs = A' :: Sl.two B C :: r)) : Ct P f args [A, B, C] (fun v hs => ∃ A' r, φ v A' r ∧ hs = A' :: B :: C :: r) := by
 refine ⟨c.enters, fun w0 w R s => ?_⟩
 have s1 : Sat w0 w (B :: C :: A :: R) := Sat.takes (As := [B, C]) s (.cons (.tl .hd) (.cons (.tl .hd) .nil))
 have s2 : Sat w0 w (A :: Sl.two B C :: R) := Sat.take (Sat.two.2 s1) (.tl .hd)
 refine (c.calls w0 w R s2).mono fun _ _ ⟨v, hs, he, ⟨A', r, hp, e⟩, hsat⟩ => ⟨v, A' :: B :: C :: r, he, ⟨A', r, hp, rfl⟩, ?_⟩
 subst e
 have s3 : Sat w0 _ (Sl.two B C :: A' :: (r ++ R)) := Sat.take (L := A' :: Sl.two B C :: (r ++ R)) hsat (.tl .hd)
 exact Sat.take (A := A') (Sat.two.1 s3) (.tl (.tl .hd))
end Go.Sl
namespace Go.Proofs.YtklgiidfompdpaaGreatDoor
open Go Go.Sl Go.Gv Go.Kv Go.Po Go.Ix Go.Qu Go.Shelf Go.Stb
set_option maxRecDepth 100000
theorem rec17_spec (n : Int) (s : ByteArray) : Ct Tryz.prog 28 [int n, .string s] [] (fun v hs => v = recV (recI n s) ∧ hs = []) := by
 refine Cti Tryz.func28 (by kernel_rfl) 9 Tryz.ntmps28 rfl rfl fun w0 R => ?_
 refine Gsr (La rfl (ac_alloc zv_32 rfl) ?_)
 rintro _ _ ⟨rb, rfl, rfl⟩
 refine Lnt (Gsr (Lmv rfl rfl (Lq rfl (pu_build bd_28 (by repeat constructor) rfl) ?_)))
 refine Lmv rfl rfl (Lq rfl (pu_build bd_32 (by repeat constructor) rfl) ?_)
 refine Lac0 rfl trivial (ac_st sz_32 rfl rfl (by repeat constructor) rfl rfl rfl rfl) ?_
 rintro _ _ rfl
 refine Lnt (Gs.ret ?_)
 exact Gs.finc1 Tryz.results28 ag_32 rfl (Rdc.cl 5 (by repeat constructor) rfl) rfl _ (⟨rfl, rfl⟩) (by repeat constructor)
abbrev askW (b : Nat) (w : ByteArray) : AskV := .mk 1 0 ⟨some ⟨b, 0, none⟩, [w], 1⟩ none 0 []
theorem word17_spec (w : ByteArray) : Ct Tryz.prog 30 [.string w] [] (fun v hs => ∃ b, v = askV (askW b w) ∧ hs = [sl 9 1 strC (some ⟨b, 0, none⟩) 1 [w]]) := by
 refine Cti Tryz.func30 (by kernel_rfl) 6 Tryz.ntmps30 rfl rfl fun w0 R => ?_
 refine Gsr (La rfl (ac_alloc zv_26 rfl) ?_)
 rintro _ _ ⟨ab, rfl, rfl⟩
 refine Lnt (Gsr (Lmv rfl rfl (La rfl (ac_lit encC_9 ([w]) et_23 ek_9 rfl (by repeat constructor) rfl rfl (by decide)) ?_)))
 rintro _ _ ⟨a4, rfl, rfl⟩
 refine Lq rfl (pu_build bd_26 (by repeat constructor) rfl) ?_
 refine Lac0 rfl trivial (ac_st sz_26 rfl rfl (by repeat constructor) rfl rfl rfl rfl) ?_
 rintro _ _ rfl
 refine Lnt (Gs.ret ?_)
 exact Gs.finc1 Tryz.results30 ag_26 rfl (Rdc.cl 4 (by repeat constructor) rfl) rfl _ (⟨_, rfl, rfl⟩) (by repeat constructor)
theorem askW_rd {A S : HProp} {b : Nat} {w : ByteArray} (h : Srd S 1 strC (some ⟨b, 0, none⟩) [w]) : ARd S (askW b w) := .mk h (fun _ _ _ _ _ _ h => (h rfl).elim) ⟨by show 1 ≤ maxLen; decide, Nat.zero_le _⟩ fun x h => by cases h
theorem askW_few {b : Nat} {w : ByteArray} (h : w.size ≤ 100) : FewA 1 (askW b w) := ⟨by show 1 ≤ 30; omega, fun v hv => by rw [List.mem_singleton.1 hv]; exact h, Nat.zero_le _, fun x h => by cases h⟩
theorem askW_size (b : Nat) (w : ByteArray) : sizeA 1 (askW b w) ≤ 1000 := by show 1 + 0 ≤ 1000; omega
theorem IsK.of {rs : List Rec} (hn : (rs.map Rec.key).Nodup) (f : Rec → Bool) : IsK rs f (sortK ((rs.filter f).map Rec.key)) := ⟨sortK_asc (filt_keys hn f), fun k => by
 rw [sortK_mem, List.mem_map]
 exact ⟨fun ⟨r, hr, e⟩ => ⟨r, (List.mem_filter.1 hr).1, e, (List.mem_filter.1 hr).2⟩, fun ⟨r, hr, e, hf⟩ => ⟨r, List.mem_filter.2 ⟨hr, hf⟩, e⟩⟩⟩
abbrev waB : ByteArray := ⟨#[97]⟩
abbrev wbB : ByteArray := ⟨#[98]⟩
abbrev r2B : Rec := recI 2 ⟨#[97, 32, 98]⟩
abbrev r1B : Rec := recI 1 ⟨#[98]⟩
abbrev r1A : Rec := recI 1 ⟨#[97]⟩
theorem put17 : [r2B, r1B, r1A].foldl putR [] = [r2B, r1B] := by kernel_rfl
theorem drop17 : [(⟨1, 1⟩ : Key)].foldl dropR [r2B, r1B] = [r2B] := by kernel_rfl
theorem look17 : lookR [r2B, r1B] ⟨1, 1⟩ = some r1B := by kernel_rfl
theorem mayB17 (b : Nat) : mayA 1 (askW b wbB) = true := by kernel_rfl
theorem mayA17 (b : Nat) : mayA 1 (askW b waB) = true := by kernel_rfl
theorem keys17 (b : Nat) : sortK (([r2B, r1B].filter (holdsQ 1 (askW b wbB))).map Rec.key) = [⟨1, 1⟩, ⟨1, 2⟩] := by kernel_rfl
theorem hits17 (b : Nat) : [r2B, r1B].filter (hitB 1 (askW b waB) Rec.zero) = [r2B] := by kernel_rfl
theorem nod17 : (([r2B, r1B] : List Rec).map Rec.key).Nodup := by decide
theorem ok17 : okQ 3 Rec.zero = true := by kernel_rfl
set_option maxHeartbeats 1000000 in
theorem awake17_spec {h0 : Hp} (T : TabY h0) : Ct Tryz.prog 9 [] [ro h0] (fun v hs => v = .bool true ∧ hs = [ro h0]) := by
 have hTW : TabW (ro h0) := ⟨h0, T, Inn.refl⟩
 refine Cti Tryz.func9 (by kernel_rfl) 64 Tryz.ntmps9 rfl rfl fun w0 R => ?_
 refine Gsr (Las rfl rfl (Lnt (Gsr (La rfl (asC (snew_spec)) ?_))))
 rintro _ _ ⟨_, ⟨x, rfl, rfl⟩, rfl⟩
 refine Las rfl rfl (Lnt (Gs.seq (Gsr (Lmv rfl rfl (Lq rfl (pu_eqN Tryz.underlying38 rfl rfl) (Lnt (Gs.cond_ff rfl rfl (Gs.skip (Gn (Gsr (Lmv rfl rfl ?_)))))))))))
 refine La rfl (asC (rec17_spec 2 ⟨#[97, 32, 98]⟩)) ?_
 rintro _ _ ⟨_, ⟨rfl, rfl⟩, rfl⟩
 refine La rfl (asC (rec17_spec 1 ⟨#[98]⟩)) ?_
 rintro _ _ ⟨_, ⟨rfl, rfl⟩, rfl⟩
 refine La rfl (asC (rec17_spec 1 ⟨#[97]⟩)) ?_
 rintro _ _ ⟨_, ⟨rfl, rfl⟩, rfl⟩
 refine La rfl (ac_lit encC_32 ([r2B, r1B, r1A]) et_41 ek_32 rfl (by repeat constructor) rfl rfl (by decide)) ?_
 rintro _ _ ⟨a12, rfl, rfl⟩
 refine La rfl (asC (Ct.twoR (sput_spec (S := two (ro h0) (rsA (some ⟨a12, 0, none⟩) 3 [r2B, r1B, r1A])) (hTW.u.inn Inn.two1) x [] (a := some ⟨a12, 0, none⟩) (c := 3) (ys := [r2B, r1B, r1A]) (Srd.two2 Srd.own) (by decide)))) ?_
 rintro _ _ ⟨_, ⟨_, ⟨rfl, rfl⟩, rfl⟩, rfl⟩
 rw [put17]
 refine Las rfl rfl (Lnt (Gsr (Lmv rfl rfl (La rfl (asC (rec17_spec 1 ⟨#[]⟩)) ?_))))
 rintro _ _ ⟨_, ⟨rfl, rfl⟩, rfl⟩
 refine Lq rfl (pu_fg fg_32_0 rfl rfl) (La rfl (asC (sget_spec x [r2B, r1B] ⟨1, 1⟩)) ?_)
 rintro _ _ ⟨_, ⟨rfl, rfl⟩, rfl⟩
 rw [look17]
 refine Lmv rfl rfl (Lq rfl (pu_extract rfl rfl) (Lq rfl (pu_extract rfl rfl) (La rfl (ac_alloc zv_32 rfl) ?_)))
 rintro _ _ ⟨rb, rfl, rfl⟩
 refine Lac0 rfl trivial (ac_st sz_32 rfl rfl (by repeat constructor) rfl rfl rfl rfl) ?_
 rintro _ _ rfl
 refine Las rfl rfl (Lnt (Gs.seq (Gs.regD mixed (by kernel_rfl) (Rmv 0 rfl (by kernel_rfl) rfl (Rq 1 rfl (by kernel_rfl) (pu_eq rfl rfl) (Rg.puBt 2 rfl rfl (by kernel_rfl) trivial (pu_move rfl) rfl (Rg.rd 3 rfl rfl (by kernel_rfl) ⟨_, rfl, rfl⟩ (rd_lda ag_32 rfl (Rdc.cl 5 (by repeat constructor) rfl) rfl) ?_)))))))
 refine Rg.one (by kernel_rfl) (Stp.acR 4 [3] rfl rfl (by kernel_rfl) ⟨_, rfl, rfl⟩ (asC (rec17_spec 1 ⟨#[98]⟩)) (by rintro _ _ ⟨_, ⟨rfl, rfl⟩, rfl⟩; exact (Reads.cons rfl rfl rfl ⟨_, rfl, rfl⟩ rfl (rd_lda ag_32 rfl (Rdc.cl 5 (by repeat constructor) rfl) rfl) Reads.nil)) ?_)
 rintro _ _ ⟨_, ⟨rfl, rfl⟩, rfl⟩
 refine Rg.pu 5 rfl rfl (by kernel_rfl) ⟨_, rfl, rfl⟩ (pu_eqT (a := r1B) (b := r1B) cmp_32 (by decide) Tryz.eqGuardType32 rfl rfl) ?_
 refine Rpk 6 rfl (by kernel_rfl) rfl rfl (Rg.puBt 7 rfl rfl (by kernel_rfl) trivial (pu_move rfl) rfl (Rg.pu 8 rfl rfl (by kernel_rfl) ⟨_, rfl, rfl⟩ (pu_move rfl) (Rpk 9 rfl (by kernel_rfl) rfl rfl (Rg.puBt 10 rfl rfl (by kernel_rfl) trivial (pu_move rfl) rfl (Rg.pu 11 rfl rfl (by kernel_rfl) ⟨_, rfl, rfl⟩ (pu_move rfl) (Rg.one (by kernel_rfl) (Stp.ac 12 rfl rfl (by kernel_rfl) ⟨_, rfl, rfl⟩ (asC (word17_spec wbB))  ?_)))))))
 rintro _ _ ⟨_, ⟨qb, rfl, rfl⟩, rfl⟩
 refine Rg.one (by kernel_rfl) (Stp.ac 13 rfl rfl (by kernel_rfl) ⟨_, rfl, rfl⟩ (asC (Ct.twoS (φ := fun v A' r => A' = shA x [r2B, r1B] ∧ ∃ a c ks, v = .slice a ks.length c ∧ KsQ [r2B, r1B] 1 (askW qb wbB) ks ∧ r = [sl 28 2 keyC a c ks]) ((sKeys_spec x [r2B, r1B] (by decide) (S := two (ro h0) (sl 9 1 strC (some ⟨qb, 0, none⟩) 1 [wbB])) (hTW.u.inn Inn.two1) (askW_rd (A := ro h0) (Srd.two2 Srd.own)) (askW_few (by decide)) (askW_size _ _) (by decide)).mono (by rintro _ _ ⟨a, c, ks, h1, h2, rfl⟩; exact ⟨_, _, ⟨rfl, a, c, ks, h1, h2, rfl⟩, rfl⟩))))  ?_)
 rintro _ _ ⟨_, ⟨_, _, ⟨rfl, ka, kc, ks, rfl, hK, rfl⟩, rfl⟩, rfl⟩
 obtain rfl : ks = [⟨1, 1⟩, ⟨1, 2⟩] := by rw [← keys17 qb]; exact (hK.1 (mayB17 qb)).uniq (IsK.of nod17 _) (fun _ _ => rfl)
 refine Rg.one (by kernel_rfl) (Stp.ac 14 rfl rfl (by kernel_rfl) ⟨_, rfl, rfl⟩ (asC (rec17_spec 1 ⟨#[]⟩))  ?_)
 rintro _ _ ⟨_, ⟨rfl, rfl⟩, rfl⟩
 refine Rg.pu 15 rfl rfl (by kernel_rfl) ⟨_, rfl, rfl⟩ (pu_fg fg_32_0 rfl rfl) (Rg.one (by kernel_rfl) (Stp.ac 16 rfl rfl (by kernel_rfl) ⟨_, rfl, rfl⟩ (asC (rec17_spec 2 ⟨#[]⟩))  ?_))
 rintro _ _ ⟨_, ⟨rfl, rfl⟩, rfl⟩
 refine Rg.pu 17 rfl rfl (by kernel_rfl) ⟨_, rfl, rfl⟩ (pu_fg fg_32_0 rfl rfl) (Rg.one (by kernel_rfl) (Stp.ac 18 rfl rfl (by kernel_rfl) ⟨_, rfl, rfl⟩ (ac_lit encC_28 ([(⟨1, 1⟩ : Key), ⟨1, 2⟩]) et_48 ek_28 rfl (by repeat constructor) rfl rfl (by decide))  ?_))
 rintro _ _ ⟨a39, rfl, rfl⟩
 refine Rg.one (by kernel_rfl) (Stp.ac 19 rfl rfl (by kernel_rfl) ⟨_, rfl, rfl⟩ (asC (Ct.two0 (sameKeys_spec (S := two (sl 28 2 keyC ka kc [⟨1, 1⟩, ⟨1, 2⟩]) (sl 28 2 keyC (some ⟨a39, 0, none⟩) 2 [⟨1, 1⟩, ⟨1, 2⟩])) (a := ka) (b := some ⟨a39, 0, none⟩) (c := kc) (d := 2) (xs := [⟨1, 1⟩, ⟨1, 2⟩]) (ys := [⟨1, 1⟩, ⟨1, 2⟩]) (Srd.two1 Srd.own) (Srd.two2 Srd.own) (by decide))))  ?_)
 rintro _ _ ⟨_, ⟨rfl, rfl⟩, rfl⟩
 refine Rpk 20 rfl (by kernel_rfl) rfl rfl (Rg.puBt 21 rfl rfl (by kernel_rfl) trivial (pu_move rfl) rfl (Rg.pu 22 rfl rfl (by kernel_rfl) ⟨_, rfl, rfl⟩ (pu_move rfl) (Rg.one (by kernel_rfl) (Stp.ac 23 rfl rfl (by kernel_rfl) ⟨_, rfl, rfl⟩ (asC (word17_spec waB))  ?_))))
 rintro _ _ ⟨_, ⟨pb, rfl, rfl⟩, rfl⟩
 refine Rg.pu 24 rfl rfl (by kernel_rfl) ⟨_, rfl, rfl⟩ (pu_build bd_34 (by repeat constructor) rfl) ?_
 refine Rg.one (by kernel_rfl) (Stp.ac 25 rfl rfl (by kernel_rfl) ⟨_, rfl, rfl⟩ (asC (Ct.twoS (φ := fun v A' r => A' = shA x [r2B, r1B] ∧ ∃ a c out, v = .slice a out.length c ∧ FindIs 1 (askW pb waB) 3 Rec.zero [r2B, r1B] out ∧ r = [rsA a c out]) ((sfind_spec x [r2B, r1B] (by decide) (S := two (ro h0) (sl 9 1 strC (some ⟨pb, 0, none⟩) 1 [waB])) (hTW.inn Inn.two1) (askW_rd (A := ro h0) (Srd.two2 Srd.own)) (askW_few (by decide)) (askW_size _ _) (by decide) 3 Rec.zero).mono (by rintro _ _ ⟨a, c, out, h1, h2, rfl⟩; exact ⟨_, _, ⟨rfl, a, c, out, h1, h2, rfl⟩, rfl⟩))))  ?_)
 rintro _ _ ⟨_, ⟨_, _, ⟨rfl, fa, fc, out, rfl, hO, rfl⟩, rfl⟩, rfl⟩
 obtain rfl : out = [r2B] := by
   obtain ⟨ys, hy, rfl⟩ := hO
   have h1 := (hy.1 (by unfold mayQ; rw [mayA17, ok17]; rfl)).1
   rw [hits17] at h1
   rw [List.perm_singleton.1 h1]; rfl
 refine Rg.pu 26 rfl rfl (by kernel_rfl) ⟨_, rfl, rfl⟩ (pu_len Tryz.underlying41 rfl) (Rg.pu 27 rfl rfl (by kernel_rfl) ⟨_, rfl, rfl⟩ (pu_eq rfl rfl) (Rpk 28 rfl (by kernel_rfl) rfl rfl (Rg.puBt 29 rfl rfl (by kernel_rfl) trivial (pu_move rfl) rfl (Rg.pu 30 rfl rfl (by kernel_rfl) ⟨_, rfl, rfl⟩ (pu_move rfl) (Rg.one (by kernel_rfl) (Stp.ac 31 rfl rfl (by kernel_rfl) ⟨_, rfl, rfl⟩ (asC (rec17_spec 1 ⟨#[]⟩))  ?_))))))
 rintro _ _ ⟨_, ⟨rfl, rfl⟩, rfl⟩
 refine Rg.pu 32 rfl rfl (by kernel_rfl) ⟨_, rfl, rfl⟩ (pu_fg fg_32_0 rfl rfl) (Rg.one (by kernel_rfl) (Stp.ac 33 rfl rfl (by kernel_rfl) ⟨_, rfl, rfl⟩ (ac_lit encC_28 ([(⟨1, 1⟩ : Key)]) et_48 ek_28 rfl (by repeat constructor) rfl rfl (by decide))  ?_))
 rintro _ _ ⟨a54, rfl, rfl⟩
 refine Rg.one (by kernel_rfl) (Stp.ac 34 rfl rfl (by kernel_rfl) ⟨_, rfl, rfl⟩ (asC (sdrop_spec x [r2B, r1B] (U := sl 28 2 keyC (some ⟨a54, 0, none⟩) 1 [⟨1, 1⟩]) (a := some ⟨a54, 0, none⟩) (c := 1) (ks := [⟨1, 1⟩]) Srd.own (by decide)))  ?_)
 rintro _ _ ⟨_, ⟨rfl, rfl⟩, rfl⟩
 rw [drop17]
 refine Rg.pu 35 rfl rfl (by kernel_rfl) ⟨_, rfl, rfl⟩ (pu_eq rfl rfl) (Rpk 36 rfl (by kernel_rfl) rfl rfl (Rg.puBt 37 rfl rfl (by kernel_rfl) trivial (pu_move rfl) rfl (Rg.pu 38 rfl rfl (by kernel_rfl) ⟨_, rfl, rfl⟩ (pu_move rfl) (Rg.one (by kernel_rfl) (Stp.ac 39 rfl rfl (by kernel_rfl) ⟨_, rfl, rfl⟩ (asC (srecs_spec x [r2B] (by decide)))  ?_)))))
 rintro _ _ ⟨_, ⟨ra, rc, ks, rfl, hK, rfl⟩, rfl⟩
 have hk1 : ks.length = 1 := by
   have h1 := hK.uniq (IsK.of (rs := [r2B]) (by decide) (fun _ => true)) (fun _ _ => rfl)
   rw [h1]; rfl
 have hol : (ofR [r2B] ks).length = 1 := by unfold ofR; rw [List.length_map]; exact hk1
 rw [hol]
 refine Rg.pu 40 rfl rfl (by kernel_rfl) ⟨_, rfl, rfl⟩ (pu_len Tryz.underlying41 rfl) (Rg.pu 41 rfl rfl (by kernel_rfl) ⟨_, rfl, rfl⟩ (pu_eq rfl rfl) (Rpk 42 rfl (by kernel_rfl) rfl rfl (Rq 43 rfl (by kernel_rfl) (pu_assign rfl) (Rg.end (by kernel_rfl) (Gn (Gs.ret ?_))))))
 exact Gs.fin1 Tryz.results9 rfl _ (⟨rfl, rfl⟩) (by repeat constructor)
end Go.Proofs.YtklgiidfompdpaaGreatDoor
namespace Go.Proofs.YtklgiidfompdpaaGreatDoor
open Go Go.Sl Go.Gv Go.Kv Go.Po Go.Ix Go.Qu Go.Shelf Go.Stb
set_option maxRecDepth 100000
theorem putR_nodup {rs : List Rec} (h : (rs.map Rec.key).Nodup) (r : Rec) : ((putR rs r).map Rec.key).Nodup := by
 unfold putR
 split
 · rename_i e
   simp only [Bool.and_eq_true, decide_eq_true_eq] at e
   rw [List.map_append, List.nodup_append]
   refine ⟨h, by simp, fun a ha b hb => ?_⟩
   simp at hb
   subst hb
   exact fun he => e.2 (he ▸ ha)
 · exact h
theorem putR_may {rs : List Rec} (h : ∀ r ∈ rs, recB r = true) (x : Rec) : ∀ r ∈ putR rs x, recB r = true := fun r hr => by
 unfold putR at hr
 split at hr
 · rename_i e
   rcases List.mem_append.1 hr with hr | hr
   · exact h r hr
   · rw [List.mem_singleton.1 hr]
     simp only [Bool.and_eq_true] at e; exact e.1
 · exact h r hr
end Go.Proofs.YtklgiidfompdpaaGreatDoor
namespace Go.Proofs.YtklgiidfompdpaaGreatDoor
open Go Go.Sl Go.Gv Go.Kv Go.Po Go.Ix Go.Qu Go.Shelf Go.Stb
set_option maxRecDepth 100000
abbrev askS : AskV := .mk 5 0 ⟨none, [], 0⟩ none 0 []
abbrev askN (b : Nat) (a : AskV) : AskV := .mk 9 0 ⟨none, [], 0⟩ (some ⟨b, 0, none⟩) 1 [a]
abbrev askT (k : Int) (b : Nat) (x y : AskV) : AskV := .mk k 0 ⟨none, [], 0⟩ (some ⟨b, 0, none⟩) 2 [x, y]
theorem mayS : mayA 1 askS = true := by kernel_rfl
theorem askS_rd {S : HProp} : ARd S askS := .mk (fun _ _ _ _ _ _ h => (h rfl).elim) (fun _ _ _ _ _ _ h => (h rfl).elim) ⟨Nat.zero_le _, Nat.zero_le _⟩ fun _ h => by cases h
theorem askS_few : FewA 1 askS := ⟨Nat.zero_le _, fun _ h => (by cases h), Nat.zero_le _, fun _ h => (by cases h)⟩
theorem askN_rd {S : HProp} {b : Nat} {a : AskV} (hs : Srd S 4 askC (some ⟨b, 0, none⟩) [a]) (h : ARd S a) : ARd S (askN b a) :=
 .mk (fun _ _ _ _ _ _ h => (h rfl).elim) hs ⟨Nat.zero_le _, by show 1 ≤ maxLen; decide⟩ fun x hx => by rw [List.mem_singleton.1 hx]; exact h
theorem askT_rd {S : HProp} {k : Int} {b : Nat} {x y : AskV} (hs : Srd S 4 askC (some ⟨b, 0, none⟩) [x, y]) (h : ARd S x) (h' : ARd S y) : ARd S (askT k b x y) :=
 .mk (fun _ _ _ _ _ _ h => (h rfl).elim) hs ⟨Nat.zero_le _, by show 2 ≤ maxLen; decide⟩ fun z hz => by
   rcases List.mem_cons.1 hz with rfl | hz
   · exact h
   · rw [List.mem_singleton.1 hz]; exact h'
theorem askN_few {d b : Nat} {a : AskV} (h : FewA d a) : FewA (d + 1) (askN b a) := ⟨Nat.zero_le _, fun _ h => (by cases h), by show 1 ≤ 60; omega, fun x hx => by rw [List.mem_singleton.1 hx]; exact h⟩
theorem askT_few {d b : Nat} {k : Int} {x y : AskV} (h : FewA d x) (h' : FewA d y) : FewA (d + 1) (askT k b x y) := ⟨Nat.zero_le _, fun _ h => (by cases h), by show 2 ≤ 60; omega, fun z hz => by
   rcases List.mem_cons.1 hz with rfl | hz
   · exact h
   · rw [List.mem_singleton.1 hz]; exact h'⟩
theorem askN_size {d b : Nat} {a : AskV} (h : sizeA d a ≤ 60) : sizeA (d + 1) (askN b a) ≤ 1000 := by
 show 1 + ([a].map (sizeA d)).sum ≤ 1000
 simp; omega
theorem askT_size {d b : Nat} {k : Int} {x y : AskV} (h : sizeA d x ≤ 60) (h' : sizeA d y ≤ 60) : sizeA (d + 1) (askT k b x y) ≤ 1000 := by
 show 1 + ([x, y].map (sizeA d)).sum ≤ 1000
 simp; omega
theorem may_not {d b : Nat} {a : AskV} (h : mayA (d + 1) (askN b a) = true) : mayA d a = true := by
 have e1 : deepA (d + 1) (askN b a) = max 0 (deepA d a) + 1 := rfl
 have e2 : termsA (d + 1) (askN b a) = termsA d a + 0 := by
   show (if [a] = [] then max ([] : List ByteArray).length 1 else ([a].map (termsA d)).sum) = _
   rw [if_neg (by simp)]; rfl
 unfold mayA at h ⊢
 simp only [Bool.and_eq_true, decide_eq_true_eq] at h ⊢
 refine ⟨by omega, by omega, good_subs h.2.2 a (List.mem_singleton.2 rfl)⟩
theorem may_two {d b : Nat} {k : Int} {x y : AskV} (h : mayA (d + 1) (askT k b x y) = true) : mayA d x = true ∧ mayA d y = true := by
 have e1 : deepA (d + 1) (askT k b x y) = max (max 0 (deepA d x)) (deepA d y) + 1 := rfl
 have e2 : termsA (d + 1) (askT k b x y) = termsA d x + (termsA d y + 0) := by
   show (if [x, y] = [] then max ([] : List ByteArray).length 1 else ([x, y].map (termsA d)).sum) = _
   rw [if_neg (by simp)]; rfl
 unfold mayA at h ⊢
 simp only [Bool.and_eq_true, decide_eq_true_eq] at h ⊢
 have g := good_subs h.2.2
 exact ⟨⟨by omega, by omega, g x (by show x ∈ [x, y]; simp)⟩, by omega, by omega, g y (by show y ∈ [x, y]; simp)⟩
theorem hold_S {r : Rec} (h : recB r = true) : holdsQ 1 askS r = true := by
 show holdsA preB r (wordsB r.t) (0 + 1) askS = true
 rw [holds_5 rfl, decide_eq_true_iff]
 simp only [Bool.and_eq_true, recB, stampB, inB, decide_eq_true_eq] at h
 show 0 ≤ r.w
 omega
theorem hold_N {d b : Nat} {a : AskV} (r : Rec) : holdsQ (d + 1) (askN b a) r = !holdsQ d a r := holdsNot rfl rfl
theorem hold_And {d b : Nat} {x y : AskV} (r : Rec) : holdsQ (d + 1) (askT 7 b x y) r = (holdsQ d x r && holdsQ d y r) := by
 show holdsA preB r (wordsB r.t) (d + 1) (askT 7 b x y) = _
 rw [holds_7 rfl]
 show (holdsA preB r (wordsB r.t) d x && (holdsA preB r (wordsB r.t) d y && true)) = _
 rw [Bool.and_true]; rfl
theorem hold_Or {d b : Nat} {x y : AskV} (r : Rec) : holdsQ (d + 1) (askT 8 b x y) r = (holdsQ d x r || holdsQ d y r) := by
 show holdsA preB r (wordsB r.t) (d + 1) (askT 8 b x y) = _
 rw [holds_8 rfl]
 show (holdsA preB r (wordsB r.t) d x || (holdsA preB r (wordsB r.t) d y || false)) = _
 rw [Bool.or_false]; rfl
theorem KsQ.pos {rs : List Rec} {d : Nat} {y : AskV} {ks : List Key} (h : KsQ rs d y ks) (hp : 0 < ks.length) : mayA d y = true ∧ IsK rs (holdsQ d y) ks := by
 cases hm : mayA d y with
 | true => exact ⟨rfl, h.1 hm⟩
 | false => rw [h.2 hm] at hp; cases hp
section
variable {rs : List Rec} {f g : Rec → Bool}
theorem IsK.cnt (hn : (rs.map Rec.key).Nodup) {ks : List Key} (h : IsK rs f ks) : ks.length = (rs.filter f).length := by
 have := h.uniq (IsK.of hn f) (fun _ _ => rfl)
 rw [this, sortK_length, List.length_map]
theorem IsK.nil {ks : List Key} (h : IsK rs f ks) (hf : ∀ r, f r = false) : ks.length = 0 := by
 cases ks with
 | nil => rfl
 | cons k ks =>
   obtain ⟨r, -, -, h2⟩ := (h.2 k).1 (by simp)
   rw [hf r] at h2; cases h2
theorem cnt_not (rs : List Rec) (f : Rec → Bool) : (rs.filter fun r => !f r).length + (rs.filter f).length = rs.length := by
 induction rs with
 | nil => rfl
 | cons r rs ih =>
   simp only [List.filter_cons, List.length_cons]
   cases f r <;> simp <;> omega
theorem cnt_and (rs : List Rec) (f g : Rec → Bool) : (rs.filter fun r => f r && g r).length + (rs.filter fun r => f r && !g r).length = (rs.filter f).length := by
 induction rs with
 | nil => rfl
 | cons r rs ih =>
   simp only [List.filter_cons]
   cases f r <;> cases g r <;> simp <;> omega
theorem cnt_or (rs : List Rec) (f g : Rec → Bool) : (rs.filter fun r => f r || g r).length = (rs.filter f).length + (rs.filter fun r => g r && !f r).length := by
 induction rs with
 | nil => rfl
 | cons r rs ih =>
   simp only [List.filter_cons]
   cases f r <;> cases g r <;> simp <;> omega
theorem alg_not (hn : (rs.map Rec.key).Nodup) {ns xs : List Key} (hN : IsK rs (fun r => !f r) ns) (hX : IsK rs f xs) : ns.length + xs.length = rs.length ∧ (lessK ns xs).length = ns.length := by
 have h1 := hN.cnt hn
 have h2 := hX.cnt hn
 have h3 := cnt_not rs f
 have h4 := (IsK.less hn hN hX).congr (g := fun r => !f r) fun r _ => by cases f r <;> rfl
 have h5 := h4.cnt hn
 exact ⟨by omega, by omega⟩
theorem alg_and (hn : (rs.map Rec.key).Nodup) {zs xs ys : List Key} (hA : IsK rs (fun r => f r && g r) zs) (hX : IsK rs f xs) (hY : IsK rs g ys) : (lessK zs xs).length = 0 ∧ (lessK zs ys).length = 0 ∧ zs.length + (lessK xs ys).length = xs.length := by
 refine ⟨(IsK.less hn hA hX).nil fun r => by cases f r <;> cases g r <;> rfl, (IsK.less hn hA hY).nil fun r => by cases f r <;> cases g r <;> rfl, ?_⟩
 rw [hA.cnt hn, (IsK.less hn hX hY).cnt hn, hX.cnt hn]
 exact cnt_and rs f g
theorem alg_or (hn : (rs.map Rec.key).Nodup) {os xs ys : List Key} (hO : IsK rs (fun r => f r || g r) os) (hX : IsK rs f xs) (hY : IsK rs g ys) : (lessK xs os).length = 0 ∧ (lessK ys os).length = 0 ∧ os.length = xs.length + (lessK ys xs).length := by
 refine ⟨(IsK.less hn hX hO).nil fun r => by cases f r <;> cases g r <;> rfl, (IsK.less hn hY hO).nil fun r => by cases f r <;> cases g r <;> rfl, ?_⟩
 rw [hO.cnt hn, hX.cnt hn, (IsK.less hn hY hX).cnt hn]
 exact cnt_or rs f g
end
theorem fold_put {L : List Rec} (hn : (L.map Rec.key).Nodup) (hb : ∀ r ∈ L, recB r = true) : ∀ ys : List Rec, ((ys.foldl putR L).map Rec.key).Nodup ∧ ∀ r ∈ ys.foldl putR L, recB r = true := fun ys => by
 induction ys generalizing L with
 | nil => exact ⟨hn, hb⟩
 | cons y ys ih => exact ih (putR_nodup hn y) (putR_may hb y)
theorem ofR_len (rs : List Rec) (ks : List Key) : (ofR rs ks).length = ks.length := by unfold ofR; rw [List.length_map]
theorem sKeys2_spec (x : Nat) (rs : List Rec) (hr : rs.length ≤ 800) {A B : HProp} (hT : TabU A) {d : Nat} {y : AskV} (hA : ARd (two A B) y) (hF : FewA d y) (hz : sizeA d y ≤ 1000) (hd : d ≤ 1000) :
   Ct Tryz.prog 19 [ptr x, askV y] [shA x rs, A, B] (fun v hs => ∃ a c ks, v = .slice a ks.length c ∧ KsQ rs d y ks ∧ hs = [shA x rs, A, B, sl 28 2 keyC a c ks]) :=
 (Ct.twoS (φ := fun v A' r => A' = shA x rs ∧ ∃ a c ks, v = .slice a ks.length c ∧ KsQ rs d y ks ∧ r = [sl 28 2 keyC a c ks]) ((sKeys_spec x rs hr (hT.inn Inn.two1) hA hF hz hd).mono (by rintro _ _ ⟨a, c, ks, h1, h2, rfl⟩; exact ⟨_, _, ⟨rfl, a, c, ks, h1, h2, rfl⟩, rfl⟩))).mono (by
   rintro _ _ ⟨_, _, ⟨rfl, a, c, ks, h1, h2, rfl⟩, rfl⟩; exact ⟨a, c, ks, h1, h2, rfl⟩)
theorem lessKK_spec {a b : Option Addr} {c d : Nat} {xs ys : List Key} (hl : xs.length ≤ 100000) (hm : ys.length ≤ 100000) :
   Ct Tryz.prog 27 [.slice a xs.length c, .slice b ys.length d] [sl 28 2 keyC a c xs, sl 28 2 keyC b d ys] (fun v hs => ∃ a' c', v = .slice a' (lessK xs ys).length c' ∧ hs = [sl 28 2 keyC a c xs, sl 28 2 keyC b d ys, sl 28 2 keyC a' c' (lessK xs ys)]) :=
 (Ct.two (less10_spec (S := two (sl 28 2 keyC a c xs) (sl 28 2 keyC b d ys)) (a := a) (b := b) (c := c) (d := d) (Srd.two1 Srd.own) (Srd.two2 Srd.own) hl hm) (by rintro _ _ ⟨_, _, _, rfl⟩; exact ⟨_, rfl⟩)).mono (by
   rintro _ _ ⟨_, ⟨a', c', h1, h2⟩, rfl⟩; cases h2; exact ⟨a', c', h1, rfl⟩)
end Go.Proofs.YtklgiidfompdpaaGreatDoor
namespace Go.Proofs.YtklgiidfompdpaaGreatDoor
open Go Go.Sl Go.Gv Go.Kv Go.Po Go.Ix Go.Qu Go.Shelf Go.Stb
set_option maxRecDepth 100000
set_option maxHeartbeats 1000000 in
theorem falg_spec {h0 : Hp} (T : TabY h0) {a : Option Addr} {c : Nat} {xs : List Rec} (hx : slR h0 5 recC a xs) (hxl : xs.length ≤ 9223372036854775807) {p q : AskV} (hp : ARd (ro h0) p) (hq : ARd (ro h0) q) :
   Ct Tryz.prog 4 [.slice a xs.length c, askV p, askV q] [ro h0] (fun v hs => v = .bool true ∧ hs = [ro h0]) := by
 have hTW : TabW (ro h0) := ⟨h0, T, Inn.refl⟩
 refine Cti Tryz.func4 (by kernel_rfl) 150 Tryz.ntmps4 rfl rfl fun w0 R => ?_
 refine Gsr (La rfl (ac_box rfl rfl) ?_)
 rintro _ _ ⟨pb, rfl, rfl⟩
 refine La rfl (ac_box rfl rfl) ?_
 rintro _ _ ⟨qb, rfl, rfl⟩
 refine Las rfl rfl (Lnt (Gs.seq (Gsr (Lmv rfl rfl (La rfl (asC (greatRecords_spec (Srd.ro hx) hxl 25)) ?_)))))
 rintro _ _ ⟨_, ⟨⟨g, rfl, hg⟩, rfl⟩, rfl⟩
 refine LpuB rfl rfl trivial (pu_move rfl) (fun hg2 => ?_) (fun hg2 => ?_)
 ·
  refine Lof rfl (Lof rfl (Lpk rfl rfl rfl (Lmv rfl rfl (Lof rfl (Lof rfl (Lpk rfl rfl rfl (Lnt (Gs.cond_t rfl (Gsr (La rfl (asC (awake17_spec T)) ?_))))))))))
  rintro _ _ ⟨_, ⟨rfl, rfl⟩, rfl⟩
  refine Las rfl rfl (Lnt (Gs.ret (Gr ?_)))
  exact Gs.fin1 Tryz.results4 rfl _ (⟨rfl, rfl⟩) (by repeat constructor)
 refine Lrd rfl rfl ⟨_, rfl, rfl⟩ (rd_lda ag_26 rfl (Rdc.cl 4 (by repeat constructor) rfl) rfl) ?_
 refine Lac rfl rfl ⟨_, rfl, rfl⟩ (asC (greatAsk_spec hp)) ?_
 rintro _ _ ⟨_, ⟨⟨g2, rfl, hgp⟩, rfl⟩, rfl⟩
 refine Lpk rfl rfl rfl (LpuB rfl rfl trivial (pu_move rfl) (fun hg6 => ?_) (fun hg6 => ?_))
 ·
  refine Lof rfl (Lof rfl (Lpk rfl rfl rfl (Lnt (Gs.cond_t rfl (Gsr (La rfl (asC (awake17_spec T)) ?_))))))
  rintro _ _ ⟨_, ⟨rfl, rfl⟩, rfl⟩
  refine Las rfl rfl (Lnt (Gs.ret (Gr ?_)))
  exact Gs.fin1 Tryz.results4 rfl _ (⟨rfl, rfl⟩) (by repeat constructor)
 refine Lrd rfl rfl ⟨_, rfl, rfl⟩ (rd_lda ag_26 rfl (Rdc.cl 4 (by repeat constructor) rfl) rfl) ?_
 refine Lac rfl rfl ⟨_, rfl, rfl⟩ (asC (greatAsk_spec hq)) ?_
 rintro _ _ ⟨_, ⟨⟨g3, rfl, hgq⟩, rfl⟩, rfl⟩
 refine Lpk rfl rfl rfl (Lnt (Gs.cond rfl (fun hc0 => ?_) (fun hc0 => ?_)))
 ·
  refine Gsr (La rfl (asC (awake17_spec T)) ?_)
  rintro _ _ ⟨_, ⟨rfl, rfl⟩, rfl⟩
  refine Las rfl rfl (Lnt (Gs.ret (Gr ?_)))
  exact Gs.fin1 Tryz.results4 rfl _ (⟨rfl, rfl⟩) (by repeat constructor)
 have hxs : xs.length ≤ 25 := by have := hg hg2; omega
 obtain ⟨hFp, hzp⟩ := hgp hg6
 obtain ⟨hFq, hzq⟩ := hgq hc0
 refine Gs.skip (Gn (Gsr (La rfl (asC (snew_spec)) ?_)))
 rintro _ _ ⟨_, ⟨x, rfl, rfl⟩, rfl⟩
 refine Las rfl rfl (Lnt (Gs.seq (Gsr (Lmv rfl rfl (Lq rfl (pu_eqN Tryz.underlying38 rfl rfl) (Lnt (Gs.cond_ff rfl rfl (Gs.skip (Gn (Gsr (Lmv rfl rfl ?_)))))))))))
 refine Lmv rfl rfl (La rfl (asC (sput_spec hTW.u x [] (Srd.ro hx) (by show 0 + xs.length ≤ 800; omega))) ?_)
 rintro _ _ ⟨_, ⟨_, ⟨rfl, rfl⟩, rfl⟩, rfl⟩
 refine Lnil ?_
 obtain ⟨L, hL⟩ : ∃ L, L = xs.foldl putR [] := ⟨_, rfl⟩
 rw [← hL]
 have hLl : L.length ≤ 25 := by have := (put_len [] xs).2; rw [← hL] at this; simp at this; omega
 obtain ⟨hn, hb⟩ := fold_put (L := []) List.nodup_nil (fun _ h => by cases h) xs
 rw [← hL] at hn hb
 refine Gn (Gsr (Lq rfl (pu_build bd_26 (by repeat constructor) rfl) ?_))
 refine La rfl (ac_alloc zv_26 rfl) ?_
 rintro _ _ ⟨sb, rfl, rfl⟩
 refine Lac0 rfl trivial (ac_st sz_26 rfl rfl (by repeat constructor) rfl rfl rfl rfl) ?_
 rintro _ _ rfl
 refine Lnt (Gsr (Lmv rfl rfl (Lr rfl (rd_lda ag_26 rfl (Rdc.cl 4 (by repeat constructor) rfl) rfl) ?_)))
 refine La rfl (asC (sKeys_spec x L (by omega) hTW.u (y := askS) askS_rd askS_few (by decide) (by decide))) ?_
 rintro _ _ ⟨_, ⟨aa, ac, al, rfl, hAl, rfl⟩, rfl⟩
 have hal : al.length = L.length := by
   have h1 := ((hAl.1 mayS).congr (g := fun _ => true) fun r hr => hold_S (hb r hr)).cnt hn
   rw [h1, List.filter_eq_self.2 fun _ _ => rfl]
 refine Las rfl rfl (Lnt (Gs.seq (Gs.regD mixed (by kernel_rfl) (Rmv 0 rfl (by kernel_rfl) rfl (Rr 1 rfl (by kernel_rfl) (rd_lda ag_26 rfl (Rdc.cl 4 (by repeat constructor) rfl) rfl) ?_)))))
 refine Rmv 3 rfl (by kernel_rfl) rfl (Rr 4 rfl (by kernel_rfl) (rd_lda ag_26 rfl (Rdc.cl 4 (by repeat constructor) rfl) rfl) ?_)
 refine Rg.one (by kernel_rfl) (Stp.acR 2 [4] rfl rfl (by kernel_rfl) trivial (asC (sKeys_spec x L (by omega) hTW.u hp hFp (by omega) (by decide))) (by rintro _ _ ⟨_, ⟨xa, xc, kx, rfl, hX, rfl⟩, rfl⟩; exact (Reads.cons rfl rfl rfl trivial rfl (rd_lda ag_26 rfl (Rdc.cl 4 (by repeat constructor) rfl) rfl) Reads.nil)) ?_)
 rintro _ _ ⟨_, ⟨xa, xc, kx, rfl, hX, rfl⟩, rfl⟩
 refine Rg.one (by kernel_rfl) (Stp.ac 5 rfl rfl (by kernel_rfl) trivial (asC (sKeys_spec x L (by omega) hTW.u hq hFq (by omega) (by decide)))  ?_)
 rintro _ _ ⟨_, ⟨ya, yc, ky, rfl, hY, rfl⟩, rfl⟩
 refine Rq 6 rfl (by kernel_rfl) (pu_assign rfl) (Rq 7 rfl (by kernel_rfl) (pu_assign rfl) (Rg.end (by kernel_rfl) ?_))
 have hxn := hX.len
 have hyn := hY.len
 refine Gn (Gsr (Lmv rfl rfl (Lr rfl (rd_lda ag_26 rfl (Rdc.cl 4 (by repeat constructor) rfl) rfl) ?_)))
 refine La rfl (ac_lit encC_26 ([p]) et_24 ek_26 rfl (by repeat constructor) rfl rfl (by decide)) ?_
 rintro _ _ ⟨a44, rfl, rfl⟩
 refine Lq rfl (pu_build bd_26 (by repeat constructor) rfl) ?_
 refine La rfl (asC (sKeys2_spec x L (by omega) (A := ro h0) (B := sl 26 4 askC (some ⟨a44, 0, none⟩) 1 [p]) hTW.u (y := askN a44 p) (askN_rd (Srd.two2 Srd.own) hp.two1) (askN_few hFp) (askN_size hzp) (by decide))) ?_
 rintro _ _ ⟨_, ⟨na, nc, kn, rfl, hN, rfl⟩, rfl⟩
 refine Las rfl rfl (Lnt (Gsr (Lmv rfl rfl (Lr rfl (rd_lda ag_26 rfl (Rdc.cl 4 (by repeat constructor) rfl) rfl) ?_))))
 refine Lr rfl (rd_lda ag_26 rfl (Rdc.cl 4 (by repeat constructor) rfl) rfl) ?_
 refine La rfl (ac_lit encC_26 ([p, q]) et_24 ek_26 rfl (by repeat constructor) rfl rfl (by decide)) ?_
 rintro _ _ ⟨a50, rfl, rfl⟩
 refine Lq rfl (pu_build bd_26 (by repeat constructor) rfl) ?_
 refine La rfl (asC (sKeys2_spec x L (by omega) (A := ro h0) (B := sl 26 4 askC (some ⟨a50, 0, none⟩) 2 [p, q]) hTW.u (y := askT 7 a50 p q) (askT_rd (Srd.two2 Srd.own) hp.two1 hq.two1) (askT_few hFp hFq) (askT_size hzp hzq) (by decide))) ?_
 rintro _ _ ⟨_, ⟨ea, ec, ke, rfl, hE, rfl⟩, rfl⟩
 refine Las rfl rfl (Lnt (Gsr (Lmv rfl rfl (Lr rfl (rd_lda ag_26 rfl (Rdc.cl 4 (by repeat constructor) rfl) rfl) ?_))))
 refine Lr rfl (rd_lda ag_26 rfl (Rdc.cl 4 (by repeat constructor) rfl) rfl) ?_
 refine La rfl (ac_lit encC_26 ([p, q]) et_24 ek_26 rfl (by repeat constructor) rfl rfl (by decide)) ?_
 rintro _ _ ⟨a56, rfl, rfl⟩
 refine Lq rfl (pu_build bd_26 (by repeat constructor) rfl) ?_
 refine La rfl (asC (sKeys2_spec x L (by omega) (A := ro h0) (B := sl 26 4 askC (some ⟨a56, 0, none⟩) 2 [p, q]) hTW.u (y := askT 8 a56 p q) (askT_rd (Srd.two2 Srd.own) hp.two1 hq.two1) (askT_few hFp hFq) (askT_size hzp hzq) (by decide))) ?_
 rintro _ _ ⟨_, ⟨oa, oc, ko, rfl, hO, rfl⟩, rfl⟩
 refine Las rfl rfl (Lnil ?_)
 have hnn := hN.len
 have hen := hE.len
 have hon := hO.len
 refine Gn (Gs.seq (Gs.seq (Gs.cut (E := [(7, ptr x), (9, .slice aa al.length ac), (10, .slice xa kx.length xc), (11, .slice ya ky.length yc), (12, .slice na kn.length nc), (13, .slice ea ke.length ec), (14, .slice oa ko.length oc), (80, .bool false)]) (I := [shA x L, ro h0, sl 28 2 keyC aa ac al, sl 28 2 keyC xa xc kx, sl 28 2 keyC ya yc ky, sl 28 2 keyC na nc kn, sl 28 2 keyC ea ec ke, sl 28 2 keyC oa oc ko] ++ R) ?_ ?_)))
 ·
  refine Gs.reg (Lmv rfl rfl (Lq rfl (pu_len Tryz.underlying48 rfl) (Lq rfl (pu_gt rfl rfl) (LpuB rfl rfl trivial (pu_move rfl) (fun hg3 => ?_) (fun hg3 => ?_)))))
  ·
   obtain ⟨hm, hK⟩ := hN.pos (by have := of_decide_eq_true hg3; omega)
   obtain ⟨h1, h2⟩ := alg_not hn (hK.congr fun r _ => hold_N r) (hX.1 (may_not hm))
   refine Lpu rfl rfl ⟨_, rfl, rfl⟩ (pu_move rfl) (Lpu rfl rfl ⟨_, rfl, rfl⟩ (pu_len Tryz.underlying48 rfl) (Lpu rfl rfl ⟨_, rfl, rfl⟩ (pu_move rfl) (Lpu rfl rfl ⟨_, rfl, rfl⟩ (pu_len Tryz.underlying48 rfl) (Lpu rfl rfl ⟨_, rfl, rfl⟩ (pu_addI (z := ((kn.length + kx.length : Nat) : Int)) rfl rfl (by omega) (by omega) (by omega)) ?_))))
   refine Lpu rfl rfl ⟨_, rfl, rfl⟩ (pu_move rfl) (Lpu rfl rfl ⟨_, rfl, rfl⟩ (pu_len Tryz.underlying48 rfl) (Lpu rfl rfl ⟨_, rfl, rfl⟩ (pu_ne rfl rfl) (LpuBf rfl rfl ⟨_, rfl, rfl⟩ (pu_move rfl) (decide_eq_false (fun h => h (by omega))) ?_)))
   refine Lpu rfl rfl ⟨_, rfl, rfl⟩ (pu_move rfl) (Lpu rfl rfl ⟨_, rfl, rfl⟩ (pu_move rfl) (Lac rfl rfl ⟨_, rfl, rfl⟩ (asC (lessKK_spec (xs := kn) (ys := kx) (by omega) (by omega))) ?_))
   rintro _ _ ⟨_, ⟨wa, wc, rfl, rfl⟩, rfl⟩
   refine Lpu rfl rfl ⟨_, rfl, rfl⟩ (pu_len Tryz.underlying48 rfl) (Lpu rfl rfl ⟨_, rfl, rfl⟩ (pu_move rfl) (Lpu rfl rfl ⟨_, rfl, rfl⟩ (pu_len Tryz.underlying48 rfl) (Lpu rfl rfl ⟨_, rfl, rfl⟩ (pu_ne rfl rfl) ?_)))
   rw [show decide ((((lessK kn kx).length : Nat) : Int) ≠ ((kn.length : Nat) : Int)) = false from decide_eq_false (fun h => h (by omega))]
   refine Lpu rfl rfl ⟨_, rfl, rfl⟩ (by first | exact pu_pick_t rfl rfl | exact pu_pick_f rfl rfl) ?_
   refine Lpk rfl rfl rfl (Lnt ?_)
   exact Gs.cutEnd (by repeat constructor) (by repeat constructor)
  refine Lof rfl (Lof rfl (Lof rfl (Lof rfl (Lof rfl (Lof rfl (Lof rfl (Lof rfl (Lof rfl (LoffU rfl rfl rfl rfl rfl (LoffU rfl rfl rfl rfl rfl (LoffU rfl rfl rfl rfl rfl ?_)))))))))))
  refine LoffU rfl rfl rfl rfl rfl (LoffU rfl rfl rfl rfl rfl (LoffU rfl rfl rfl rfl rfl (LoffU rfl rfl rfl rfl rfl (Lof rfl (Lpk rfl rfl rfl (Lnt ?_))))))
  exact Gs.cutEnd (by repeat constructor) (by repeat constructor)
 refine Gs.cond_ff rfl rfl (Gs.skip (Gn (Gs.seq (Gs.seq (Gs.cut (E := [(7, ptr x), (9, .slice aa al.length ac), (10, .slice xa kx.length xc), (11, .slice ya ky.length yc), (12, .slice na kn.length nc), (13, .slice ea ke.length ec), (14, .slice oa ko.length oc), (109, .bool false)]) (I := [shA x L, ro h0, sl 28 2 keyC aa ac al, sl 28 2 keyC xa xc kx, sl 28 2 keyC ya yc ky, sl 28 2 keyC na nc kn, sl 28 2 keyC ea ec ke, sl 28 2 keyC oa oc ko] ++ R) ?_ ?_)))))
 ·
  refine Gs.reg (Lmv rfl rfl (Lq rfl (pu_len Tryz.underlying48 rfl) (Lq rfl (pu_gt rfl rfl) (LpuB rfl rfl trivial (pu_move rfl) (fun hg3 => ?_) (fun hg3 => ?_)))))
  ·
   obtain ⟨hm, hK⟩ := hE.pos (by have := of_decide_eq_true hg3; omega)
   obtain ⟨h1, h2, h3⟩ := alg_and hn (hK.congr fun r _ => hold_And r) (hX.1 (may_two hm).1) (hY.1 (may_two hm).2)
   refine Lpu rfl rfl ⟨_, rfl, rfl⟩ (pu_move rfl) (Lpu rfl rfl ⟨_, rfl, rfl⟩ (pu_move rfl) (Lac rfl rfl ⟨_, rfl, rfl⟩ (asC (lessKK_spec (xs := ke) (ys := kx) (by omega) (by omega))) ?_))
   rintro _ _ ⟨_, ⟨wa, wc, rfl, rfl⟩, rfl⟩
   refine Lpu rfl rfl ⟨_, rfl, rfl⟩ (pu_len Tryz.underlying48 rfl) (Lpu rfl rfl ⟨_, rfl, rfl⟩ (pu_ne rfl rfl) (LpuBf rfl rfl ⟨_, rfl, rfl⟩ (pu_move rfl) (decide_eq_false (fun h => h (by omega))) ?_))
   refine Lpu rfl rfl ⟨_, rfl, rfl⟩ (pu_move rfl) (Lpu rfl rfl ⟨_, rfl, rfl⟩ (pu_move rfl) (Lac rfl rfl ⟨_, rfl, rfl⟩ (asC (lessKK_spec (xs := ke) (ys := ky) (by omega) (by omega))) ?_))
   rintro _ _ ⟨_, ⟨va, vc, rfl, rfl⟩, rfl⟩
   refine Lpu rfl rfl ⟨_, rfl, rfl⟩ (pu_len Tryz.underlying48 rfl) (Lpu rfl rfl ⟨_, rfl, rfl⟩ (pu_ne rfl rfl) (Lpu rfl rfl ⟨_, rfl, rfl⟩ (by first | exact pu_pick_t rfl rfl | exact pu_pick_f rfl rfl) ?_))
   refine LpuBf rfl rfl ⟨_, rfl, rfl⟩ (pu_move rfl) (decide_eq_false (fun h => h (by omega))) ?_
   refine Lpu rfl rfl ⟨_, rfl, rfl⟩ (pu_move rfl) (Lpu rfl rfl ⟨_, rfl, rfl⟩ (pu_len Tryz.underlying48 rfl) (Lpu rfl rfl ⟨_, rfl, rfl⟩ (pu_move rfl) (Lpu rfl rfl ⟨_, rfl, rfl⟩ (pu_len Tryz.underlying48 rfl) (Lpu rfl rfl ⟨_, rfl, rfl⟩ (pu_move rfl) (Lpu rfl rfl ⟨_, rfl, rfl⟩ (pu_move rfl) (Lac rfl rfl ⟨_, rfl, rfl⟩ (asC (lessKK_spec (xs := kx) (ys := ky) (by omega) (by omega))) ?_))))))
   rintro _ _ ⟨_, ⟨ua, uc, rfl, rfl⟩, rfl⟩
   refine Lpu rfl rfl ⟨_, rfl, rfl⟩ (pu_len Tryz.underlying48 rfl) (Lpu rfl rfl ⟨_, rfl, rfl⟩ (pu_subI (z := (ke.length : Int)) rfl rfl (by omega) (by omega) (by omega)) ?_)
   refine Lpu rfl rfl ⟨_, rfl, rfl⟩ (pu_ne rfl rfl) ?_
   rw [show decide (((ke.length : Nat) : Int) ≠ ((ke.length : Nat) : Int)) = false from decide_eq_false (fun h => h rfl)]
   refine Lpu rfl rfl ⟨_, rfl, rfl⟩ (by first | exact pu_pick_t rfl rfl | exact pu_pick_f rfl rfl) ?_
   refine Lpk rfl rfl rfl (Lnt ?_)
   exact Gs.cutEnd (by repeat constructor) (by repeat constructor)
  refine Lof rfl (Lof rfl (Lof rfl (Lof rfl (Lof rfl (Lof rfl (LoffU rfl rfl rfl rfl rfl (LoffU rfl rfl rfl rfl rfl (LoffU rfl rfl rfl rfl rfl (LoffU rfl rfl rfl rfl rfl (LoffU rfl rfl rfl rfl rfl (Lof rfl ?_)))))))))))
  refine Lof rfl (LoffU rfl rfl rfl rfl rfl (LoffU rfl rfl rfl rfl rfl (LoffU rfl rfl rfl rfl rfl (LoffU rfl rfl rfl rfl rfl (LoffU rfl rfl rfl rfl rfl (LoffU rfl rfl rfl rfl rfl (LoffU rfl rfl rfl rfl rfl (LoffU rfl rfl rfl rfl rfl (LoffU rfl rfl rfl rfl rfl (LoffU rfl rfl rfl rfl rfl (Lof rfl ?_)))))))))))
  refine Lpk rfl rfl rfl (Lnt ?_)
  exact Gs.cutEnd (by repeat constructor) (by repeat constructor)
 refine Gs.cond_ff rfl rfl (Gs.skip (Gn (Gsr (Lmv rfl rfl (Lq rfl (pu_len Tryz.underlying48 rfl) (Lq rfl (pu_eq rfl rfl) (LpuB rfl rfl trivial (pu_move rfl) (fun hg3 => ?_) (fun hg3 => ?_))))))))
 ·
  refine Lof rfl (Lof rfl (Lof rfl (Lof rfl (Lof rfl (Lof rfl (LoffU rfl rfl rfl rfl rfl (LoffU rfl rfl rfl rfl rfl (LoffU rfl rfl rfl rfl rfl (LoffU rfl rfl rfl rfl rfl (LoffU rfl rfl rfl rfl rfl (Lof rfl ?_)))))))))))
  refine Lof rfl (LoffU rfl rfl rfl rfl rfl (LoffU rfl rfl rfl rfl rfl (LoffU rfl rfl rfl rfl rfl (LoffU rfl rfl rfl rfl rfl (LoffU rfl rfl rfl rfl rfl (LoffU rfl rfl rfl rfl rfl (LoffU rfl rfl rfl rfl rfl (LoffU rfl rfl rfl rfl rfl (LoffU rfl rfl rfl rfl rfl (LoffU rfl rfl rfl rfl rfl (Lof rfl ?_)))))))))))
  refine Lpk rfl rfl rfl (LpuBt rfl rfl trivial (pu_move rfl) (by first | rfl | exact decide_eq_true rfl | exact decide_eq_true (by omega)) ?_)
  refine Lpu rfl rfl ⟨_, rfl, rfl⟩ (pu_move rfl) (Lpu rfl rfl ⟨_, rfl, rfl⟩ (pu_len Tryz.underlying48 rfl) (Lpu rfl rfl ⟨_, rfl, rfl⟩ (pu_move rfl) (Lac rfl rfl ⟨_, rfl, rfl⟩ (asC (srecs_spec x L (by omega))) ?_)))
  rintro _ _ ⟨_, ⟨ra, rc, ks, rfl, hS, rfl⟩, rfl⟩
  have hsl := hS.cnt hn
  rw [List.filter_eq_self.2 fun _ _ => rfl] at hsl
  rw [ofR_len, hsl]
  refine Lpu rfl rfl ⟨_, rfl, rfl⟩ (pu_len Tryz.underlying41 rfl) (Lpu rfl rfl ⟨_, rfl, rfl⟩ (pu_eq rfl rfl) (Lpk rfl rfl rfl (LpuBt rfl rfl trivial (pu_move rfl) (decide_eq_true (by omega)) (Lac rfl rfl ⟨_, rfl, rfl⟩ (asC (awake17_spec T)) ?_))))
  rintro _ _ ⟨_, ⟨rfl, rfl⟩, rfl⟩
  refine Lpk rfl rfl rfl (Las rfl rfl (Lnt (Gs.ret ?_)))
  exact Gs.fin1 Tryz.results4 rfl _ (⟨rfl, rfl⟩) (by repeat constructor)
 obtain ⟨hm, hK⟩ := hO.pos (by have := of_decide_eq_false hg3; omega)
 obtain ⟨h1, h2, h3⟩ := alg_or hn (hK.congr fun r _ => hold_Or r) (hX.1 (may_two hm).1) (hY.1 (may_two hm).2)
 refine Lpu rfl rfl ⟨_, rfl, rfl⟩ (pu_move rfl) (Lpu rfl rfl ⟨_, rfl, rfl⟩ (pu_move rfl) (Lac rfl rfl ⟨_, rfl, rfl⟩ (asC (lessKK_spec (xs := kx) (ys := ko) (by omega) (by omega))) ?_))
 rintro _ _ ⟨_, ⟨wa, wc, rfl, rfl⟩, rfl⟩
 refine Lpu rfl rfl ⟨_, rfl, rfl⟩ (pu_len Tryz.underlying48 rfl) (Lpu rfl rfl ⟨_, rfl, rfl⟩ (pu_eq rfl rfl) (LpuBt rfl rfl ⟨_, rfl, rfl⟩ (pu_move rfl) (decide_eq_true (by omega)) (Lpu rfl rfl ⟨_, rfl, rfl⟩ (pu_move rfl) (Lpu rfl rfl ⟨_, rfl, rfl⟩ (pu_move rfl) (Lac rfl rfl ⟨_, rfl, rfl⟩ (asC (lessKK_spec (xs := ky) (ys := ko) (by omega) (by omega))) ?_)))))
 rintro _ _ ⟨_, ⟨va, vc, rfl, rfl⟩, rfl⟩
 refine Lpu rfl rfl ⟨_, rfl, rfl⟩ (pu_len Tryz.underlying48 rfl) (Lpu rfl rfl ⟨_, rfl, rfl⟩ (pu_eq rfl rfl) (Lpu rfl rfl ⟨_, rfl, rfl⟩ (by first | exact pu_pick_t rfl rfl | exact pu_pick_f rfl rfl) ?_))
 refine LpuBt rfl rfl ⟨_, rfl, rfl⟩ (pu_move rfl) (decide_eq_true (by omega)) (Lpu rfl rfl ⟨_, rfl, rfl⟩ (pu_move rfl) (Lpu rfl rfl ⟨_, rfl, rfl⟩ (pu_len Tryz.underlying48 rfl) (Lpu rfl rfl ⟨_, rfl, rfl⟩ (pu_move rfl) (Lpu rfl rfl ⟨_, rfl, rfl⟩ (pu_len Tryz.underlying48 rfl) (Lpu rfl rfl ⟨_, rfl, rfl⟩ (pu_move rfl) (Lpu rfl rfl ⟨_, rfl, rfl⟩ (pu_move rfl) (Lac rfl rfl ⟨_, rfl, rfl⟩ (asC (lessKK_spec (xs := ky) (ys := kx) (by omega) (by omega))) ?_)))))))
 rintro _ _ ⟨_, ⟨ua, uc, rfl, rfl⟩, rfl⟩
 refine Lpu rfl rfl ⟨_, rfl, rfl⟩ (pu_len Tryz.underlying48 rfl) (Lpu rfl rfl ⟨_, rfl, rfl⟩ (pu_addI (z := (ko.length : Int)) rfl rfl (by omega) (by omega) (by omega)) ?_)
 refine Lpu rfl rfl ⟨_, rfl, rfl⟩ (pu_eq rfl rfl) (Lpu rfl rfl ⟨_, rfl, rfl⟩ (by first | exact pu_pick_t rfl rfl | exact pu_pick_f rfl rfl) ?_)
 refine Lpk rfl rfl rfl (LpuBt rfl rfl trivial (pu_move rfl) (by first | rfl | exact decide_eq_true rfl | exact decide_eq_true (by omega)) ?_)
 refine Lpu rfl rfl ⟨_, rfl, rfl⟩ (pu_move rfl) (Lpu rfl rfl ⟨_, rfl, rfl⟩ (pu_len Tryz.underlying48 rfl) (Lpu rfl rfl ⟨_, rfl, rfl⟩ (pu_move rfl) (Lac rfl rfl ⟨_, rfl, rfl⟩ (asC (srecs_spec x L (by omega))) ?_)))
 rintro _ _ ⟨_, ⟨ra, rc, ks, rfl, hS, rfl⟩, rfl⟩
 have hsl := hS.cnt hn
 rw [List.filter_eq_self.2 fun _ _ => rfl] at hsl
 rw [ofR_len, hsl]
 refine Lpu rfl rfl ⟨_, rfl, rfl⟩ (pu_len Tryz.underlying41 rfl) (Lpu rfl rfl ⟨_, rfl, rfl⟩ (pu_eq rfl rfl) (Lpk rfl rfl rfl (LpuBt rfl rfl trivial (pu_move rfl) (decide_eq_true (by omega)) (Lac rfl rfl ⟨_, rfl, rfl⟩ (asC (awake17_spec T)) ?_))))
 rintro _ _ ⟨_, ⟨rfl, rfl⟩, rfl⟩
 refine Lpk rfl rfl rfl (Las rfl rfl (Lnt (Gs.ret ?_)))
 exact Gs.fin1 Tryz.results4 rfl _ (⟨rfl, rfl⟩) (by repeat constructor)
end Go.Proofs.YtklgiidfompdpaaGreatDoor
namespace Go.Proofs.YtklgiidfompdpaaGreatDoor
open Go Go.Sl Go.ChangeShapes Go.WideShapes Go.ChangeAt Go.RowKit Go.Lib Go.Shelf
set_option maxRecDepth 100000
theorem own : ownKnob Tryz.prog.godebug = none := by kernel_rfl
theorem laidOut : laidOutB Tryz.prog = true := by kernel_rfl
abbrev laidList : List (String × DataW Unit) := [("math/bits.deBruijn32tab", Rows.laid_math_bits_deBruijn32tab), ("math/bits.deBruijn64tab", Rows.laid_math_bits_deBruijn64tab), ("internal/strconv.uint64pow10", Rows.laid_internal_strconv_uint64pow10), ("unicode/utf8.acceptRanges", acceptData), ("unicode.properties", Lib.tabData .u8 Lib.propertiesTab)] ++ [("unicode.CaseRanges", caseData)] ++ [("unicode.Digit", rtabData digitT)] ++ [("unicode.Letter", rtabData letterT)] ++ [("unicode/utf8.first", firstData)]
theorem xL : RExtra Tryz.prog Tryz.laysLetter_ren := ⟨by kernel_rfl, by kernel_rfl, by kernel_rfl, by kernel_rfl, by kernel_rfl, by kernel_rfl, by kernel_rfl, by kernel_rfl⟩
theorem xD : RExtra Tryz.prog Tryz.laysDigit_ren := ⟨by kernel_rfl, by kernel_rfl, by kernel_rfl, by kernel_rfl, by kernel_rfl, by kernel_rfl, by kernel_rfl, by kernel_rfl⟩
theorem xC : CaseExtra Tryz.prog Tryz.laysLower_ren := ⟨by kernel_rfl, by kernel_rfl, by kernel_rfl, by kernel_rfl, by kernel_rfl, by kernel_rfl⟩
theorem cT : Go.Great.CTypes Tryz.prog 243 297 295 193 21 := ⟨by kernel_rfl, by kernel_rfl, by kernel_rfl, by kernel_rfl, by kernel_rfl, by kernel_rfl, by kernel_rfl, by kernel_rfl, by kernel_rfl⟩
noncomputable abbrev N0 : Nat := (World.settled Tryz.prog default).heap.size
noncomputable def laidWorld (os : Os) : World :=
 let N := (World.settled Tryz.prog os).heap.size
 let ρ := Tryz.laysLetter_ren
 let w0 := World.holding Tryz.prog os ⟨#[
   .cells (rgCells .u16 letterT.r16) (ρ.t 198), .cells (rgCells .u32 letterT.r32) (ρ.t 201),
   .cells #[.slice (some ⟨N, 0, none⟩) letterT.r16.size letterT.r16.size, .slice (some ⟨N + 1, 0, none⟩) letterT.r32.size letterT.r32.size, .int .i64 letterT.off] (ρ.t 196),
   .cells (rgCells .u16 digitT.r16) (ρ.t 198), .cells (rgCells .u32 digitT.r32) (ρ.t 201),
   .cells #[.slice (some ⟨N + 3, 0, none⟩) digitT.r16.size digitT.r16.size, .slice (some ⟨N + 4, 0, none⟩) digitT.r32.size digitT.r32.size, .int .i64 digitT.off] (ρ.t 196),
   .cells (caseT.flatMap Lib.cells5).toArray 297], #[], []⟩
 let put (h : Array Obj) (g : Nat) (cs : Array Value) : Array Obj := h.modify g fun
   | .cells _ t frozen => .cells cs t frozen
   | o => o
 let h1 := put w0.heap 0 (Go.Pinned.utf8FirstZ.map fun (z : Nat) => Value.int .u8 z).toArray
 let h2 := put h1 1 ((List.range 16).flatMap fun i => [Value.int .u8 (Lib.accLo i), Value.int .u8 (Lib.accHi i)]).toArray
 let h3 := put h2 2 (Lib.propertiesTab.map fun z => Value.int .u8 z).toArray
 let h4 := put h3 3 #[.pointer (some ⟨N + 2, 0, none⟩)]
 let h5 := put h4 4 #[.pointer (some ⟨N + 5, 0, none⟩)]
 let h6 := put h5 5 #[.slice (some ⟨N + 6, 0, none⟩) caseT.length caseT.length]
 let h7 := put h6 8 (([0, 1, 28, 2, 29, 14, 24, 3, 30, 22, 20, 15, 25, 17, 4, 8, 31, 27, 13, 23, 21, 19, 16, 7, 26, 12, 18, 6, 11, 5, 10, 9] : List Int).map fun z => Value.int .u8 z).toArray
 let h8 := put h7 9 (([0, 1, 56, 2, 57, 49, 28, 3, 61, 58, 42, 50, 38, 29, 17, 4, 62, 47, 59, 36, 45, 43, 51, 22, 53, 39, 33, 30, 24, 18, 12, 5, 63, 55, 48, 27, 60, 41, 37, 16, 46, 35, 44, 21, 52, 32, 23, 11, 54, 26, 40, 15, 34, 20, 31, 10, 25, 14, 19, 9, 13, 8, 7, 6] : List Int).map fun z => Value.int .u8 z).toArray
 let h9 := put h8 6 (([1, 10, 100, 1000, 10000, 100000, 1000000, 10000000, 100000000, 1000000000, 10000000000, 100000000000, 1000000000000, 10000000000000, 100000000000000, 1000000000000000, 10000000000000000, 100000000000000000, 1000000000000000000, 10000000000000000000] : List Int).map fun z => Value.int .u64 z).toArray
 { w0 with heap := h9 }
noncomputable abbrev lw (os : Os) (args : Array Value) : World := ((laidWorld os).forCall (fun _ _ => 0) ⟨#[], args, []⟩).memory
theorem piece0 (os : Os) (args : Array Value) : LaidIn Tryz.prog (lw os args) [("math/bits.deBruijn32tab", Rows.laid_math_bits_deBruijn32tab), ("math/bits.deBruijn64tab", Rows.laid_math_bits_deBruijn64tab), ("internal/strconv.uint64pow10", Rows.laid_internal_strconv_uint64pow10), ("unicode/utf8.acceptRanges", acceptData), ("unicode.properties", Lib.tabData .u8 Lib.propertiesTab)] [8, 9, 6, 1, 2] :=
 LaidIn.of_run _ 8 (by kernel_rfl) (by kernel_rfl) (by kernel_rfl) (by kernel_rfl)
theorem piece1 (os : Os) (args : Array Value) : LaidIn Tryz.prog (lw os args) [("unicode.CaseRanges", caseData)] [5, N0 + 6] :=
 Go.Great.laidIn_case cT (g := 5) (B := N0 + 6) (tg := 243) (tb := 297) caseT (by kernel_rfl) (by kernel_rfl) (of_decide_eq_true (by kernel_rfl)) (by kernel_rfl) (by kernel_rfl) (by kernel_rfl) (of_decide_eq_true (by kernel_rfl))
theorem piece2 (os : Os) (args : Array Value) : LaidIn Tryz.prog (lw os args) [("unicode.Digit", rtabData digitT)] [4, N0 + 5, N0 + 3, N0 + 4] :=
 laidIn_rtab (ρ := Tryz.laysDigit_ren) { Tryz.laysDigit with } xD (by kernel_rfl) (by kernel_rfl) digitT (N0 + 5) (N0 + 3) (N0 + 4) (Tryz.laysDigit_ren.t 198) (Tryz.laysDigit_ren.t 201)
   (by kernel_rfl) (by kernel_rfl) (by kernel_rfl) (by kernel_rfl) (by kernel_rfl) (of_decide_eq_true (by kernel_rfl)) (of_decide_eq_true (by kernel_rfl)) (of_decide_eq_true (by kernel_rfl))
theorem piece3 (os : Os) (args : Array Value) : LaidIn Tryz.prog (lw os args) [("unicode.Letter", rtabData letterT)] [3, N0 + 2, N0, N0 + 1] :=
 laidIn_rtab (ρ := Tryz.laysLetter_ren) { Tryz.laysLetter with } xL (by kernel_rfl) (by kernel_rfl) letterT (N0 + 2) N0 (N0 + 1) (Tryz.laysLetter_ren.t 198) (Tryz.laysLetter_ren.t 201)
   (by kernel_rfl) (by kernel_rfl) (by kernel_rfl) (by kernel_rfl) (by kernel_rfl) (of_decide_eq_true (by kernel_rfl)) (of_decide_eq_true (by kernel_rfl)) (of_decide_eq_true (by kernel_rfl))
theorem piece4 (os : Os) (args : Array Value) : LaidIn Tryz.prog (lw os args) [("unicode/utf8.first", firstData)] [0] :=
 LaidIn.of_run [0] 8 (by kernel_rfl) (by kernel_rfl) (by kernel_rfl) (by kernel_rfl)
theorem laid_all (os : Os) (args : Array Value) : laidMet Tryz.prog laidList (lw os args) :=
 (((((piece0 os args).append (piece1 os args) (by kernel_rfl)).append (piece2 os args) (by kernel_rfl)).append (piece3 os args) (by kernel_rfl)).append (piece4 os args) (by kernel_rfl)).met
theorem cell_le {W w : World} (h : Hp.le (whole W) w) {a : Addr} {v : Value} (e : W.cell? a = some v) : w.cell? a = some v := by
 cases hb : W.heap[a.block]? with
 | none => simp [World.cell?, hb] at e
 | some o =>
   have : w.heap[a.block]? = some o := h a.block o (by simp [whole, hb])
   rw [← e]; simp [World.cell?, hb, this]
theorem var_le {W w : World} (h : Hp.le (whole W) w) {n : String} {cs : Array Value} (e : W.var? Tryz.prog n = some cs) : w.var? Tryz.prog n = some cs := by
 unfold World.var? at e ⊢
 cases hg : Tryz.prog.globalNamed n with
 | none => rw [hg] at e; cases e
 | some g =>
   rw [hg] at e
   simp only [Option.bind_some] at e ⊢
   cases hb : W.heap[g]? with
   | none => rw [hb] at e; cases e
   | some o =>
     rw [hb] at e
     rw [h g o (by simp [whole, hb])]; exact e
theorem rgTab_le {W w : World} (h : Hp.le (whole W) w) {k : IntKind} {R oR : Nat} {T : Array Rg} (e : RgTab k R oR T W) : RgTab k R oR T w := fun i hi => ⟨cell_le h (e i hi).1, cell_le h (e i hi).2.1, cell_le h (e i hi).2.2⟩
theorem rvar_le {W w : World} (h : Hp.le (whole W) w) {g : Nat} {T : RTab} (e : RVar g T W) : RVar g T w := by
 obtain ⟨Tb, oT, h0, a16, a32, R16, o16, c16, R32, o32, c32, h1, h2, h3, h4, h5, h6, h7, h8⟩ := e
 exact ⟨Tb, oT, cell_le h h0, a16, a32, R16, o16, c16, R32, o32, c32, cell_le h h1, cell_le h h2, cell_le h h3, h4, h5, rgTab_le h h6, rgTab_le h h7, h8⟩
theorem case_le {W w : World} (h : Hp.le (whole W) w) {g : Nat} {T : Array CaseRow} (e : CaseVar g T W) : CaseVar g T w := by
 obtain ⟨R, oR, cap, h1, h2⟩ := e
 exact ⟨R, oR, cap, cell_le h h1, fun i hi => ⟨cell_le h (h2 i hi).1, cell_le h (h2 i hi).2.1, cell_le h (h2 i hi).2.2.1, cell_le h (h2 i hi).2.2.2.1, cell_le h (h2 i hi).2.2.2.2⟩⟩
theorem tabs_of {W : World} (hL : laidMet Tryz.prog laidList W) : TabY (whole W) := by
 have h1 := Lib.laidMet.reads hL (.tail _ (.tail _ (.tail _ (.head _))))
 have h2 := Lib.laidMet.reads hL (.tail _ (.tail _ (.tail _ (.tail _ (.tail _ (.tail _ (.tail _ (.tail _ (.head _)))))))))
 have hp := Lib.laidMet.reads hL (.tail _ (.tail _ (.tail _ (.tail _ (.head _)))))
 have hw := Lib.laidMet.reads hL (.tail _ (.tail _ (.head _)))
 have hc := Lib.laidMet.reads hL (.tail _ (.tail _ (.tail _ (.tail _ (.tail _ (.head _))))))
 have hd := Lib.laidMet.reads hL (.tail _ (.tail _ (.tail _ (.tail _ (.tail _ (.tail _ (.head _)))))))
 have hl := Lib.laidMet.reads hL (.tail _ (.tail _ (.tail _ (.tail _ (.tail _ (.tail _ (.tail _ (.head _))))))))
 have h : Lib.Utf8Tabs (Tryz.laysValid_ren.g 3) (Tryz.laysValid_ren.g 4) W := utf8Tabs_of_readsT (U8Types.of196 Tryz.laysValid) ⟨by kernel_rfl, by kernel_rfl, by kernel_rfl, by kernel_rfl, by kernel_rfl, by kernel_rfl, by kernel_rfl⟩ h2 h1
 have hP : Lib.TabIs Tryz.prog W "unicode.properties" .u8 Lib.propertiesTab := by
   obtain ⟨g, t, cs, fuel, p, hg, hty, hvar, hdd⟩ := hp
   have eg : Tryz.prog.globalNamed "unicode.properties" = some 2 := by kernel_rfl
   have et : (Tryz.prog.globals[2]?).map (·.type) = some 189 := by kernel_rfl
   obtain rfl := Option.some.inj (eg.symm.trans hg)
   obtain rfl := Option.some.inj (et.symm.trans hty)
   unfold Lib.TabIs
   rw [hvar, ← cells_of_tab Tryz.underlying189 Tryz.underlying5 (by kernel_rfl) (by kernel_rfl) hdd]
 have hW : Lib.TabIs Tryz.prog W "internal/strconv.uint64pow10" .u64 Lib.pow10Tab := by
   obtain ⟨g, t, cs, fuel, p, hg, hty, hvar, hdd⟩ := hw
   have eg : Tryz.prog.globalNamed "internal/strconv.uint64pow10" = some 6 := by kernel_rfl
   have et : (Tryz.prog.globals[6]?).map (·.type) = some 309 := by kernel_rfl
   obtain rfl := Option.some.inj (eg.symm.trans hg)
   obtain rfl := Option.some.inj (et.symm.trans hty)
   rw [show (Rows.laid_internal_strconv_uint64pow10 : DataW Unit) = Lib.tabData .u64 Lib.pow10Tab by kernel_rfl] at hdd
   unfold Lib.TabIs
   rw [hvar, ← cells_of_tab Tryz.underlying309 Tryz.underlying229 (by kernel_rfl) (by kernel_rfl) hdd]
 have hLt := rvar_of_reads { Tryz.laysLetter with } xL (g := Tryz.laysLetter_ren.g 8) (by kernel_rfl) (by kernel_rfl) hl
 have hDt := rvar_of_reads { Tryz.laysDigit with } xD (g := Tryz.laysDigit_ren.g 5) (by kernel_rfl) (by kernel_rfl) hd
 have hCt := caseVar_of_reads { Tryz.laysLower with } (by kernel_rfl) xC hc
 exact ⟨⟨fun w hle => ⟨fun c hc => cell_le hle (h.1 c hc), fun i hi => ⟨cell_le hle (h.2 i hi).1, cell_le hle (h.2 i hi).2⟩⟩, fun w hle => ⟨var_le hle hP, rvar_le hle hLt, rvar_le hle hDt, case_le hle hCt⟩⟩, fun w hle => var_le hle hW⟩
theorem calls_of {P : Program} {f : FuncId} {args : List Value} {W : World} (c : Ct P f args [ro (whole W)] (fun v hs => v = .bool true ∧ hs = [ro (whole W)])) :
   Calls P f args.toArray W fun e W' => e = .returned (.bool true) ∧ Below W.heap.size W W' :=
 (c.calls W W [] (Sat.start W)).mono fun e W' ⟨v, hs, he, ⟨hv, hhs⟩, hsat⟩ => by
   subst hv; subst hhs
   exact ⟨he, Sat.below hsat⟩
end Go.Proofs.YtklgiidfompdpaaGreatDoor
namespace Go.Sl
open Go
def OpnB (N : Nat) (P : Program) (W : World) (t : TypeId) {α : Type} (enc : α → List Value) (good : α → Prop) : Prop :=
 ∀ (H : Type) (e : TypeId × Value → H) (fuel : Nat) (cs : List Value) (x : DataW H × List MemPlace), fuel ≤ N → DataW.trod e P W 0 (fun _ => true) true fuel t cs = some x → ∃ a, cs = enc a ∧ good a
def OpnFB (N : Nat) (P : Program) (W : World) (fs : List Field) (k n : Nat) {α : Type} (enc : α → List Value) (good : α → Prop) : Prop :=
 ∀ (H : Type) (e : TypeId × Value → H) (fuel : Nat) (cs : List Value), fuel ≤ N → (∀ f ∈ fs, ∃ x, DataW.trod e P W 0 (fun _ => true) true fuel f.type ((cs.drop f.offset).take (P.cellsOf f.type)) = some x) → cs.length = k + n → ∃ a, cs.drop k = enc a ∧ good a
section
variable {N : Nat} {P : Program} {W : World} {t : TypeId}
theorem Opn.b {α : Type} {enc : α → List Value} {good : α → Prop} (h : Opn P W t enc good) : OpnB N P W t enc good := fun H e fuel cs x _ hx => h H e fuel cs x hx
theorem OpnB.map {α β : Type} {enc : α → List Value} {good : α → Prop} {enc' : β → List Value} {good' : β → Prop} (f : α → β) (h : OpnB N P W t enc good) (he : ∀ a, enc a = enc' (f a)) (hg : ∀ a, good a → good' (f a)) : OpnB N P W t enc' good' := fun H e fuel cs x hN hx => by
 obtain ⟨a, h1, h2⟩ := h H e fuel cs x hN hx; exact ⟨f a, by rw [h1, he], hg a h2⟩
theorem OpnFB.nil {k : Nat} : OpnFB N P W [] k 0 (fun _ : Unit => []) (fun _ => True) := fun H e fuel cs _ _ hl => ⟨(), List.drop_eq_nil_of_le (by omega), trivial⟩
theorem OpnFB.cons {α β : Type} {enc : α → List Value} {good : α → Prop} {enc' : β → List Value} {good' : β → Prop} {f : Field} {fs : List Field} {k s n : Nat} (ho : f.offset = k) (hs : P.cellsOf f.type = s) (h : OpnB N P W f.type enc good) (r : OpnFB N P W fs (k + s) n enc' good') :
   OpnFB N P W (f :: fs) k (s + n) (fun p : α × β => enc p.1 ++ enc' p.2) (fun p => good p.1 ∧ good' p.2) := fun H e fuel cs hN hf hl => by
 obtain ⟨x, hx⟩ := hf f (by simp)
 obtain ⟨a, h1, h2⟩ := h H e fuel _ x hN hx
 obtain ⟨b, h3, h4⟩ := r H e fuel cs hN (fun g hg => hf g (by simp [hg])) (by omega)
 refine ⟨(a, b), ?_, h2, h4⟩
 show _ = enc a ++ enc' b
 rw [← h1, ← h3, ho, hs, ← List.drop_drop, List.take_append_drop]
theorem OpnB.struct {α : Type} {enc : α → List Value} {good : α → Prop} {fs : Array Field} {n : Nat} (ht : P.underlying t = some (.struct fs)) (hc : P.cellsOf t = n) (h : OpnFB N P W fs.toList 0 n enc good) : OpnB (N + 1) P W t enc good := fun H e fuel cs x hN hx => by
 obtain ⟨xs, m, rfl, -, hl, hls, hf⟩ := DataW.trod_struct ht hx
 obtain ⟨a, h1, h2⟩ := h H e m cs (by omega) (fun f hm => by
   obtain ⟨i, hi⟩ := List.mem_iff_getElem?.1 hm
   have := hf i f (by simpa using hi)
   have hlt : i < xs.length := by rw [hls]; have := (List.getElem?_eq_some_iff.1 hi).1; simpa using this
   exact ⟨xs[i], by rw [this]; simp [hlt]⟩) (by rw [hl, hc]; omega)
 exact ⟨a, by simpa using h1, h2⟩
theorem OpnB.slice {α : Type} {enc : α → List Value} {good : α → Prop} {el sz : Nat} (ht : P.underlying t = some (.slice el)) (hc : P.cellsOf el = sz) (h0 : 0 < sz) (h : OpnB N P W el enc good) :
   OpnB (N + 1) P W t slC (SlGood W sz enc good) := fun H e fuel cs x hN hx => by
 rcases DataW.trod_slice ht hx with ⟨rfl, -⟩ | ⟨a, len, cap, elems, rest, n, hfn, rfl, -, -, hl, hm, hlen, hel, -, -⟩
 · exact ⟨⟨none, [], 0⟩, rfl, fun h => (h rfl).elim, Nat.zero_le _, Nat.zero_le _, Nat.zero_le _, fun _ h => by cases h⟩
 · have each : ∀ i, i < len → ∃ y : α, good y ∧ ∀ j v, (enc y)[j]? = some v → j < sz ∧ W.cell? ((a.add (i * sz)).add j) = some v := fun i hi => by
     have := hel i hi
     rw [hc] at this
     have hy : elems[i]? = some elems[i] := by simp [hlen, hi]
     rw [hy, Option.bind_eq_some_iff] at this
     obtain ⟨ds, hd, hr⟩ := this
     obtain ⟨-, hdl, hdc⟩ := World.cells?_some hd
     obtain ⟨y, rfl, hg⟩ := h H e n ds _ (by omega) hr
     refine ⟨y, hg, fun j v hj => ?_⟩
     have hjl : j < sz := by rw [← hdl]; exact (List.getElem?_eq_some_iff.1 hj).1
     exact ⟨hjl, (hdc j hjl).trans hj⟩
   obtain ⟨xs, hxl, hxs⟩ := list_of len each
   refine ⟨⟨some a, xs, cap⟩, by simp [hxl], ?_, by show xs.length ≤ _; omega, by show xs.length ≤ cap; omega, hm, fun y hy => ?_⟩
   · intro hne
     have hpos : 0 < len := by rw [← hxl]; exact List.length_pos_iff.2 hne
     -- the first element has a cell
     have hcell : ∃ v, W.cell? (a.add 0) = some v := by
       have := hel 0 hpos
       rw [hc] at this
       have hy : elems[0]? = some elems[0] := by simp [hlen, hpos]
       rw [hy, Option.bind_eq_some_iff] at this
       obtain ⟨ds, hd, -⟩ := this
       obtain ⟨-, hdl, hdc⟩ := World.cells?_some hd
       have := hdc 0 h0
       rw [Nat.zero_mul] at this
       have hlt : 0 < ds.length := by omega
       refine ⟨ds[0], ?_⟩
       have e : (a.add 0).add 0 = a.add 0 := by simp [Addr.add]
       rw [e] at this
       rw [this]; simp [hlt]
     obtain ⟨v0, hv0⟩ := hcell
     have ha0 : a.add 0 = a := by simp [Addr.add]
     rw [ha0] at hv0
     have hsp := World.cell?_spot hv0
     obtain ⟨b, off, sp⟩ := a
     simp only at hsp; subst hsp
     have hb : ∃ cells E fr, W.heap[b]? = some (.cells cells E fr) := by
       unfold World.cell? at hv0
       simp only at hv0
       split at hv0
       · rename_i c E fr hh; exact ⟨c, E, fr, hh⟩
       · cases hv0
     obtain ⟨cells, E, fr, hh⟩ := hb
     refine ⟨b, off, cells, E, fr, rfl, hh, fun i y hi j v hj => ?_⟩
     obtain ⟨-, hq⟩ := hxs i y hi
     obtain ⟨-, hcj⟩ := hq j v hj
     have hadd : ((⟨b, off, none⟩ : Addr).add (i * sz)).add j = ⟨b, off + (i * sz + j), none⟩ := by
       unfold Addr.add; split <;> split <;> simp_all <;> omega
     rw [hadd] at hcj
     simpa [World.cell?, hh] using hcj
   · obtain ⟨i, hi⟩ := List.mem_iff_getElem?.1 hy
     exact (hxs i y hi).1
end
end Go.Sl
namespace Go.Proofs.YtklgiidfompdpaaGreatDoor
open Go Go.Sl Go.Gv Go.Ix Go.Qu
set_option maxRecDepth 100000
theorem opn_int (W : World) : Opn Tryz.prog W 3 intC (fun i => (Lit.int .i64 i).wf = true) := Opn.int Tryz.underlying3
theorem opn_str (W : World) : Opn Tryz.prog W 9 (fun s : ByteArray => [.string s]) (fun s => s.size ≤ maxLen) := Opn.str Tryz.underlying9
theorem opn_strs (W : World) : Opn Tryz.prog W 23 slC (SlGood W 1 strC (fun s => s.size ≤ maxLen)) := Opn.slice Tryz.underlying23 (by kernel_rfl) (by decide) (opn_str W)
inductive GoodQ (W : World) : AskV → Prop
 | mk {a : AskV} (hw : SlGood W 1 strC (fun s => s.size ≤ maxLen) a.w) (hs : slR (whole W) 4 askC a.sa a.ss) (hl : a.ss.length ≤ maxLen) (h : ∀ x ∈ a.ss, GoodQ W x) : GoodQ W a
theorem GoodQ.rd {W : World} {a : AskV} (h : GoodQ W a) : ARd (ro (whole W)) a := by
 induction h with
 | mk hw hs hl h ih => exact .mk (Srd.ro hw.1) (Srd.ro hs) ⟨hw.2.1, hl⟩ ih
theorem opn_askB (W : World) : ∀ k : Nat, OpnB (2 * k) Tryz.prog W 26 askC (GoodQ W)
 | 0 => fun H e fuel cs x hN hx => by
   obtain ⟨xs, n, hf, -⟩ := DataW.trod_struct Tryz.underlying26 hx
   omega
 | k + 1 => by
   have ih := opn_askB W k
   have hsl : OpnB (2 * k + 1) Tryz.prog W 24 slC (SlGood W 4 askC (GoodQ W)) := OpnB.slice Tryz.underlying24 (by kernel_rfl) (by decide) ih
   exact (OpnB.struct Tryz.underlying26 (by kernel_rfl) (OpnFB.cons (s := 1) rfl (by kernel_rfl) (opn_int W).b (OpnFB.cons (s := 1) rfl (by kernel_rfl) (opn_int W).b (OpnFB.cons (s := 1) rfl (by kernel_rfl) (opn_strs W).b (OpnFB.cons (s := 1) rfl (by kernel_rfl) hsl OpnFB.nil))))).map
     (fun p => AskV.mk p.1 p.2.1 p.2.2.1 p.2.2.2.1.a p.2.2.2.1.c p.2.2.2.1.xs) (fun _ => rfl) (fun p h => GoodQ.mk (a := AskV.mk p.1 p.2.1 p.2.2.1 p.2.2.2.1.a p.2.2.2.1.c p.2.2.2.1.xs) h.2.2.1 h.2.2.2.1.1 h.2.2.2.1.2.1 h.2.2.2.1.2.2.2.2)
theorem opn_ask (W : World) : Opn Tryz.prog W 26 askC (GoodQ W) := fun H e fuel cs x hx => opn_askB W fuel H e fuel cs x (by omega) hx
end Go.Proofs.YtklgiidfompdpaaGreatDoor
namespace Go.Proofs.YtklgiidfompdpaaGreatDoor
open Go Go.Sl Go.Gv Go.Ix Go.Qu
set_option maxRecDepth 100000
theorem opn_key (W : World) : Opn Tryz.prog W 28 keyC (fun k => (Lit.int .i64 k.o).wf = true ∧ (Lit.int .i64 k.q).wf = true) :=
 (Opn.struct Tryz.underlying28 (by kernel_rfl) (OpnF.cons (s := 1) rfl (by kernel_rfl) (opn_int W) (OpnF.cons (s := 1) rfl (by kernel_rfl) (opn_int W) OpnF.nil))).map (fun p => ⟨p.1, p.2.1⟩) (fun _ => rfl) (fun _ h => ⟨h.1, h.2.1⟩)
theorem opn_stamp (W : World) : Opn Tryz.prog W 30 (fun p : Int × Int => [int p.1, int p.2]) (fun p => (Lit.int .i64 p.1).wf = true ∧ (Lit.int .i64 p.2).wf = true) :=
 (Opn.struct Tryz.underlying30 (by kernel_rfl) (OpnF.cons (s := 1) rfl (by kernel_rfl) (opn_int W) (OpnF.cons (s := 1) rfl (by kernel_rfl) (opn_int W) OpnF.nil))).map (fun p => (p.1, p.2.1)) (fun _ => rfl) (fun _ h => ⟨h.1, h.2.1⟩)
theorem opn_rec (W : World) : Opn Tryz.prog W 32 recC (fun r => r.t.size ≤ maxLen) :=
 (Opn.struct Tryz.underlying32 (by kernel_rfl) (OpnF.cons (s := 2) rfl (by kernel_rfl) (opn_key W) (OpnF.cons (s := 2) rfl (by kernel_rfl) (opn_stamp W) (OpnF.cons (s := 1) rfl (by kernel_rfl) (opn_str W) OpnF.nil)))).map (fun p => ⟨p.1.o, p.1.q, p.2.1.1, p.2.1.2, p.2.2.1⟩) (fun _ => rfl) (fun _ h => h.2.2.1)
abbrev goodRec (r : Rec) : Prop := r.t.size ≤ maxLen
theorem opn_recs (W : World) : Opn Tryz.prog W 41 slC (SlGood W 5 recC goodRec) := Opn.slice Tryz.underlying41 (by kernel_rfl) (by decide) (opn_rec W)
end Go.Proofs.YtklgiidfompdpaaGreatDoor
