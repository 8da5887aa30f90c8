/- What the closing leans on: part 15. -/
import Derived.Test.YtklgiidfompdpaaGreatDoorXn
import Derived.Test.YtklgiidfompdpaaGreatDoorXj
import Derived.Test.YtklgiidfompdpaaGreatDoorCards
import Derived.Test.YtklgiidfompdpaaGreatDoorTie
import Derived.Great.CaseRows
import Derived.Carry
import Derived.Lib.LaidIn
import Derived.Lib.LaidRTab
import Derived.Lib.LaidCase
import Derived.Lib.LaidTab
import Derived.Lib.LaidU8T
import Derived.Deep.DeepHandedRow
import Derived.Deep.DeepWitnessRowRef
import Derived.ProofKit
import Derived.SizedLaws
import Derived.OpenShut
import Derived.Test.YtklgiidfompdpaaGreatDoorXd
import Derived.Test.YtklgiidfompdpaaGreatDoorXi
namespace Go.Sl
open Go
theorem Ct.twoS {P : Program} {f : FuncId} {args : List Value} {A B C : HProp} {φ : Value → HProp → List HProp → Prop} (c : Ct P f args [A, Sl.two B C] (fun v hs => ∃ A' r, φ v A' r ∧ hs = A' :: Sl.two B C :: r)) : Ct P f args [A, B, C] (fun v hs => ∃ A' r, φ v A' r ∧ hs = A' :: B :: C :: r) := by
  refine ⟨c.enters, fun w0 w R s => ?_⟩
  have s1 : Sat w0 w (B :: C :: A :: R) := Sat.takes (As := [B, C]) s (.cons (.tl .hd) (.cons (.tl .hd) .nil))
  have s2 : Sat w0 w (A :: Sl.two B C :: R) := Sat.take (Sat.two.2 s1) (.tl .hd)
  refine (c.calls w0 w R s2).mono fun _ _ ⟨v, hs, he, ⟨A', r, hp, e⟩, hsat⟩ => ⟨v, A' :: B :: C :: r, he, ⟨A', r, hp, rfl⟩, ?_⟩
  subst e
  have s3 : Sat w0 _ (Sl.two B C :: A' :: (r ++ R)) := Sat.take (L := A' :: Sl.two B C :: (r ++ R)) hsat (.tl .hd)
  exact Sat.take (A := A') (Sat.two.1 s3) (.tl (.tl .hd))
end Go.Sl
namespace Go.Proofs.YtklgiidfompdpaaGreatDoor
open Go Go.Sl Go.Gv Go.Kv Go.Po Go.Ix Go.Qu Go.Shelf Go.Stb
set_option maxRecDepth 100000
theorem rec17_spec (n : Int) (s : ByteArray) : Ct Tryz.prog 28 [int n, .string s] [] (fun v hs => v = recV (recI n s) ∧ hs = []) := by
  refine Ct.intro Tryz.func28 rfl (by kernel_rfl) 9 Tryz.ntmps28 (Nat.le_of_ble_eq_true rfl) fun w0 R => ?_
  refine Gsr ?_
  refine Lac rfl rfl trivial (ac_alloc zv_32 rfl) ?_
  rintro _ _ ⟨rb, rfl, rfl⟩
  refine Lnt ?_
  refine Gsr ?_
  refine Lmv rfl rfl ?_
  refine Lpu rfl rfl trivial (pu_build bd_28 (by repeat constructor) rfl) ?_
  refine Lmv rfl rfl ?_
  refine Lpu rfl rfl trivial (pu_build bd_32 (by repeat constructor) rfl) ?_
  refine Lac0 rfl trivial (ac_st sz_32 rfl rfl (by repeat constructor) rfl rfl rfl rfl) ?_
  rintro _ _ rfl
  refine Lnt ?_
  refine Gs.ret ?_
  exact Gs.finc1 Tryz.results28 ag_32 rfl (Rdc.cl 5 (by repeat constructor) rfl) rfl _ (⟨rfl, rfl⟩) (by repeat constructor)
/-- A question for a word, that lies there. -/
abbrev askW (b : Nat) (w : ByteArray) : AskV := .mk 1 0 ⟨some ⟨b, 0, none⟩, [w], 1⟩ none 0 []
theorem word17_spec (w : ByteArray) : Ct Tryz.prog 30 [.string w] [] (fun v hs => ∃ b, v = askV (askW b w) ∧ hs = [sl 9 1 strC (some ⟨b, 0, none⟩) 1 [w]]) := by
  refine Ct.intro Tryz.func30 rfl (by kernel_rfl) 6 Tryz.ntmps30 (Nat.le_of_ble_eq_true rfl) fun w0 R => ?_
  refine Gsr ?_
  refine Lac rfl rfl trivial (ac_alloc zv_26 rfl) ?_
  rintro _ _ ⟨ab, rfl, rfl⟩
  refine Lnt ?_
  refine Gsr ?_
  refine Lmv rfl rfl ?_
  refine Lac rfl rfl trivial (ac_lit encC_9 ([w]) et_23 ek_9 rfl (by repeat constructor) rfl rfl (by decide)) ?_
  rintro _ _ ⟨a4, rfl, rfl⟩
  refine Lpu rfl rfl trivial (pu_build bd_26 (by repeat constructor) rfl) ?_
  refine Lac0 rfl trivial (ac_st sz_26 rfl rfl (by repeat constructor) rfl rfl rfl rfl) ?_
  rintro _ _ rfl
  refine Lnt ?_
  refine Gs.ret ?_
  exact Gs.finc1 Tryz.results30 ag_26 rfl (Rdc.cl 4 (by repeat constructor) rfl) rfl _ (⟨_, rfl, rfl⟩) (by repeat constructor)
theorem askW_rd {A S : HProp} {b : Nat} {w : ByteArray} (h : Srd S 1 strC (some ⟨b, 0, none⟩) [w]) : ARd S (askW b w) := .mk h (fun _ _ _ _ _ _ h => (h rfl).elim) ⟨by show 1 ≤ maxLen; decide, Nat.zero_le _⟩ fun x h => by cases h
theorem askW_few {b : Nat} {w : ByteArray} (h : w.size ≤ 100) : FewA 1 (askW b w) := ⟨by show 1 ≤ 30; omega, fun v hv => by rw [List.mem_singleton.1 hv]; exact h, Nat.zero_le _, fun x h => by cases h⟩
theorem askW_size (b : Nat) (w : ByteArray) : sizeA 1 (askW b w) ≤ 1000 := by show 1 + 0 ≤ 1000; omega
theorem IsK.of {rs : List Rec} (hn : (rs.map Rec.key).Nodup) (f : Rec → Bool) : IsK rs f (sortK ((rs.filter f).map Rec.key)) := ⟨sortK_asc (filt_keys hn f), fun k => by
  rw [sortK_mem, List.mem_map]
  exact ⟨fun ⟨r, hr, e⟩ => ⟨r, (List.mem_filter.1 hr).1, e, (List.mem_filter.1 hr).2⟩, fun ⟨r, hr, e, hf⟩ => ⟨r, List.mem_filter.2 ⟨hr, hf⟩, e⟩⟩⟩
abbrev waB : ByteArray := ⟨#[97]⟩
abbrev wbB : ByteArray := ⟨#[98]⟩
abbrev r2B : Rec := recI 2 ⟨#[97, 32, 98]⟩
abbrev r1B : Rec := recI 1 ⟨#[98]⟩
abbrev r1A : Rec := recI 1 ⟨#[97]⟩
theorem put17 : [r2B, r1B, r1A].foldl putR [] = [r2B, r1B] := by kernel_rfl
theorem drop17 : [(⟨1, 1⟩ : Key)].foldl dropR [r2B, r1B] = [r2B] := by kernel_rfl
theorem look17 : lookR [r2B, r1B] ⟨1, 1⟩ = some r1B := by kernel_rfl
theorem mayB17 (b : Nat) : mayA 1 (askW b wbB) = true := by kernel_rfl
theorem mayA17 (b : Nat) : mayA 1 (askW b waB) = true := by kernel_rfl
theorem keys17 (b : Nat) : sortK (([r2B, r1B].filter (holdsQ 1 (askW b wbB))).map Rec.key) = [⟨1, 1⟩, ⟨1, 2⟩] := by kernel_rfl
theorem hits17 (b : Nat) : [r2B, r1B].filter (hitB 1 (askW b waB) Rec.zero) = [r2B] := by kernel_rfl
theorem nod17 : (([r2B, r1B] : List Rec).map Rec.key).Nodup := by decide
theorem ok17 : okQ 3 Rec.zero = true := by kernel_rfl
set_option maxHeartbeats 1000000 in
theorem awake17_spec {h0 : Hp} (T : TabY h0) : Ct Tryz.prog 9 [] [ro h0] (fun v hs => v = .bool true ∧ hs = [ro h0]) := by
  have hTW : TabW (ro h0) := ⟨h0, T, Inn.refl⟩
  refine Ct.intro Tryz.func9 rfl (by kernel_rfl) 64 Tryz.ntmps9 (Nat.le_of_ble_eq_true rfl) fun w0 R => ?_
  refine Gsr ?_
  refine Las rfl rfl ?_
  refine Lnt ?_
  refine Gsr ?_
  refine Lac rfl rfl trivial (as_call (snew_spec) (by repeat constructor) (by repeat constructor)) ?_
  rintro _ _ ⟨_, ⟨x, rfl, rfl⟩, rfl⟩
  refine Las rfl rfl ?_
  refine Lnt ?_
  refine Gs.seq ?_
  refine Gsr ?_
  refine Lmv rfl rfl ?_
  refine Lpu rfl rfl trivial (pu_eqN Tryz.underlying38 rfl rfl) ?_
  refine Lnt ?_
  refine Gs.cond_ff rfl rfl ?_
  refine Gs.skip ?_
  refine Gs.then_n ?_
  refine Gsr ?_
  refine Lmv rfl rfl ?_
  refine Lac rfl rfl trivial (as_call (rec17_spec 2 ⟨#[97, 32, 98]⟩) (by repeat constructor) (by repeat constructor)) ?_
  rintro _ _ ⟨_, ⟨rfl, rfl⟩, rfl⟩
  refine Lac rfl rfl trivial (as_call (rec17_spec 1 ⟨#[98]⟩) (by repeat constructor) (by repeat constructor)) ?_
  rintro _ _ ⟨_, ⟨rfl, rfl⟩, rfl⟩
  refine Lac rfl rfl trivial (as_call (rec17_spec 1 ⟨#[97]⟩) (by repeat constructor) (by repeat constructor)) ?_
  rintro _ _ ⟨_, ⟨rfl, rfl⟩, rfl⟩
  refine Lac rfl rfl trivial (ac_lit encC_32 ([r2B, r1B, r1A]) et_41 ek_32 rfl (by repeat constructor) rfl rfl (by decide)) ?_
  rintro _ _ ⟨a12, rfl, rfl⟩
  refine Lac rfl rfl trivial (as_call (Ct.twoR (sput_spec (S := two (ro h0) (rsA (some ⟨a12, 0, none⟩) 3 [r2B, r1B, r1A])) (hTW.u.inn Inn.two1) x [] (a := some ⟨a12, 0, none⟩) (c := 3) (ys := [r2B, r1B, r1A]) (Srd.two2 Srd.own) (by decide))) (by repeat constructor) (by repeat constructor)) ?_
  rintro _ _ ⟨_, ⟨_, ⟨rfl, rfl⟩, rfl⟩, rfl⟩
  rw [put17]
  refine Las rfl rfl ?_
  refine Lnt ?_
  refine Gsr ?_
  refine Lmv rfl rfl ?_
  refine Lac rfl rfl trivial (as_call (rec17_spec 1 ⟨#[]⟩) (by repeat constructor) (by repeat constructor)) ?_
  rintro _ _ ⟨_, ⟨rfl, rfl⟩, rfl⟩
  refine Lpu rfl rfl trivial (pu_fg fg_32_0 rfl rfl) ?_
  refine Lac rfl rfl trivial (as_call (sget_spec x [r2B, r1B] ⟨1, 1⟩) (by repeat constructor) (by repeat constructor)) ?_
  rintro _ _ ⟨_, ⟨rfl, rfl⟩, rfl⟩
  rw [look17]
  refine Lmv rfl rfl ?_
  refine Lpu rfl rfl trivial (pu_extract rfl rfl) ?_
  refine Lpu rfl rfl trivial (pu_extract rfl rfl) ?_
  refine Lac rfl rfl trivial (ac_alloc zv_32 rfl) ?_
  rintro _ _ ⟨rb, rfl, rfl⟩
  refine Lac0 rfl trivial (ac_st sz_32 rfl rfl (by repeat constructor) rfl rfl rfl rfl) ?_
  rintro _ _ rfl
  refine Las rfl rfl ?_
  refine Lnt ?_
  refine Gs.seq ?_
  refine Gs.regD mixed (by kernel_rfl) ?_
  refine Rg.pu 0 rfl rfl (by kernel_rfl) trivial (pu_move rfl) ?_
  refine Rg.pu 1 rfl rfl (by kernel_rfl) trivial (pu_eq rfl rfl) ?_
  refine Rg.puBt 2 rfl rfl (by kernel_rfl) trivial (pu_move rfl) rfl ?_
  refine Rg.rd 3 rfl rfl (by kernel_rfl) ⟨_, rfl, rfl⟩ (rd_lda ag_32 rfl (Rdc.cl 5 (by repeat constructor) rfl) rfl) ?_
  refine Rg.one (by kernel_rfl) (Stp.acR 4 [3] rfl rfl (by kernel_rfl) ⟨_, rfl, rfl⟩ (as_call (rec17_spec 1 ⟨#[98]⟩) (by repeat constructor) (by repeat constructor)) (by rintro _ _ ⟨_, ⟨rfl, rfl⟩, rfl⟩; exact (Reads.cons rfl rfl rfl ⟨_, rfl, rfl⟩ rfl (rd_lda ag_32 rfl (Rdc.cl 5 (by repeat constructor) rfl) rfl) Reads.nil)) ?_)
  rintro _ _ ⟨_, ⟨rfl, rfl⟩, rfl⟩
  refine Rg.pu 5 rfl rfl (by kernel_rfl) ⟨_, rfl, rfl⟩ (pu_eqT (a := r1B) (b := r1B) cmp_32 (by decide) Tryz.eqGuardType32 rfl rfl) ?_
  refine Rg.pu 6 rfl rfl (by kernel_rfl) trivial (by first | exact pu_pick_t rfl rfl | exact pu_pick_f rfl rfl) ?_
  refine Rg.puBt 7 rfl rfl (by kernel_rfl) trivial (pu_move rfl) rfl ?_
  refine Rg.pu 8 rfl rfl (by kernel_rfl) ⟨_, rfl, rfl⟩ (pu_move rfl) ?_
  refine Rg.pu 9 rfl rfl (by kernel_rfl) trivial (by first | exact pu_pick_t rfl rfl | exact pu_pick_f rfl rfl) ?_
  refine Rg.puBt 10 rfl rfl (by kernel_rfl) trivial (pu_move rfl) rfl ?_
  refine Rg.pu 11 rfl rfl (by kernel_rfl) ⟨_, rfl, rfl⟩ (pu_move rfl) ?_
  refine Rg.one (by kernel_rfl) (Stp.ac 12 rfl rfl (by kernel_rfl) ⟨_, rfl, rfl⟩ (as_call (word17_spec wbB) (by repeat constructor) (by repeat constructor))  ?_)
  rintro _ _ ⟨_, ⟨qb, rfl, rfl⟩, rfl⟩
  refine Rg.one (by kernel_rfl) (Stp.ac 13 rfl rfl (by kernel_rfl) ⟨_, rfl, rfl⟩ (as_call (Ct.twoS (φ := fun v A' r => A' = shA x [r2B, r1B] ∧ ∃ a c ks, v = .slice a ks.length c ∧ KsQ [r2B, r1B] 1 (askW qb wbB) ks ∧ r = [sl 28 2 keyC a c ks]) ((sKeys_spec x [r2B, r1B] (by decide) (S := two (ro h0) (sl 9 1 strC (some ⟨qb, 0, none⟩) 1 [wbB])) (hTW.u.inn Inn.two1) (askW_rd (A := ro h0) (Srd.two2 Srd.own)) (askW_few (by decide)) (askW_size _ _) (by decide)).mono (by rintro _ _ ⟨a, c, ks, h1, h2, rfl⟩; exact ⟨_, _, ⟨rfl, a, c, ks, h1, h2, rfl⟩, rfl⟩))) (by repeat constructor) (by repeat constructor))  ?_)
  rintro _ _ ⟨_, ⟨_, _, ⟨rfl, ka, kc, ks, rfl, hK, rfl⟩, rfl⟩, rfl⟩
  obtain rfl : ks = [⟨1, 1⟩, ⟨1, 2⟩] := by rw [← keys17 qb]; exact (hK.1 (mayB17 qb)).uniq (IsK.of nod17 _) (fun _ _ => rfl)
  refine Rg.one (by kernel_rfl) (Stp.ac 14 rfl rfl (by kernel_rfl) ⟨_, rfl, rfl⟩ (as_call (rec17_spec 1 ⟨#[]⟩) (by repeat constructor) (by repeat constructor))  ?_)
  rintro _ _ ⟨_, ⟨rfl, rfl⟩, rfl⟩
  refine Rg.pu 15 rfl rfl (by kernel_rfl) ⟨_, rfl, rfl⟩ (pu_fg fg_32_0 rfl rfl) ?_
  refine Rg.one (by kernel_rfl) (Stp.ac 16 rfl rfl (by kernel_rfl) ⟨_, rfl, rfl⟩ (as_call (rec17_spec 2 ⟨#[]⟩) (by repeat constructor) (by repeat constructor))  ?_)
  rintro _ _ ⟨_, ⟨rfl, rfl⟩, rfl⟩
  refine Rg.pu 17 rfl rfl (by kernel_rfl) ⟨_, rfl, rfl⟩ (pu_fg fg_32_0 rfl rfl) ?_
  refine Rg.one (by kernel_rfl) (Stp.ac 18 rfl rfl (by kernel_rfl) ⟨_, rfl, rfl⟩ (ac_lit encC_28 ([(⟨1, 1⟩ : Key), ⟨1, 2⟩]) et_48 ek_28 rfl (by repeat constructor) rfl rfl (by decide))  ?_)
  rintro _ _ ⟨a39, rfl, rfl⟩
  refine Rg.one (by kernel_rfl) (Stp.ac 19 rfl rfl (by kernel_rfl) ⟨_, rfl, rfl⟩ (as_call (Ct.two0 (sameKeys_spec (S := two (sl 28 2 keyC ka kc [⟨1, 1⟩, ⟨1, 2⟩]) (sl 28 2 keyC (some ⟨a39, 0, none⟩) 2 [⟨1, 1⟩, ⟨1, 2⟩])) (a := ka) (b := some ⟨a39, 0, none⟩) (c := kc) (d := 2) (xs := [⟨1, 1⟩, ⟨1, 2⟩]) (ys := [⟨1, 1⟩, ⟨1, 2⟩]) (Srd.two1 Srd.own) (Srd.two2 Srd.own) (by decide))) (by repeat constructor) (by repeat constructor))  ?_)
  rintro _ _ ⟨_, ⟨rfl, rfl⟩, rfl⟩
  refine Rg.pu 20 rfl rfl (by kernel_rfl) trivial (by first | exact pu_pick_t rfl rfl | exact pu_pick_f rfl rfl) ?_
  refine Rg.puBt 21 rfl rfl (by kernel_rfl) trivial (pu_move rfl) rfl ?_
  refine Rg.pu 22 rfl rfl (by kernel_rfl) ⟨_, rfl, rfl⟩ (pu_move rfl) ?_
  refine Rg.one (by kernel_rfl) (Stp.ac 23 rfl rfl (by kernel_rfl) ⟨_, rfl, rfl⟩ (as_call (word17_spec waB) (by repeat constructor) (by repeat constructor))  ?_)
  rintro _ _ ⟨_, ⟨pb, rfl, rfl⟩, rfl⟩
  refine Rg.pu 24 rfl rfl (by kernel_rfl) ⟨_, rfl, rfl⟩ (pu_build bd_34 (by repeat constructor) rfl) ?_
  refine Rg.one (by kernel_rfl) (Stp.ac 25 rfl rfl (by kernel_rfl) ⟨_, rfl, rfl⟩ (as_call (Ct.twoS (φ := fun v A' r => A' = shA x [r2B, r1B] ∧ ∃ a c out, v = .slice a out.length c ∧ FindIs 1 (askW pb waB) 3 Rec.zero [r2B, r1B] out ∧ r = [rsA a c out]) ((sfind_spec x [r2B, r1B] (by decide) (S := two (ro h0) (sl 9 1 strC (some ⟨pb, 0, none⟩) 1 [waB])) (hTW.inn Inn.two1) (askW_rd (A := ro h0) (Srd.two2 Srd.own)) (askW_few (by decide)) (askW_size _ _) (by decide) 3 Rec.zero).mono (by rintro _ _ ⟨a, c, out, h1, h2, rfl⟩; exact ⟨_, _, ⟨rfl, a, c, out, h1, h2, rfl⟩, rfl⟩))) (by repeat constructor) (by repeat constructor))  ?_)
  rintro _ _ ⟨_, ⟨_, _, ⟨rfl, fa, fc, out, rfl, hO, rfl⟩, rfl⟩, rfl⟩
  obtain rfl : out = [r2B] := by
    obtain ⟨ys, hy, rfl⟩ := hO
    have h1 := (hy.1 (by unfold mayQ; rw [mayA17, ok17]; rfl)).1
    rw [hits17] at h1
    rw [List.perm_singleton.1 h1]; rfl
  refine Rg.pu 26 rfl rfl (by kernel_rfl) ⟨_, rfl, rfl⟩ (pu_len Tryz.underlying41 rfl) ?_
  refine Rg.pu 27 rfl rfl (by kernel_rfl) ⟨_, rfl, rfl⟩ (pu_eq rfl rfl) ?_
  refine Rg.pu 28 rfl rfl (by kernel_rfl) trivial (by first | exact pu_pick_t rfl rfl | exact pu_pick_f rfl rfl) ?_
  refine Rg.puBt 29 rfl rfl (by kernel_rfl) trivial (pu_move rfl) rfl ?_
  refine Rg.pu 30 rfl rfl (by kernel_rfl) ⟨_, rfl, rfl⟩ (pu_move rfl) ?_
  refine Rg.one (by kernel_rfl) (Stp.ac 31 rfl rfl (by kernel_rfl) ⟨_, rfl, rfl⟩ (as_call (rec17_spec 1 ⟨#[]⟩) (by repeat constructor) (by repeat constructor))  ?_)
  rintro _ _ ⟨_, ⟨rfl, rfl⟩, rfl⟩
  refine Rg.pu 32 rfl rfl (by kernel_rfl) ⟨_, rfl, rfl⟩ (pu_fg fg_32_0 rfl rfl) ?_
  refine Rg.one (by kernel_rfl) (Stp.ac 33 rfl rfl (by kernel_rfl) ⟨_, rfl, rfl⟩ (ac_lit encC_28 ([(⟨1, 1⟩ : Key)]) et_48 ek_28 rfl (by repeat constructor) rfl rfl (by decide))  ?_)
  rintro _ _ ⟨a54, rfl, rfl⟩
  refine Rg.one (by kernel_rfl) (Stp.ac 34 rfl rfl (by kernel_rfl) ⟨_, rfl, rfl⟩ (as_call (sdrop_spec x [r2B, r1B] (U := sl 28 2 keyC (some ⟨a54, 0, none⟩) 1 [⟨1, 1⟩]) (a := some ⟨a54, 0, none⟩) (c := 1) (ks := [⟨1, 1⟩]) Srd.own (by decide)) (by repeat constructor) (by repeat constructor))  ?_)
  rintro _ _ ⟨_, ⟨rfl, rfl⟩, rfl⟩
  rw [drop17]
  refine Rg.pu 35 rfl rfl (by kernel_rfl) ⟨_, rfl, rfl⟩ (pu_eq rfl rfl) ?_
  refine Rg.pu 36 rfl rfl (by kernel_rfl) trivial (by first | exact pu_pick_t rfl rfl | exact pu_pick_f rfl rfl) ?_
  refine Rg.puBt 37 rfl rfl (by kernel_rfl) trivial (pu_move rfl) rfl ?_
  refine Rg.pu 38 rfl rfl (by kernel_rfl) ⟨_, rfl, rfl⟩ (pu_move rfl) ?_
  refine Rg.one (by kernel_rfl) (Stp.ac 39 rfl rfl (by kernel_rfl) ⟨_, rfl, rfl⟩ (as_call (srecs_spec x [r2B] (by decide)) (by repeat constructor) (by repeat constructor))  ?_)
  rintro _ _ ⟨_, ⟨ra, rc, ks, rfl, hK, rfl⟩, rfl⟩
  have hk1 : ks.length = 1 := by
    have h1 := hK.uniq (IsK.of (rs := [r2B]) (by decide) (fun _ => true)) (fun _ _ => rfl)
    rw [h1]; rfl
  have hol : (ofR [r2B] ks).length = 1 := by unfold ofR; rw [List.length_map]; exact hk1
  rw [hol]
  refine Rg.pu 40 rfl rfl (by kernel_rfl) ⟨_, rfl, rfl⟩ (pu_len Tryz.underlying41 rfl) ?_
  refine Rg.pu 41 rfl rfl (by kernel_rfl) ⟨_, rfl, rfl⟩ (pu_eq rfl rfl) ?_
  refine Rg.pu 42 rfl rfl (by kernel_rfl) trivial (by first | exact pu_pick_t rfl rfl | exact pu_pick_f rfl rfl) ?_
  refine Rg.pu 43 rfl rfl (by kernel_rfl) trivial (pu_assign rfl) ?_
  refine Rg.end (by kernel_rfl) ?_
  refine Gs.then_n ?_
  refine Gs.ret ?_
  exact Gs.fin1 Tryz.results9 rfl _ (⟨rfl, rfl⟩) (by repeat constructor)
end Go.Proofs.YtklgiidfompdpaaGreatDoor
namespace Go.Proofs.YtklgiidfompdpaaGreatDoor
open Go Go.Sl Go.Gv Go.Kv Go.Po Go.Ix Go.Qu Go.Shelf Go.Stb
set_option maxRecDepth 100000
theorem putR_nodup {rs : List Rec} (h : (rs.map Rec.key).Nodup) (r : Rec) : ((putR rs r).map Rec.key).Nodup := by
  unfold putR
  split
  · rename_i e
    simp only [Bool.and_eq_true, decide_eq_true_eq] at e
    rw [List.map_append, List.nodup_append]
    refine ⟨h, by simp, fun a ha b hb => ?_⟩
    simp at hb
    subst hb
    exact fun he => e.2 (he ▸ ha)
  · exact h
theorem putR_may {rs : List Rec} (h : ∀ r ∈ rs, recB r = true) (x : Rec) : ∀ r ∈ putR rs x, recB r = true := fun r hr => by
  unfold putR at hr
  split at hr
  · rename_i e
    rcases List.mem_append.1 hr with hr | hr
    · exact h r hr
    · rw [List.mem_singleton.1 hr]
      simp only [Bool.and_eq_true] at e; exact e.1
  · exact h r hr
theorem take_snoc {α : Type} {L : List α} {j : Nat} {r : α} (h : L[j]? = some r) : L.take (j + 1) = L.take j ++ [r] := by rw [List.take_add_one, h]; rfl
theorem not_in_take {L : List Rec} (hn : (L.map Rec.key).Nodup) {j : Nat} {r : Rec} (h : L[j]? = some r) {M : List Rec} (p : List.Perm M (L.take j)) : r.key ∉ M.map Rec.key := fun hc => by
  have hc2 := (p.map Rec.key).mem_iff.1 hc
  have h1 : ((L.take (j + 1)).map Rec.key).Nodup := List.Nodup.sublist ((List.take_sublist _ _).map _) hn
  rw [take_snoc h, List.map_append] at h1
  exact (List.nodup_append.1 h1).2.2 _ hc2 r.key (by simp) rfl
theorem FindIs.len {d : Nat} {x : AskV} {lim : Int} {z : Rec} {rs out : List Rec} (h : FindIs d x lim z rs out) : out.length ≤ rs.length := by
  obtain ⟨ys, hy, rfl⟩ := h
  rw [List.length_take]
  cases hm : mayQ d x lim z with
  | true =>
    have h1 := (hy.1 hm).1.length_eq
    have h2 := List.length_filter_le (hitB d x z) rs
    omega
  | false => rw [hy.2 hm]; simp
end Go.Proofs.YtklgiidfompdpaaGreatDoor
namespace Go.Proofs.YtklgiidfompdpaaGreatDoor
open Go Go.Sl Go.Gv Go.Kv Go.Po Go.Ix Go.Qu Go.Shelf Go.Stb
set_option maxRecDepth 100000
section
variable {rs : List Rec} {f g : Rec → Bool}
end
theorem fold_put {L : List Rec} (hn : (L.map Rec.key).Nodup) (hb : ∀ r ∈ L, recB r = true) : ∀ ys : List Rec, ((ys.foldl putR L).map Rec.key).Nodup ∧ ∀ r ∈ ys.foldl putR L, recB r = true := fun ys => by
  induction ys generalizing L with
  | nil => exact ⟨hn, hb⟩
  | cons y ys ih => exact ih (putR_nodup hn y) (putR_may hb y)
theorem ofR_len (rs : List Rec) (ks : List Key) : (ofR rs ks).length = ks.length := by unfold ofR; rw [List.length_map]
end Go.Proofs.YtklgiidfompdpaaGreatDoor
namespace Go.Proofs.YtklgiidfompdpaaGreatDoor
open Go Go.Sl Go.Gv Go.Kv Go.Po Go.Ix Go.Qu Go.Shelf Go.Stb
set_option maxRecDepth 100000
section
variable {L M : List Rec}
theorem keys_perm (p : List.Perm L M) (hn : (L.map Rec.key).Nodup) : (M.map Rec.key).Nodup := (p.map Rec.key).nodup_iff.1 hn
theorem IsK.perm {f : Rec → Bool} {ks : List Key} (p : List.Perm L M) (h : IsK L f ks) : IsK M f ks := ⟨h.1, fun k => by
  rw [h.2]
  exact ⟨fun ⟨r, hr, h1, h2⟩ => ⟨r, p.mem_iff.1 hr, h1, h2⟩, fun ⟨r, hr, h1, h2⟩ => ⟨r, p.mem_iff.2 hr, h1, h2⟩⟩⟩
theorem lookR_perm (p : List.Perm L M) (hn : (L.map Rec.key).Nodup) {k : Key} (hk : k ∈ L.map Rec.key) : lookR L k = lookR M k := by
  obtain ⟨r, hr, rfl⟩ := List.mem_map.1 hk
  rw [lookR_at hn hr, lookR_at (keys_perm p hn) (p.mem_iff.1 hr)]
theorem recs_same (p : List.Perm L M) (hn : (L.map Rec.key).Nodup) {ks ls : List Key} (h : IsK L (fun _ => true) ks) (h' : IsK M (fun _ => true) ls) : ofR L ks = ofR M ls := by
  obtain rfl : ks = ls := (h.perm p).uniq h' fun _ _ => rfl
  unfold ofR
  refine List.map_congr_left fun k hk => ?_
  obtain ⟨r, hr, h1, -⟩ := (h.2 k).1 hk
  rw [lookR_perm p hn (List.mem_map.2 ⟨r, hr, h1⟩)]
theorem keys_same (p : List.Perm L M) {d : Nat} {y : AskV} {ks ls : List Key} (h : KsQ L d y ks) (h' : KsQ M d y ls) : ks = ls := by
  cases hm : mayA d y with
  | true => exact ((h.1 hm).perm p).uniq (h'.1 hm) fun _ _ => rfl
  | false => rw [h.2 hm, h'.2 hm]
theorem find_same (p : List.Perm L M) {d : Nat} {y : AskV} {lim : Int} {z : Rec} {o o' : List Rec} (h : FindIs d y lim z L o) (h' : FindIs d y lim z M o') : o = o' := h.uniq h' (p.filter _)
theorem recs_perm (hn : (L.map Rec.key).Nodup) {ks : List Key} (h : IsK L (fun _ => true) ks) : List.Perm (ofR L ks) L := by
  have hk : ∀ k ∈ ks, k ∈ L.map Rec.key := fun k hkm => by
    obtain ⟨r, hr, h1, -⟩ := (h.2 k).1 hkm
    exact List.mem_map.2 ⟨r, hr, h1⟩
  have n1 : (ofR L ks).Nodup := nodup_of_keys (by rw [ofR_keys hn hk]; exact h.nodup)
  rw [List.perm_ext_iff_of_nodup n1 (nodup_of_keys hn)]
  intro r
  rw [ofR_mem hn hk]
  exact ⟨fun h1 => h1.1, fun h1 => ⟨h1, (h.at hn h1).2 rfl⟩⟩
theorem drop_perm (hn : (L.map Rec.key).Nodup) {r : Rec} (hr : r ∈ L) : List.Perm (dropR L r.key ++ [r]) L := by
  have n1 : (dropR L r.key).Nodup := nodup_of_keys (drop_nodup hn _)
  have n2 : (dropR L r.key ++ [r]).Nodup := by
    rw [List.nodup_append]
    refine ⟨n1, by simp, fun a ha b hb e => ?_⟩
    rw [List.mem_singleton] at hb
    subst hb; subst e
    exact (of_decide_eq_true (List.mem_filter.1 ha).2) rfl
  rw [List.perm_ext_iff_of_nodup n2 (nodup_of_keys hn)]
  intro x
  rw [List.mem_append, List.mem_singleton]
  constructor
  · rintro (h | rfl)
    · exact (List.mem_filter.1 h).1
    · exact hr
  · intro hx
    by_cases e : x.key = r.key
    · exact .inr (key_inj hn hx hr e)
    · exact .inl (List.mem_filter.2 ⟨hx, decide_eq_true e⟩)
/-- One goes: what is left, and what has gone. -/
theorem gone_step {S G R : List Rec} {r : Rec} (hn : (R.map Rec.key).Nodup) (p : List.Perm (S ++ G) R) (hr : r ∈ R) (hg : r ∉ G) :
    r ∈ S ∧ S.length - (dropR S r.key).length = 1 ∧ List.Perm (dropR S r.key ++ (G ++ [r])) R := by
  have hnS : (S.map Rec.key).Nodup := by
    have := keys_perm p.symm hn
    rw [List.map_append] at this
    exact (List.nodup_append.1 this).1
  have hS : r ∈ S := by
    rcases List.mem_append.1 (p.mem_iff.2 hr) with h | h
    · exact h
    · exact (hg h).elim
  refine ⟨hS, ?_, ?_⟩
  · have h1 := drop_len hnS r.key
    rw [if_pos (List.mem_map.2 ⟨r, hS, rfl⟩)] at h1; omega
  · have h1 := drop_perm hnS hS
    refine List.Perm.trans ?_ ((h1.append_right G).trans p)
    rw [List.append_assoc]
    exact (List.perm_append_comm).append_left _
/-- One is put that was not there. -/
theorem putR_new {P : List Rec} {r : Rec} (hb : recB r = true) (h : r.key ∉ P.map Rec.key) : putR P r = P ++ [r] := by
  unfold putR; rw [if_pos (by rw [hb, decide_eq_true h]; rfl)]
theorem putsR_new : ∀ {G S : List Rec}, (∀ r ∈ G, recB r = true) → ((S ++ G).map Rec.key).Nodup → G.foldl putR S = S ++ G
  | [], S, _, _ => by simp
  | r :: G, S, hb, hn => by
    have hni : r.key ∉ S.map Rec.key := fun hc => by
      rw [List.map_append] at hn
      exact (List.nodup_append.1 hn).2.2 _ hc r.key (by simp) rfl
    rw [List.foldl_cons, putR_new (hb r (by simp)) hni]
    have e : S ++ r :: G = S ++ [r] ++ G := by simp
    rw [e] at hn ⊢
    exact putsR_new (fun x hx => hb x (by simp [hx])) hn
end
theorem perm_goneG {G P l : List Rec} {r : Rec} (p : List.Perm (G ++ P) l) : List.Perm (G ++ [r] ++ P) (l ++ [r]) := by
  refine List.Perm.trans ?_ (p.append_right [r])
  rw [List.append_assoc, List.append_assoc]
  exact (List.perm_append_comm).append_left _
theorem perm_goneP {G P l : List Rec} {r : Rec} (p : List.Perm (G ++ P) l) : List.Perm (G ++ (P ++ [r])) (l ++ [r]) := by
  rw [← List.append_assoc]; exact p.append_right [r]
theorem perm_left {S P G R A : List Rec} (p1 : List.Perm (G ++ P) A) (p2 : List.Perm (S ++ G) R) (p3 : List.Perm A R) : List.Perm S P := by
  have h : List.Perm (S ++ G) (P ++ G) := p2.trans (p3.symm.trans (p1.symm.trans List.perm_append_comm))
  exact (List.perm_append_right_iff G).1 h
end Go.Proofs.YtklgiidfompdpaaGreatDoor
namespace Go.Sl
open Go Go.ChangeShapes
def andK (k : IntKind) (i j : Int) : Int := k.wrap (BitVec.ofInt k.bits i &&& BitVec.ofInt k.bits j).toNat
theorem pu_and {P : Program} {env : Env} {d : Option Tmp} {x y : Operand} {ty T T' : TypeId} {pos : String} {af : Array Edge} {g : Option (Nat × Bool)} {k : IntKind} {i j : Int} (h : ev env x = some (.int k i)) (h' : ev env y = some (.int k j)) : Pu P ⟨d, .binOp .and T x y T', ty, pos, af, g⟩ env (.int k (andK k i j)) := fun ρ w e => by
  refine run_v (s := do eqGuard .and T x y (ρ x) (ρ y); binOp .and T (ρ x) (ρ y)) ?_
  rw [e.eval h, e.eval h']
  simp only [Sem.run_bind, eqGuard_int, Result.andThen_ok]
  simp [binOp, Op.intBits, andK]
end Go.Sl
namespace Go.Proofs.YtklgiidfompdpaaGreatDoor
open Go Go.Sl Go.Gv Go.Kv Go.Po Go.Ix Go.Qu Go.Shelf Go.Stb
set_option maxRecDepth 100000
set_option maxHeartbeats 1000000 in
theorem fdrops_spec {h0 : Hp} (T : TabY h0) {a : Option Addr} {c : Nat} {xs : List Rec} (hx : slR h0 5 recC a xs) (hxl : xs.length ≤ 9223372036854775807) (bits : Int) {y : AskV} (hy : ARd (ro h0) y) (lim : Int) (z : Rec) :
    Ct Tryz.prog 6 [.slice a xs.length c, int bits, quV y lim z] [ro h0] (fun v hs => v = .bool true ∧ hs = [ro h0]) := by
  have hTW : TabW (ro h0) := ⟨h0, T, Inn.refl⟩
  refine Ct.intro Tryz.func6 rfl (by kernel_rfl) 130 Tryz.ntmps6 (Nat.le_of_ble_eq_true rfl) fun w0 R => ?_
  refine Gsr ?_
  refine Lac rfl rfl trivial (ac_box rfl rfl) ?_
  rintro _ _ ⟨qb, rfl, rfl⟩
  refine Las rfl rfl ?_
  refine Lnt ?_
  refine Gs.seq ?_
  refine Gsr ?_
  refine Lmv rfl rfl ?_
  refine Lac rfl rfl trivial (as_call (greatRecords_spec (Srd.ro hx) hxl 25) (by repeat constructor) (by repeat constructor)) ?_
  rintro _ _ ⟨_, ⟨⟨g, rfl, hg⟩, rfl⟩, rfl⟩
  refine LpuB rfl rfl trivial (pu_move rfl) (fun hg2 => ?_) (fun hg2 => ?_)
  ·
   refine Loff rfl rfl rfl rfl rfl rfl ?_
   refine Loff rfl rfl rfl rfl rfl rfl ?_
   refine Loff rfl rfl rfl rfl rfl rfl ?_
   refine Lpu rfl rfl trivial (by first | exact pu_pick_t rfl rfl | exact pu_pick_f rfl rfl) ?_
   refine Lmv rfl rfl ?_
   refine Loff rfl rfl rfl rfl rfl rfl ?_
   refine Loff rfl rfl rfl rfl rfl rfl ?_
   refine Loff rfl rfl rfl rfl rfl rfl ?_
   refine Loff rfl rfl rfl rfl rfl rfl ?_
   refine Loff rfl rfl rfl rfl rfl rfl ?_
   refine Lpu rfl rfl trivial (by first | exact pu_pick_t rfl rfl | exact pu_pick_f rfl rfl) ?_
   refine Lnt ?_
   refine Gs.cond_t rfl ?_
   refine Gsr ?_
   refine Lac rfl rfl trivial (as_call (awake17_spec T) (by repeat constructor) (by repeat constructor)) ?_
   rintro _ _ ⟨_, ⟨rfl, rfl⟩, rfl⟩
   refine Las rfl rfl ?_
   refine Lnt ?_
   refine Gs.ret ?_
   refine Gs.then_r ?_
   exact Gs.fin1 Tryz.results6 rfl _ (⟨rfl, rfl⟩) (by repeat constructor)
  ·
   refine Lpu rfl rfl ⟨_, rfl, rfl⟩ (pu_fa fa_34_0 rfl) ?_
   refine Lrd rfl rfl ⟨_, rfl, rfl⟩ (rd_lda ag_26 rfl (Rdc.cl 4 (by repeat constructor) rfl) rfl) ?_
   refine Lac rfl rfl ⟨_, rfl, rfl⟩ (as_call (greatAsk_spec hy) (by repeat constructor) (by repeat constructor)) ?_
   rintro _ _ ⟨_, ⟨⟨g2, rfl, hga⟩, rfl⟩, rfl⟩
   refine Lpu rfl rfl trivial (by first | exact pu_pick_t rfl rfl | exact pu_pick_f rfl rfl) ?_
   refine LpuB rfl rfl trivial (pu_move rfl) (fun hg7 => ?_) (fun hg7 => ?_)
   ·
    refine Loff rfl rfl rfl rfl rfl rfl ?_
    refine Loff rfl rfl rfl rfl rfl rfl ?_
    refine Loff rfl rfl rfl rfl rfl rfl ?_
    refine Loff rfl rfl rfl rfl rfl rfl ?_
    refine Loff rfl rfl rfl rfl rfl rfl ?_
    refine Lpu rfl rfl trivial (by first | exact pu_pick_t rfl rfl | exact pu_pick_f rfl rfl) ?_
    refine Lnt ?_
    refine Gs.cond_t rfl ?_
    refine Gsr ?_
    refine Lac rfl rfl trivial (as_call (awake17_spec T) (by repeat constructor) (by repeat constructor)) ?_
    rintro _ _ ⟨_, ⟨rfl, rfl⟩, rfl⟩
    refine Las rfl rfl ?_
    refine Lnt ?_
    refine Gs.ret ?_
    refine Gs.then_r ?_
    exact Gs.fin1 Tryz.results6 rfl _ (⟨rfl, rfl⟩) (by repeat constructor)
   ·
    refine Lpu rfl rfl ⟨_, rfl, rfl⟩ (pu_fa fa_34_2 rfl) ?_
    refine Lpu rfl rfl ⟨_, rfl, rfl⟩ (pu_fa fa_32_2 rfl) ?_
    refine Lrd rfl rfl ⟨_, rfl, rfl⟩ (rd_ld na_9 rfl (Rdc.cl1 (by repeat constructor) rfl)) ?_
    refine Lpu rfl rfl ⟨_, rfl, rfl⟩ (pu_lenS Tryz.underlying9 rfl) ?_
    refine Lpu rfl rfl ⟨_, rfl, rfl⟩ (pu_gt rfl rfl) ?_
    refine Lpu rfl rfl trivial (by first | exact pu_pick_t rfl rfl | exact pu_pick_f rfl rfl) ?_
    refine Lnt ?_
    refine Gs.cond rfl (fun hc0 => ?_) (fun hc0 => ?_)
    ·
     refine Gsr ?_
     refine Lac rfl rfl trivial (as_call (awake17_spec T) (by repeat constructor) (by repeat constructor)) ?_
     rintro _ _ ⟨_, ⟨rfl, rfl⟩, rfl⟩
     refine Las rfl rfl ?_
     refine Lnt ?_
     refine Gs.ret ?_
     refine Gs.then_r ?_
     exact Gs.fin1 Tryz.results6 rfl _ (⟨rfl, rfl⟩) (by repeat constructor)
    ·
     have hxs : xs.length ≤ 25 := by have := hg hg2; omega
     obtain ⟨hF, hz0⟩ := hga hg7
     have hz : sizeA 13 y ≤ 1000 := by omega
     refine Gs.skip ?_
     refine Gs.then_n ?_
     refine Gsr ?_
     refine Lac rfl rfl trivial (as_call (snew_spec) (by repeat constructor) (by repeat constructor)) ?_
     rintro _ _ ⟨_, ⟨x, rfl, rfl⟩, rfl⟩
     refine Lac rfl rfl trivial (as_call (snew_spec) (by repeat constructor) (by repeat constructor)) ?_
     rintro _ _ ⟨_, ⟨t, rfl, rfl⟩, rfl⟩
     refine Las rfl rfl ?_
     refine Las rfl rfl ?_
     refine Lnt ?_
     refine Gs.seq ?_
     refine Gsr ?_
     refine Lmv rfl rfl ?_
     refine Lpu rfl rfl trivial (pu_eqN Tryz.underlying38 rfl rfl) ?_
     refine LpuBf rfl rfl trivial (pu_move rfl) rfl ?_
     refine Lpu rfl rfl ⟨_, rfl, rfl⟩ (pu_move rfl) ?_
     refine Lpu rfl rfl ⟨_, rfl, rfl⟩ (pu_eqN Tryz.underlying38 rfl rfl) ?_
     refine Lpu rfl rfl trivial (by first | exact pu_pick_t rfl rfl | exact pu_pick_f rfl rfl) ?_
     refine Lnt ?_
     refine Gs.cond_ff rfl rfl ?_
     refine Gs.skip ?_
     refine Gs.then_n ?_
     refine Gsr ?_
     refine Lmv rfl rfl ?_
     refine Lmv rfl rfl ?_
     refine Lac rfl rfl trivial (as_call (sput_spec hTW.u x [] (Srd.ro hx) (by show 0 + xs.length ≤ 800; omega)) (by repeat constructor) (by repeat constructor)) ?_
     rintro _ _ ⟨_, ⟨_, ⟨rfl, rfl⟩, rfl⟩, rfl⟩
     refine Lnil ?_
     obtain ⟨L, hL⟩ : ∃ L, L = xs.foldl putR [] := ⟨_, rfl⟩
     rw [← hL]
     have hLl : L.length ≤ 25 := by have := (put_len [] xs).2; rw [← hL] at this; simp at this; omega
     obtain ⟨hn, hb⟩ := fold_put (L := []) List.nodup_nil (fun _ h => by cases h) xs
     rw [← hL] at hn hb
     refine Gs.then_n ?_
     refine Gs.seq ?_
     refine Gs.regD mixed (by kernel_rfl) ?_
     refine Rg.pu 0 rfl rfl (by kernel_rfl) trivial (pu_move rfl) ?_
     refine Rg.pu 2 rfl rfl (by kernel_rfl) trivial (pu_move rfl) ?_
     refine Rg.rd 3 rfl rfl (by kernel_rfl) trivial (rd_lda ag_34 rfl (Rdc.cl 10 (by repeat constructor) rfl) rfl) ?_
     refine Rg.one (by kernel_rfl) (Stp.acR 1 [3] rfl rfl (by kernel_rfl) trivial (as_call (srecs_spec x L (by omega)) (by repeat constructor) (by repeat constructor)) (by rintro _ _ ⟨_, ⟨ea, ec, k0, rfl, hS0, rfl⟩, rfl⟩; exact (Reads.cons rfl rfl rfl trivial rfl (rd_lda ag_34 rfl (Rdc.cl 10 (by repeat constructor) rfl) rfl) Reads.nil)) ?_)
     rintro _ _ ⟨_, ⟨ea, ec, k0, rfl, hS0, rfl⟩, rfl⟩
     refine Rg.one (by kernel_rfl) (Stp.ac 4 rfl rfl (by kernel_rfl) trivial (as_call (sfind_spec x L (by omega) hTW hy hF hz (by decide) lim z) (by repeat constructor) (by repeat constructor))  ?_)
     rintro _ _ ⟨_, ⟨fa, fc, was, rfl, hW, rfl⟩, rfl⟩
     refine Rg.pu 5 rfl rfl (by kernel_rfl) trivial (pu_assign rfl) ?_
     refine Rg.pu 6 rfl rfl (by kernel_rfl) trivial (pu_assign rfl) ?_
     refine Rg.end (by kernel_rfl) ?_
     obtain ⟨A, hA⟩ : ∃ A, A = ofR L k0 := ⟨_, rfl⟩
     rw [← hA]
     have hAp : List.Perm A L := hA ▸ recs_perm hn hS0
     have hAl : A.length ≤ 25 := by rw [hAp.length_eq]; exact hLl
     have hAn := keys_perm hAp.symm hn
     have hwl := hW.len
     refine Gs.slAddr (SlH.own (xs := A) (E := 32) (enc := recC) (a := ea) (c := ec) (by repeat constructor)) fun eb eo hea => ?_
     refine Gs.then_n ?_
     refine Gsr ?_
     refine Las rfl rfl ?_
     refine Lnil ?_
     refine Gs.slNil 32 5 recC ?_
     refine Gs.then_n ?_
     refine Gs.seq ?_
     refine Gsr ?_
     refine Las rfl rfl ?_
     refine Lnt ?_
     refine Gs.block ?_
     refine Gs.loop1 (fun s : Nat × ((Option Addr × Nat) × List Rec) × List Rec × List Rec => s.1 ≤ A.length ∧ List.Perm (s.2.1.2 ++ s.2.2.2) (A.take s.1) ∧ List.Perm (s.2.2.1 ++ s.2.1.2) L) (fun s => [(1, int bits), (5, ptr qb), (7, ptr x), (8, ptr t), (9, .slice ea A.length ec), (10, .slice fa was.length fc), (11, .slice s.2.1.1.1 s.2.1.2.length s.2.1.1.2), (12, int s.1)]) (fun s => [shA x s.2.2.1, shA t s.2.2.2, rsA ea ec A, rsA fa fc was, rsA s.2.1.1.1 s.2.1.1.2 s.2.1.2, cl qb 34 (quC y lim z), ro h0] ++ R) (fun s => A.length - s.1) (0, ((none, 0), []), L, []) (⟨Nat.zero_le _, List.Perm.refl _, by simp⟩) (by repeat constructor) (by repeat constructor) (fun s hs => ?_)
     obtain ⟨i, ⟨⟨ga, gc⟩, G⟩, S, P⟩ := s
     obtain ⟨hi, hGP, hSG⟩ := hs
     dsimp only at hi hGP hSG ⊢
     have hGl : G.length + P.length = i := by have := hGP.length_eq; rw [List.length_append, List.length_take] at this; omega
     have hSl : S.length + G.length = L.length := by have := hSG.length_eq; rw [List.length_append] at this; omega
     refine Gs.seq ?_
     refine Gsr ?_
     refine Lmv rfl rfl ?_
     refine Lmv rfl rfl ?_
     refine Lpu rfl rfl trivial (pu_len Tryz.underlying41 rfl) ?_
     refine Lpu rfl rfl trivial (pu_lt rfl rfl) ?_
     refine Lnt ?_
     refine Gs.cond rfl (fun hc2 => ?_) (fun hc2 => ?_)
     ·
      have hlt : i < A.length := by have := of_decide_eq_true hc2; omega
      obtain ⟨r, hr⟩ : ∃ r, A[i]? = some r := ⟨A[i], by simp [hlt]⟩
      obtain rfl := hea (by rintro rfl; simp at hlt)
      have hrL : r ∈ L := hAp.mem_iff.1 (List.mem_of_getElem? hr)
      have hni := not_in_take hAn hr hGP
      have htk := take_snoc hr
      have hnG : r ∉ G := fun h => hni (List.mem_map.2 ⟨r, List.mem_append_left _ h, rfl⟩)
      have hnP : r.key ∉ P.map Rec.key := fun h => hni (by rw [List.map_append]; exact List.mem_append_right _ h)
      obtain ⟨hgs1, hgs2, hgs3⟩ := gone_step hn hSG hrL hnG
      have hpn := putR_new (hb r hrL) hnP
      refine Gs.skip ?_
      refine Gs.then_n ?_
      refine Gs.seq ?_
      refine Gs.block ?_
      refine Gsr ?_
      refine Lmv rfl rfl ?_
      refine Lmv rfl rfl ?_
      refine Lpu rfl rfl trivial (pu_rem rfl rfl (by decide)) ?_
      refine Lpu rfl rfl trivial (pu_shr rfl rfl (Int.tmod_nonneg _ (by omega))) ?_
      refine Lpu rfl rfl trivial (pu_and rfl rfl) ?_
      refine Lpu rfl rfl trivial (pu_eq rfl rfl) ?_
      refine Lnt ?_
      refine Gs.cond rfl (fun hc3 => ?_) (fun hc3 => ?_)
      ·
       refine Gsr ?_
       refine Lmv rfl rfl ?_
       refine Lmv rfl rfl ?_
       refine Lmv rfl rfl ?_
       refine Lpu rfl rfl trivial (pu_ia se_41 rfl rfl (by omega) (by omega)) ?_
       refine Lrd rfl rfl trivial (rd_lda ag_32 rfl (Rdc.el0 (SlH.own (xs := A) (E := 32) (enc := recC) (sz := 5) (by repeat constructor)) hr rfl rfl) rfl) ?_
       refine Lac rfl rfl trivial (ac_lit encC_32 ([r]) et_41 ek_32 rfl (by repeat constructor) rfl rfl (by decide)) ?_
       rintro _ _ ⟨a61, rfl, rfl⟩
       refine Lac rfl rfl trivial (ac_append (xs := G) (ys := [r]) et_41 ek_32 rfl rfl (by repeat constructor) (SrcH.sl Tryz.underlying41 ek_32 (SlH.own (by repeat constructor))) (by first | omega | (simp; omega)) (by first | omega | (simp; omega))) ?_
       rintro _ _ ⟨a62, c62, rfl, rfl⟩
       refine Las rfl rfl ?_
       refine Lnt ?_
       refine Gsr ?_
       refine Lmv rfl rfl ?_
       refine Lmv rfl rfl ?_
       refine Lmv rfl rfl ?_
       refine Lpu rfl rfl trivial (pu_ia se_41 rfl rfl (by omega) (by omega)) ?_
       refine Lpu rfl rfl trivial (pu_fa fa_32_0 rfl) ?_
       refine Lrd rfl rfl trivial (rd_lda ag_28 rfl (Rdc.elp (f := 0) 2 (SlH.own (xs := A) (E := 32) (enc := recC) (sz := 5) (by repeat constructor)) hr rfl rfl) rfl) ?_
       refine Lac rfl rfl trivial (ac_lit encC_28 ([r.key]) et_48 ek_28 rfl (by repeat constructor) rfl rfl (by decide)) ?_
       rintro _ _ ⟨a69, rfl, rfl⟩
       refine Lac rfl rfl trivial (as_call (sdrop_spec x S (U := sl 28 2 keyC (some ⟨a69, 0, none⟩) 1 [r.key]) (a := some ⟨a69, 0, none⟩) (c := 1) (ks := [r.key]) Srd.own (Nat.le_of_ble_eq_true rfl)) (by repeat constructor) (by repeat constructor)) ?_
       rintro _ _ ⟨_, ⟨rfl, rfl⟩, rfl⟩
       rw [show [r.key].foldl dropR S = dropR S r.key from rfl, hgs2]
       refine Lpu rfl rfl trivial (pu_ne rfl rfl) ?_
       refine Lnt ?_
       refine Gs.cond_ff rfl rfl ?_
       refine Gs.skip ?_
       refine Gs.blk_n ?_
       refine Gs.then_n ?_
       refine Gs.reg ?_
       refine Lmv rfl rfl ?_
       refine Lpu rfl rfl trivial (by first | exact pu_addI rfl rfl rfl (by omega) (by omega) | exact pu_add rfl rfl) ?_
       refine Las rfl rfl ?_
       refine Lnt ?_
       first | exact Gs.again1 (i + 1, ((a62, c62), G ++ [r]), dropR S r.key, P) ⟨hlt, by show List.Perm (G ++ [r] ++ P) (A.take (i + 1)); rw [htk]; exact perm_goneG hGP, hgs3⟩ (by show A.length - (i + 1) < A.length - i; omega) (by repeat constructor) (by repeat constructor) | exact Gs.again1 (i + 1, ((ga, gc), G), S, P ++ [r]) ⟨hlt, by show List.Perm (G ++ (P ++ [r])) (A.take (i + 1)); rw [htk]; exact perm_goneP hGP, hSG⟩ (by show A.length - (i + 1) < A.length - i; omega) (by repeat constructor) (by repeat constructor)
      ·
       refine Gsr ?_
       refine Lmv rfl rfl ?_
       refine Lmv rfl rfl ?_
       refine Lmv rfl rfl ?_
       refine Lpu rfl rfl trivial (pu_ia se_41 rfl rfl (by omega) (by omega)) ?_
       refine Lrd rfl rfl trivial (rd_lda ag_32 rfl (Rdc.el0 (SlH.own (xs := A) (E := 32) (enc := recC) (sz := 5) (by repeat constructor)) hr rfl rfl) rfl) ?_
       refine Lac rfl rfl trivial (ac_lit encC_32 ([r]) et_41 ek_32 rfl (by repeat constructor) rfl rfl (by decide)) ?_
       rintro _ _ ⟨a77, rfl, rfl⟩
       refine Lac rfl rfl trivial (as_call (Ct.twoR (sput_spec (S := two (ro h0) (rsA (some ⟨a77, 0, none⟩) 1 [r])) (hTW.u.inn Inn.two1) t P (a := some ⟨a77, 0, none⟩) (c := 1) (ys := [r]) (Srd.two2 Srd.own) (by show P.length + 1 ≤ 800; omega))) (by repeat constructor) (by repeat constructor)) ?_
       rintro _ _ ⟨_, ⟨_, ⟨rfl, rfl⟩, rfl⟩, rfl⟩
       rw [show [r].foldl putR P = P ++ [r] from hpn, show (P ++ [r]).length - P.length = 1 by rw [List.length_append, List.length_singleton]; omega]
       refine Lpu rfl rfl trivial (pu_ne rfl rfl) ?_
       refine Lnt ?_
       refine Gs.cond_ff rfl rfl ?_
       refine Gs.skip ?_
       refine Gs.blk_n ?_
       refine Gs.then_n ?_
       refine Gs.reg ?_
       refine Lmv rfl rfl ?_
       refine Lpu rfl rfl trivial (by first | exact pu_addI rfl rfl rfl (by omega) (by omega) | exact pu_add rfl rfl) ?_
       refine Las rfl rfl ?_
       refine Lnt ?_
       first | exact Gs.again1 (i + 1, ((a62, c62), G ++ [r]), dropR S r.key, P) ⟨hlt, by show List.Perm (G ++ [r] ++ P) (A.take (i + 1)); rw [htk]; exact perm_goneG hGP, hgs3⟩ (by show A.length - (i + 1) < A.length - i; omega) (by repeat constructor) (by repeat constructor) | exact Gs.again1 (i + 1, ((ga, gc), G), S, P ++ [r]) ⟨hlt, by show List.Perm (G ++ (P ++ [r])) (A.take (i + 1)); rw [htk]; exact perm_goneP hGP, hSG⟩ (by show A.length - (i + 1) < A.length - i; omega) (by repeat constructor) (by repeat constructor)
     ·
      have hge : i = A.length := by have := of_decide_eq_false hc2; omega
      rw [hge, List.take_length] at hGP
      have hSP := perm_left hGP hSG hAp
      have hnSG := keys_perm hSG.symm hn
      have hnS : (S.map Rec.key).Nodup := by rw [List.map_append] at hnSG; exact (List.nodup_append.1 hnSG).1
      have hbG : ∀ r ∈ G, recB r = true := fun r h => hb r (hSG.mem_iff.1 (List.mem_append_right _ h))
      have hput := putsR_new hbG hnSG
      refine Gs.exit ?_
      refine Gs.then_x ?_
      refine Gs.then_x ?_
      refine Gs.blk_hit ?_
      refine Gs.then_n ?_
      refine Gs.seq ?_
      refine Gs.seq ?_
      refine Gs.regD mixed (by kernel_rfl) ?_
      refine Rg.pu 0 rfl rfl (by kernel_rfl) trivial (pu_move rfl) ?_
      refine Rg.rd 1 rfl rfl (by kernel_rfl) trivial (rd_lda ag_34 rfl (Rdc.cl 10 (by repeat constructor) rfl) rfl) ?_
      refine Rg.pu 3 rfl rfl (by kernel_rfl) trivial (pu_move rfl) ?_
      refine Rg.rd 4 rfl rfl (by kernel_rfl) trivial (rd_lda ag_34 rfl (Rdc.cl 10 (by repeat constructor) rfl) rfl) ?_
      refine Rg.one (by kernel_rfl) (Stp.acR 2 [4] rfl rfl (by kernel_rfl) trivial (as_call (sfind_spec x S (by omega) hTW hy hF hz (by decide) lim z) (by repeat constructor) (by repeat constructor)) (by rintro _ _ ⟨_, ⟨ua, uc, o1, rfl, hO1, rfl⟩, rfl⟩; exact (Reads.cons rfl rfl rfl trivial rfl (rd_lda ag_34 rfl (Rdc.cl 10 (by repeat constructor) rfl) rfl) Reads.nil)) ?_)
      rintro _ _ ⟨_, ⟨ua, uc, o1, rfl, hO1, rfl⟩, rfl⟩
      refine Rg.one (by kernel_rfl) (Stp.ac 5 rfl rfl (by kernel_rfl) trivial (as_call (sfind_spec t P (by omega) hTW hy hF hz (by decide) lim z) (by repeat constructor) (by repeat constructor))  ?_)
      rintro _ _ ⟨_, ⟨va, vc, o2, rfl, hO2, rfl⟩, rfl⟩
      obtain rfl := find_same hSP hO1 hO2
      have hol := hO1.len
      refine Rg.one (by kernel_rfl) (Stp.ac 6 rfl rfl (by kernel_rfl) trivial (as_call (Ct.two0 (sameRecs_spec (S := two (rsA ua uc o1) (rsA va vc o1)) (a := ua) (b := va) (c := uc) (d := vc) (xs := o1) (ys := o1) (Srd.two1 Srd.own) (Srd.two2 Srd.own) (by omega))) (by repeat constructor) (by repeat constructor))  ?_)
      rintro _ _ ⟨_, ⟨rfl, rfl⟩, rfl⟩
      rw [decide_eq_true (rfl : o1 = o1)]
      refine Rg.pu 7 rfl rfl (by kernel_rfl) trivial (pu_not rfl) ?_
      refine Rg.puBf 8 rfl rfl (by kernel_rfl) trivial (pu_move rfl) rfl ?_
      refine Rg.pu 9 rfl rfl (by kernel_rfl) ⟨_, rfl, rfl⟩ (pu_move rfl) ?_
      refine Rg.pu 11 rfl rfl (by kernel_rfl) ⟨_, rfl, rfl⟩ (pu_move rfl) ?_
      refine Rg.one (by kernel_rfl) (Stp.ac 10 rfl rfl (by kernel_rfl) ⟨_, rfl, rfl⟩ (as_call (srecs_spec x S (by omega)) (by repeat constructor) (by repeat constructor))  ?_)
      rintro _ _ ⟨_, ⟨wa, wc, k1, rfl, hS1, rfl⟩, rfl⟩
      refine Rg.one (by kernel_rfl) (Stp.ac 12 rfl rfl (by kernel_rfl) ⟨_, rfl, rfl⟩ (as_call (srecs_spec t P (by omega)) (by repeat constructor) (by repeat constructor))  ?_)
      rintro _ _ ⟨_, ⟨xa, xc, k2, rfl, hS2, rfl⟩, rfl⟩
      rw [← recs_same hSP hnS hS1 hS2]
      have hk1 := hS1.len
      refine Rg.one (by kernel_rfl) (Stp.ac 13 rfl rfl (by kernel_rfl) ⟨_, rfl, rfl⟩ (as_call (Ct.two0 (sameRecs_spec (S := two (rsA wa wc (ofR S k1)) (rsA xa xc (ofR S k1))) (a := wa) (b := xa) (c := wc) (d := xc) (xs := ofR S k1) (ys := ofR S k1) (Srd.two1 Srd.own) (Srd.two2 Srd.own) (by rw [ofR_len]; omega))) (by repeat constructor) (by repeat constructor))  ?_)
      rintro _ _ ⟨_, ⟨rfl, rfl⟩, rfl⟩
      rw [decide_eq_true (rfl : ofR S k1 = ofR S k1)]
      refine Rg.pu 14 rfl rfl (by kernel_rfl) ⟨_, rfl, rfl⟩ (pu_not rfl) ?_
      refine Rg.pu 15 rfl rfl (by kernel_rfl) trivial (by first | exact pu_pick_t rfl rfl | exact pu_pick_f rfl rfl) ?_
      refine Rg.puBf 16 rfl rfl (by kernel_rfl) trivial (pu_move rfl) rfl ?_
      refine Rg.pu 17 rfl rfl (by kernel_rfl) ⟨_, rfl, rfl⟩ (pu_move rfl) ?_
      refine Rg.pu 18 rfl rfl (by kernel_rfl) ⟨_, rfl, rfl⟩ (pu_fa fa_34_0 rfl) ?_
      refine Rg.rd 19 rfl rfl (by kernel_rfl) ⟨_, rfl, rfl⟩ (rd_lda ag_26 rfl (Rdc.cl 4 (by repeat constructor) rfl) rfl) ?_
      refine Rg.pu 21 rfl rfl (by kernel_rfl) ⟨_, rfl, rfl⟩ (pu_move rfl) ?_
      refine Rg.pu 22 rfl rfl (by kernel_rfl) ⟨_, rfl, rfl⟩ (pu_fa fa_34_0 rfl) ?_
      refine Rg.rd 23 rfl rfl (by kernel_rfl) ⟨_, rfl, rfl⟩ (rd_lda ag_26 rfl (Rdc.cl 4 (by repeat constructor) rfl) rfl) ?_
      refine Rg.one (by kernel_rfl) (Stp.acR 20 [23] rfl rfl (by kernel_rfl) ⟨_, rfl, rfl⟩ (as_call (sKeys_spec x S (by omega) hTW.u hy hF hz (by decide)) (by repeat constructor) (by repeat constructor)) (by rintro _ _ ⟨_, ⟨ya, yc, k3, rfl, hQ1, rfl⟩, rfl⟩; exact (Reads.cons rfl rfl rfl ⟨_, rfl, rfl⟩ rfl (rd_lda ag_26 rfl (Rdc.cl 4 (by repeat constructor) rfl) rfl) Reads.nil)) ?_)
      rintro _ _ ⟨_, ⟨ya, yc, k3, rfl, hQ1, rfl⟩, rfl⟩
      refine Rg.one (by kernel_rfl) (Stp.ac 24 rfl rfl (by kernel_rfl) ⟨_, rfl, rfl⟩ (as_call (sKeys_spec t P (by omega) hTW.u hy hF hz (by decide)) (by repeat constructor) (by repeat constructor))  ?_)
      rintro _ _ ⟨_, ⟨za, zc, k4, rfl, hQ2, rfl⟩, rfl⟩
      obtain rfl := keys_same hSP hQ1 hQ2
      have hk3 := hQ1.len
      refine Rg.one (by kernel_rfl) (Stp.ac 25 rfl rfl (by kernel_rfl) ⟨_, rfl, rfl⟩ (as_call (Ct.two0 (sameKeys_spec (S := two (sl 28 2 keyC ya yc k3) (sl 28 2 keyC za zc k3)) (a := ya) (b := za) (c := yc) (d := zc) (xs := k3) (ys := k3) (Srd.two1 Srd.own) (Srd.two2 Srd.own) (by omega))) (by repeat constructor) (by repeat constructor))  ?_)
      rintro _ _ ⟨_, ⟨rfl, rfl⟩, rfl⟩
      rw [decide_eq_true (rfl : k3 = k3)]
      refine Rg.pu 26 rfl rfl (by kernel_rfl) ⟨_, rfl, rfl⟩ (pu_not rfl) ?_
      refine Rg.pu 27 rfl rfl (by kernel_rfl) trivial (by first | exact pu_pick_t rfl rfl | exact pu_pick_f rfl rfl) ?_
      refine Rg.end (by kernel_rfl) ?_
      refine Gs.then_n ?_
      refine Gs.cond_ff rfl rfl ?_
      refine Gs.skip ?_
      refine Gs.then_n ?_
      refine Gsr ?_
      refine Lmv rfl rfl ?_
      refine Lmv rfl rfl ?_
      refine Lac rfl rfl trivial (as_call (Ct.twoR (sput_spec (S := two (ro h0) (rsA ga gc G)) (hTW.u.inn Inn.two1) x S (a := ga) (c := gc) (ys := G) (Srd.two2 Srd.own) (by omega))) (by repeat constructor) (by repeat constructor)) ?_
      rintro _ _ ⟨_, ⟨_, ⟨rfl, rfl⟩, rfl⟩, rfl⟩
      rw [hput, show (S ++ G).length - S.length = G.length by rw [List.length_append]; omega]
      refine Lmv rfl rfl ?_
      refine Lpu rfl rfl trivial (pu_len Tryz.underlying41 rfl) ?_
      refine Lpu rfl rfl trivial (pu_eq rfl rfl) ?_
      refine LpuBt rfl rfl trivial (pu_move rfl) (decide_eq_true rfl) ?_
      refine Lpu rfl rfl ⟨_, rfl, rfl⟩ (pu_move rfl) ?_
      refine Lrd rfl rfl ⟨_, rfl, rfl⟩ (rd_lda ag_34 rfl (Rdc.cl 10 (by repeat constructor) rfl) rfl) ?_
      refine Lac rfl rfl ⟨_, rfl, rfl⟩ (as_call (sfind_spec x (S ++ G) (by rw [List.length_append]; omega) hTW hy hF hz (by decide) lim z) (by repeat constructor) (by repeat constructor)) ?_
      rintro _ _ ⟨_, ⟨pa, pc, o3, rfl, hO3, rfl⟩, rfl⟩
      obtain rfl := find_same hSG hO3 hW
      refine Lpu rfl rfl ⟨_, rfl, rfl⟩ (pu_move rfl) ?_
      refine Lac rfl rfl ⟨_, rfl, rfl⟩ (as_call (Ct.two0 (sameRecs_spec (S := two (rsA pa pc o3) (rsA fa fc o3)) (a := pa) (b := fa) (c := pc) (d := fc) (xs := o3) (ys := o3) (Srd.two1 Srd.own) (Srd.two2 Srd.own) (by omega))) (by repeat constructor) (by repeat constructor)) ?_
      rintro _ _ ⟨_, ⟨rfl, rfl⟩, rfl⟩
      refine Lpu rfl rfl trivial (by first | exact pu_pick_t rfl rfl | exact pu_pick_f rfl rfl) ?_
      refine LpuBt rfl rfl trivial (pu_move rfl) (decide_eq_true rfl) ?_
      refine Lpu rfl rfl ⟨_, rfl, rfl⟩ (pu_move rfl) ?_
      refine Lac rfl rfl ⟨_, rfl, rfl⟩ (as_call (srecs_spec x (S ++ G) (by rw [List.length_append]; omega)) (by repeat constructor) (by repeat constructor)) ?_
      rintro _ _ ⟨_, ⟨qa, qc, k5, rfl, hS5, rfl⟩, rfl⟩
      rw [recs_same hSG hnSG hS5 hS0, ← hA]
      refine Lpu rfl rfl ⟨_, rfl, rfl⟩ (pu_move rfl) ?_
      refine Lac rfl rfl ⟨_, rfl, rfl⟩ (as_call (Ct.two0 (sameRecs_spec (S := two (rsA qa qc A) (rsA ea ec A)) (a := qa) (b := ea) (c := qc) (d := ec) (xs := A) (ys := A) (Srd.two1 Srd.own) (Srd.two2 Srd.own) (by omega))) (by repeat constructor) (by repeat constructor)) ?_
      rintro _ _ ⟨_, ⟨rfl, rfl⟩, rfl⟩
      refine Lpu rfl rfl trivial (by first | exact pu_pick_t rfl rfl | exact pu_pick_f rfl rfl) ?_
      refine LpuBt rfl rfl trivial (pu_move rfl) (decide_eq_true rfl) ?_
      refine Lac rfl rfl ⟨_, rfl, rfl⟩ (as_call (awake17_spec T) (by repeat constructor) (by repeat constructor)) ?_
      rintro _ _ ⟨_, ⟨rfl, rfl⟩, rfl⟩
      refine Lpu rfl rfl trivial (by first | exact pu_pick_t rfl rfl | exact pu_pick_f rfl rfl) ?_
      refine Las rfl rfl ?_
      refine Lnt ?_
      refine Gs.ret ?_
      exact Gs.fin1 Tryz.results6 rfl _ (⟨rfl, rfl⟩) (by repeat constructor)
end Go.Proofs.YtklgiidfompdpaaGreatDoor
namespace Go.Proofs.YtklgiidfompdpaaGreatDoor
open Go Go.Sl Go.ChangeShapes Go.WideShapes Go.ChangeAt Go.RowKit Go.Lib Go.Shelf
set_option maxRecDepth 100000
theorem own : ownKnob Tryz.prog.godebug = none := by kernel_rfl
theorem laidOut : laidOutB Tryz.prog = true := by kernel_rfl
abbrev laidList : List (String × DataW Unit) := [("math/bits.deBruijn32tab", Rows.laid_math_bits_deBruijn32tab), ("math/bits.deBruijn64tab", Rows.laid_math_bits_deBruijn64tab), ("internal/strconv.uint64pow10", Rows.laid_internal_strconv_uint64pow10), ("unicode/utf8.acceptRanges", acceptData), ("unicode.properties", Lib.tabData .u8 Lib.propertiesTab)] ++ [("unicode.CaseRanges", caseData)] ++ [("unicode.Digit", rtabData digitT)] ++ [("unicode.Letter", rtabData letterT)] ++ [("unicode/utf8.first", firstData)]
theorem xL : RExtra Tryz.prog Tryz.laysLetter_ren := ⟨by kernel_rfl, by kernel_rfl, by kernel_rfl, by kernel_rfl, by kernel_rfl, by kernel_rfl, by kernel_rfl, by kernel_rfl⟩
theorem xD : RExtra Tryz.prog Tryz.laysDigit_ren := ⟨by kernel_rfl, by kernel_rfl, by kernel_rfl, by kernel_rfl, by kernel_rfl, by kernel_rfl, by kernel_rfl, by kernel_rfl⟩
theorem xC : CaseExtra Tryz.prog Tryz.laysLower_ren := ⟨by kernel_rfl, by kernel_rfl, by kernel_rfl, by kernel_rfl, by kernel_rfl, by kernel_rfl⟩
theorem cT : Go.Great.CTypes Tryz.prog 243 297 295 193 21 := ⟨by kernel_rfl, by kernel_rfl, by kernel_rfl, by kernel_rfl, by kernel_rfl, by kernel_rfl, by kernel_rfl, by kernel_rfl, by kernel_rfl⟩
noncomputable abbrev N0 : Nat := (World.settled Tryz.prog default).heap.size
/-- The settled world with seven blocks more; the variables hold what their initialisers lay. -/
noncomputable def laidWorld (os : Os) : World :=
  let N := (World.settled Tryz.prog os).heap.size
  let ρ := Tryz.laysLetter_ren
  let w0 := World.holding Tryz.prog os ⟨#[
    .cells (rgCells .u16 letterT.r16) (ρ.t 198), .cells (rgCells .u32 letterT.r32) (ρ.t 201),
    .cells #[.slice (some ⟨N, 0, none⟩) letterT.r16.size letterT.r16.size, .slice (some ⟨N + 1, 0, none⟩) letterT.r32.size letterT.r32.size, .int .i64 letterT.off] (ρ.t 196),
    .cells (rgCells .u16 digitT.r16) (ρ.t 198), .cells (rgCells .u32 digitT.r32) (ρ.t 201),
    .cells #[.slice (some ⟨N + 3, 0, none⟩) digitT.r16.size digitT.r16.size, .slice (some ⟨N + 4, 0, none⟩) digitT.r32.size digitT.r32.size, .int .i64 digitT.off] (ρ.t 196),
    .cells (caseT.flatMap Lib.cells5).toArray 297], #[], []⟩
  let put (h : Array Obj) (g : Nat) (cs : Array Value) : Array Obj := h.modify g fun
    | .cells _ t frozen => .cells cs t frozen
    | o => o
  let h1 := put w0.heap 0 (Go.Pinned.utf8FirstZ.map fun (z : Nat) => Value.int .u8 z).toArray
  let h2 := put h1 1 ((List.range 16).flatMap fun i => [Value.int .u8 (Lib.accLo i), Value.int .u8 (Lib.accHi i)]).toArray
  let h3 := put h2 2 (Lib.propertiesTab.map fun z => Value.int .u8 z).toArray
  let h4 := put h3 3 #[.pointer (some ⟨N + 2, 0, none⟩)]
  let h5 := put h4 4 #[.pointer (some ⟨N + 5, 0, none⟩)]
  let h6 := put h5 5 #[.slice (some ⟨N + 6, 0, none⟩) caseT.length caseT.length]
  let h7 := put h6 8 (([0, 1, 28, 2, 29, 14, 24, 3, 30, 22, 20, 15, 25, 17, 4, 8, 31, 27, 13, 23, 21, 19, 16, 7, 26, 12, 18, 6, 11, 5, 10, 9] : List Int).map fun z => Value.int .u8 z).toArray
  let h8 := put h7 9 (([0, 1, 56, 2, 57, 49, 28, 3, 61, 58, 42, 50, 38, 29, 17, 4, 62, 47, 59, 36, 45, 43, 51, 22, 53, 39, 33, 30, 24, 18, 12, 5, 63, 55, 48, 27, 60, 41, 37, 16, 46, 35, 44, 21, 52, 32, 23, 11, 54, 26, 40, 15, 34, 20, 31, 10, 25, 14, 19, 9, 13, 8, 7, 6] : List Int).map fun z => Value.int .u8 z).toArray
  let h9 := put h8 6 (([1, 10, 100, 1000, 10000, 100000, 1000000, 10000000, 100000000, 1000000000, 10000000000, 100000000000, 1000000000000, 10000000000000, 100000000000000, 1000000000000000, 10000000000000000, 100000000000000000, 1000000000000000000, 10000000000000000000] : List Int).map fun z => Value.int .u64 z).toArray
  { w0 with heap := h9 }
noncomputable abbrev lw (os : Os) (args : Array Value) : World := ((laidWorld os).forCall (fun _ _ => 0) ⟨#[], args, []⟩).memory
theorem piece0 (os : Os) (args : Array Value) : LaidIn Tryz.prog (lw os args) [("math/bits.deBruijn32tab", Rows.laid_math_bits_deBruijn32tab), ("math/bits.deBruijn64tab", Rows.laid_math_bits_deBruijn64tab), ("internal/strconv.uint64pow10", Rows.laid_internal_strconv_uint64pow10), ("unicode/utf8.acceptRanges", acceptData), ("unicode.properties", Lib.tabData .u8 Lib.propertiesTab)] [8, 9, 6, 1, 2] :=
  LaidIn.of_run _ 8 (by kernel_rfl) (by kernel_rfl) (by kernel_rfl) (by kernel_rfl)
theorem piece1 (os : Os) (args : Array Value) : LaidIn Tryz.prog (lw os args) [("unicode.CaseRanges", caseData)] [5, N0 + 6] :=
  Go.Great.laidIn_case cT (g := 5) (B := N0 + 6) (tg := 243) (tb := 297) caseT (by kernel_rfl) (by kernel_rfl) (of_decide_eq_true (by kernel_rfl)) (by kernel_rfl) (by kernel_rfl) (by kernel_rfl) (of_decide_eq_true (by kernel_rfl))
theorem piece2 (os : Os) (args : Array Value) : LaidIn Tryz.prog (lw os args) [("unicode.Digit", rtabData digitT)] [4, N0 + 5, N0 + 3, N0 + 4] :=
  laidIn_rtab (ρ := Tryz.laysDigit_ren) { Tryz.laysDigit with } xD (by kernel_rfl) (by kernel_rfl) digitT (N0 + 5) (N0 + 3) (N0 + 4) (Tryz.laysDigit_ren.t 198) (Tryz.laysDigit_ren.t 201)
    (by kernel_rfl) (by kernel_rfl) (by kernel_rfl) (by kernel_rfl) (by kernel_rfl) (of_decide_eq_true (by kernel_rfl)) (of_decide_eq_true (by kernel_rfl)) (of_decide_eq_true (by kernel_rfl))
theorem piece3 (os : Os) (args : Array Value) : LaidIn Tryz.prog (lw os args) [("unicode.Letter", rtabData letterT)] [3, N0 + 2, N0, N0 + 1] :=
  laidIn_rtab (ρ := Tryz.laysLetter_ren) { Tryz.laysLetter with } xL (by kernel_rfl) (by kernel_rfl) letterT (N0 + 2) N0 (N0 + 1) (Tryz.laysLetter_ren.t 198) (Tryz.laysLetter_ren.t 201)
    (by kernel_rfl) (by kernel_rfl) (by kernel_rfl) (by kernel_rfl) (by kernel_rfl) (of_decide_eq_true (by kernel_rfl)) (of_decide_eq_true (by kernel_rfl)) (of_decide_eq_true (by kernel_rfl))
theorem piece4 (os : Os) (args : Array Value) : LaidIn Tryz.prog (lw os args) [("unicode/utf8.first", firstData)] [0] :=
  LaidIn.of_run [0] 8 (by kernel_rfl) (by kernel_rfl) (by kernel_rfl) (by kernel_rfl)
theorem laid_all (os : Os) (args : Array Value) : laidMet Tryz.prog laidList (lw os args) :=
  (((((piece0 os args).append (piece1 os args) (by kernel_rfl)).append (piece2 os args) (by kernel_rfl)).append (piece3 os args) (by kernel_rfl)).append (piece4 os args) (by kernel_rfl)).met
theorem cell_le {W w : World} (h : Hp.le (whole W) w) {a : Addr} {v : Value} (e : W.cell? a = some v) : w.cell? a = some v := by
  cases hb : W.heap[a.block]? with
  | none => simp [World.cell?, hb] at e
  | some o =>
    have : w.heap[a.block]? = some o := h a.block o (by simp [whole, hb])
    rw [← e]; simp [World.cell?, hb, this]
theorem var_le {W w : World} (h : Hp.le (whole W) w) {n : String} {cs : Array Value} (e : W.var? Tryz.prog n = some cs) : w.var? Tryz.prog n = some cs := by
  unfold World.var? at e ⊢
  cases hg : Tryz.prog.globalNamed n with
  | none => rw [hg] at e; cases e
  | some g =>
    rw [hg] at e
    simp only [Option.bind_some] at e ⊢
    cases hb : W.heap[g]? with
    | none => rw [hb] at e; cases e
    | some o =>
      rw [hb] at e
      rw [h g o (by simp [whole, hb])]; exact e
theorem rgTab_le {W w : World} (h : Hp.le (whole W) w) {k : IntKind} {R oR : Nat} {T : Array Rg} (e : RgTab k R oR T W) : RgTab k R oR T w := fun i hi => ⟨cell_le h (e i hi).1, cell_le h (e i hi).2.1, cell_le h (e i hi).2.2⟩
theorem rvar_le {W w : World} (h : Hp.le (whole W) w) {g : Nat} {T : RTab} (e : RVar g T W) : RVar g T w := by
  obtain ⟨Tb, oT, h0, a16, a32, R16, o16, c16, R32, o32, c32, h1, h2, h3, h4, h5, h6, h7, h8⟩ := e
  exact ⟨Tb, oT, cell_le h h0, a16, a32, R16, o16, c16, R32, o32, c32, cell_le h h1, cell_le h h2, cell_le h h3, h4, h5, rgTab_le h h6, rgTab_le h h7, h8⟩
theorem case_le {W w : World} (h : Hp.le (whole W) w) {g : Nat} {T : Array CaseRow} (e : CaseVar g T W) : CaseVar g T w := by
  obtain ⟨R, oR, cap, h1, h2⟩ := e
  exact ⟨R, oR, cap, cell_le h h1, fun i hi => ⟨cell_le h (h2 i hi).1, cell_le h (h2 i hi).2.1, cell_le h (h2 i hi).2.2.1, cell_le h (h2 i hi).2.2.2.1, cell_le h (h2 i hi).2.2.2.2⟩⟩
theorem tabs_of {W : World} (hL : laidMet Tryz.prog laidList W) : TabY (whole W) := by
  have h1 := Lib.laidMet.reads hL (.tail _ (.tail _ (.tail _ (.head _))))
  have h2 := Lib.laidMet.reads hL (.tail _ (.tail _ (.tail _ (.tail _ (.tail _ (.tail _ (.tail _ (.tail _ (.head _)))))))))
  have hp := Lib.laidMet.reads hL (.tail _ (.tail _ (.tail _ (.tail _ (.head _)))))
  have hw := Lib.laidMet.reads hL (.tail _ (.tail _ (.head _)))
  have hc := Lib.laidMet.reads hL (.tail _ (.tail _ (.tail _ (.tail _ (.tail _ (.head _))))))
  have hd := Lib.laidMet.reads hL (.tail _ (.tail _ (.tail _ (.tail _ (.tail _ (.tail _ (.head _)))))))
  have hl := Lib.laidMet.reads hL (.tail _ (.tail _ (.tail _ (.tail _ (.tail _ (.tail _ (.tail _ (.head _))))))))
  have h : Lib.Utf8Tabs (Tryz.laysValid_ren.g 3) (Tryz.laysValid_ren.g 4) W := utf8Tabs_of_readsT (U8Types.of196 Tryz.laysValid) ⟨by kernel_rfl, by kernel_rfl, by kernel_rfl, by kernel_rfl, by kernel_rfl, by kernel_rfl, by kernel_rfl⟩ h2 h1
  have hP : Lib.TabIs Tryz.prog W "unicode.properties" .u8 Lib.propertiesTab := by
    obtain ⟨g, t, cs, fuel, p, hg, hty, hvar, hdd⟩ := hp
    have eg : Tryz.prog.globalNamed "unicode.properties" = some 2 := by kernel_rfl
    have et : (Tryz.prog.globals[2]?).map (·.type) = some 189 := by kernel_rfl
    obtain rfl := Option.some.inj (eg.symm.trans hg)
    obtain rfl := Option.some.inj (et.symm.trans hty)
    unfold Lib.TabIs
    rw [hvar, ← cells_of_tab Tryz.underlying189 Tryz.underlying5 (by kernel_rfl) (by kernel_rfl) hdd]
  have hW : Lib.TabIs Tryz.prog W "internal/strconv.uint64pow10" .u64 Lib.pow10Tab := by
    obtain ⟨g, t, cs, fuel, p, hg, hty, hvar, hdd⟩ := hw
    have eg : Tryz.prog.globalNamed "internal/strconv.uint64pow10" = some 6 := by kernel_rfl
    have et : (Tryz.prog.globals[6]?).map (·.type) = some 309 := by kernel_rfl
    obtain rfl := Option.some.inj (eg.symm.trans hg)
    obtain rfl := Option.some.inj (et.symm.trans hty)
    rw [show (Rows.laid_internal_strconv_uint64pow10 : DataW Unit) = Lib.tabData .u64 Lib.pow10Tab by kernel_rfl] at hdd
    unfold Lib.TabIs
    rw [hvar, ← cells_of_tab Tryz.underlying309 Tryz.underlying229 (by kernel_rfl) (by kernel_rfl) hdd]
  have hLt := rvar_of_reads { Tryz.laysLetter with } xL (g := Tryz.laysLetter_ren.g 8) (by kernel_rfl) (by kernel_rfl) hl
  have hDt := rvar_of_reads { Tryz.laysDigit with } xD (g := Tryz.laysDigit_ren.g 5) (by kernel_rfl) (by kernel_rfl) hd
  have hCt := caseVar_of_reads { Tryz.laysLower with } (by kernel_rfl) xC hc
  exact ⟨⟨fun w hle => ⟨fun c hc => cell_le hle (h.1 c hc), fun i hi => ⟨cell_le hle (h.2 i hi).1, cell_le hle (h.2 i hi).2⟩⟩, fun w hle => ⟨var_le hle hP, rvar_le hle hLt, rvar_le hle hDt, case_le hle hCt⟩⟩, fun w hle => var_le hle hW⟩
/-- What a walk's contract over the whole of a world gives: nothing that was there turns. -/
theorem calls_of {P : Program} {f : FuncId} {args : List Value} {W : World} (c : Ct P f args [ro (whole W)] (fun v hs => v = .bool true ∧ hs = [ro (whole W)])) :
    Calls P f args.toArray W fun e W' => e = .returned (.bool true) ∧ Below W.heap.size W W' :=
  (c.calls W W [] (Sat.start W)).mono fun e W' ⟨v, hs, he, ⟨hv, hhs⟩, hsat⟩ => by
    subst hv; subst hhs
    exact ⟨he, Sat.below hsat⟩
end Go.Proofs.YtklgiidfompdpaaGreatDoor
namespace Go.Sl
open Go
def OpnB (N : Nat) (P : Program) (W : World) (t : TypeId) {α : Type} (enc : α → List Value) (good : α → Prop) : Prop :=
  ∀ (H : Type) (e : TypeId × Value → H) (fuel : Nat) (cs : List Value) (x : DataW H × List MemPlace), fuel ≤ N → DataW.trod e P W 0 (fun _ => true) true fuel t cs = some x → ∃ a, cs = enc a ∧ good a
def OpnFB (N : Nat) (P : Program) (W : World) (fs : List Field) (k n : Nat) {α : Type} (enc : α → List Value) (good : α → Prop) : Prop :=
  ∀ (H : Type) (e : TypeId × Value → H) (fuel : Nat) (cs : List Value), fuel ≤ N → (∀ f ∈ fs, ∃ x, DataW.trod e P W 0 (fun _ => true) true fuel f.type ((cs.drop f.offset).take (P.cellsOf f.type)) = some x) → cs.length = k + n → ∃ a, cs.drop k = enc a ∧ good a
section
variable {N : Nat} {P : Program} {W : World} {t : TypeId}
theorem Opn.b {α : Type} {enc : α → List Value} {good : α → Prop} (h : Opn P W t enc good) : OpnB N P W t enc good := fun H e fuel cs x _ hx => h H e fuel cs x hx
theorem OpnB.map {α β : Type} {enc : α → List Value} {good : α → Prop} {enc' : β → List Value} {good' : β → Prop} (f : α → β) (h : OpnB N P W t enc good) (he : ∀ a, enc a = enc' (f a)) (hg : ∀ a, good a → good' (f a)) : OpnB N P W t enc' good' := fun H e fuel cs x hN hx => by
  obtain ⟨a, h1, h2⟩ := h H e fuel cs x hN hx; exact ⟨f a, by rw [h1, he], hg a h2⟩
theorem OpnFB.nil {k : Nat} : OpnFB N P W [] k 0 (fun _ : Unit => []) (fun _ => True) := fun H e fuel cs _ _ hl => ⟨(), List.drop_eq_nil_of_le (by omega), trivial⟩
theorem OpnFB.cons {α β : Type} {enc : α → List Value} {good : α → Prop} {enc' : β → List Value} {good' : β → Prop} {f : Field} {fs : List Field} {k s n : Nat} (ho : f.offset = k) (hs : P.cellsOf f.type = s) (h : OpnB N P W f.type enc good) (r : OpnFB N P W fs (k + s) n enc' good') :
    OpnFB N P W (f :: fs) k (s + n) (fun p : α × β => enc p.1 ++ enc' p.2) (fun p => good p.1 ∧ good' p.2) := fun H e fuel cs hN hf hl => by
  obtain ⟨x, hx⟩ := hf f (by simp)
  obtain ⟨a, h1, h2⟩ := h H e fuel _ x hN hx
  obtain ⟨b, h3, h4⟩ := r H e fuel cs hN (fun g hg => hf g (by simp [hg])) (by omega)
  refine ⟨(a, b), ?_, h2, h4⟩
  show _ = enc a ++ enc' b
  rw [← h1, ← h3, ho, hs, ← List.drop_drop, List.take_append_drop]
theorem OpnB.struct {α : Type} {enc : α → List Value} {good : α → Prop} {fs : Array Field} {n : Nat} (ht : P.underlying t = some (.struct fs)) (hc : P.cellsOf t = n) (h : OpnFB N P W fs.toList 0 n enc good) : OpnB (N + 1) P W t enc good := fun H e fuel cs x hN hx => by
  obtain ⟨xs, m, rfl, -, hl, hls, hf⟩ := DataW.trod_struct ht hx
  obtain ⟨a, h1, h2⟩ := h H e m cs (by omega) (fun f hm => by
    obtain ⟨i, hi⟩ := List.mem_iff_getElem?.1 hm
    have := hf i f (by simpa using hi)
    have hlt : i < xs.length := by rw [hls]; have := (List.getElem?_eq_some_iff.1 hi).1; simpa using this
    exact ⟨xs[i], by rw [this]; simp [hlt]⟩) (by rw [hl, hc]; omega)
  exact ⟨a, by simpa using h1, h2⟩
theorem OpnB.slice {α : Type} {enc : α → List Value} {good : α → Prop} {el sz : Nat} (ht : P.underlying t = some (.slice el)) (hc : P.cellsOf el = sz) (h0 : 0 < sz) (h : OpnB N P W el enc good) :
    OpnB (N + 1) P W t slC (SlGood W sz enc good) := fun H e fuel cs x hN hx => by
  rcases DataW.trod_slice ht hx with ⟨rfl, -⟩ | ⟨a, len, cap, elems, rest, n, hfn, rfl, -, -, hl, hm, hlen, hel, -, -⟩
  · exact ⟨⟨none, [], 0⟩, rfl, fun h => (h rfl).elim, Nat.zero_le _, Nat.zero_le _, Nat.zero_le _, fun _ h => by cases h⟩
  · have each : ∀ i, i < len → ∃ y : α, good y ∧ ∀ j v, (enc y)[j]? = some v → j < sz ∧ W.cell? ((a.add (i * sz)).add j) = some v := fun i hi => by
      have := hel i hi
      rw [hc] at this
      have hy : elems[i]? = some elems[i] := by simp [hlen, hi]
      rw [hy, Option.bind_eq_some_iff] at this
      obtain ⟨ds, hd, hr⟩ := this
      obtain ⟨-, hdl, hdc⟩ := World.cells?_some hd
      obtain ⟨y, rfl, hg⟩ := h H e n ds _ (by omega) hr
      refine ⟨y, hg, fun j v hj => ?_⟩
      have hjl : j < sz := by rw [← hdl]; exact (List.getElem?_eq_some_iff.1 hj).1
      exact ⟨hjl, (hdc j hjl).trans hj⟩
    obtain ⟨xs, hxl, hxs⟩ := list_of len each
    refine ⟨⟨some a, xs, cap⟩, by simp [hxl], ?_, by show xs.length ≤ _; omega, by show xs.length ≤ cap; omega, hm, fun y hy => ?_⟩
    · intro hne
      have hpos : 0 < len := by rw [← hxl]; exact List.length_pos_iff.2 hne
      -- the first element has a cell
      have hcell : ∃ v, W.cell? (a.add 0) = some v := by
        have := hel 0 hpos
        rw [hc] at this
        have hy : elems[0]? = some elems[0] := by simp [hlen, hpos]
        rw [hy, Option.bind_eq_some_iff] at this
        obtain ⟨ds, hd, -⟩ := this
        obtain ⟨-, hdl, hdc⟩ := World.cells?_some hd
        have := hdc 0 h0
        rw [Nat.zero_mul] at this
        have hlt : 0 < ds.length := by omega
        refine ⟨ds[0], ?_⟩
        have e : (a.add 0).add 0 = a.add 0 := by simp [Addr.add]
        rw [e] at this
        rw [this]; simp [hlt]
      obtain ⟨v0, hv0⟩ := hcell
      have ha0 : a.add 0 = a := by simp [Addr.add]
      rw [ha0] at hv0
      have hsp := World.cell?_spot hv0
      obtain ⟨b, off, sp⟩ := a
      simp only at hsp; subst hsp
      have hb : ∃ cells E fr, W.heap[b]? = some (.cells cells E fr) := by
        unfold World.cell? at hv0
        simp only at hv0
        split at hv0
        · rename_i c E fr hh; exact ⟨c, E, fr, hh⟩
        · cases hv0
      obtain ⟨cells, E, fr, hh⟩ := hb
      refine ⟨b, off, cells, E, fr, rfl, hh, fun i y hi j v hj => ?_⟩
      obtain ⟨-, hq⟩ := hxs i y hi
      obtain ⟨-, hcj⟩ := hq j v hj
      have hadd : ((⟨b, off, none⟩ : Addr).add (i * sz)).add j = ⟨b, off + (i * sz + j), none⟩ := by
        unfold Addr.add; split <;> split <;> simp_all <;> omega
      rw [hadd] at hcj
      simpa [World.cell?, hh] using hcj
    · obtain ⟨i, hi⟩ := List.mem_iff_getElem?.1 hy
      exact (hxs i y hi).1
end
end Go.Sl
namespace Go.Proofs.YtklgiidfompdpaaGreatDoor
open Go Go.Sl Go.Gv Go.Ix Go.Qu
set_option maxRecDepth 100000
theorem opn_int (W : World) : Opn Tryz.prog W 3 intC (fun i => (Lit.int .i64 i).wf = true) := Opn.int Tryz.underlying3
theorem opn_str (W : World) : Opn Tryz.prog W 9 (fun s : ByteArray => [.string s]) (fun s => s.size ≤ maxLen) := Opn.str Tryz.underlying9
theorem opn_strs (W : World) : Opn Tryz.prog W 23 slC (SlGood W 1 strC (fun s => s.size ≤ maxLen)) := Opn.slice Tryz.underlying23 (by kernel_rfl) (by decide) (opn_str W)
/-- What an argument's question is. -/
inductive GoodQ (W : World) : AskV → Prop
  | mk {a : AskV} (hw : SlGood W 1 strC (fun s => s.size ≤ maxLen) a.w) (hs : slR (whole W) 4 askC a.sa a.ss) (hl : a.ss.length ≤ maxLen) (h : ∀ x ∈ a.ss, GoodQ W x) : GoodQ W a
theorem GoodQ.rd {W : World} {a : AskV} (h : GoodQ W a) : ARd (ro (whole W)) a := by
  induction h with
  | mk hw hs hl h ih => exact .mk (Srd.ro hw.1) (Srd.ro hs) ⟨hw.2.1, hl⟩ ih
theorem opn_askB (W : World) : ∀ k : Nat, OpnB (2 * k) Tryz.prog W 26 askC (GoodQ W)
  | 0 => fun H e fuel cs x hN hx => by
    obtain ⟨xs, n, hf, -⟩ := DataW.trod_struct Tryz.underlying26 hx
    omega
  | k + 1 => by
    have ih := opn_askB W k
    have hsl : OpnB (2 * k + 1) Tryz.prog W 24 slC (SlGood W 4 askC (GoodQ W)) := OpnB.slice Tryz.underlying24 (by kernel_rfl) (by decide) ih
    exact (OpnB.struct Tryz.underlying26 (by kernel_rfl) (OpnFB.cons (s := 1) rfl (by kernel_rfl) (opn_int W).b (OpnFB.cons (s := 1) rfl (by kernel_rfl) (opn_int W).b (OpnFB.cons (s := 1) rfl (by kernel_rfl) (opn_strs W).b (OpnFB.cons (s := 1) rfl (by kernel_rfl) hsl OpnFB.nil))))).map
      (fun p => AskV.mk p.1 p.2.1 p.2.2.1 p.2.2.2.1.a p.2.2.2.1.c p.2.2.2.1.xs) (fun _ => rfl) (fun p h => GoodQ.mk (a := AskV.mk p.1 p.2.1 p.2.2.1 p.2.2.2.1.a p.2.2.2.1.c p.2.2.2.1.xs) h.2.2.1 h.2.2.2.1.1 h.2.2.2.1.2.1 h.2.2.2.1.2.2.2.2)
theorem opn_ask (W : World) : Opn Tryz.prog W 26 askC (GoodQ W) := fun H e fuel cs x hx => opn_askB W fuel H e fuel cs x (by omega) hx
end Go.Proofs.YtklgiidfompdpaaGreatDoor
namespace Go.Proofs.YtklgiidfompdpaaGreatDoor
open Go Go.Sl Go.Gv Go.Ix Go.Qu
set_option maxRecDepth 100000
theorem opn_key (W : World) : Opn Tryz.prog W 28 keyC (fun k => (Lit.int .i64 k.o).wf = true ∧ (Lit.int .i64 k.q).wf = true) :=
  (Opn.struct Tryz.underlying28 (by kernel_rfl) (OpnF.cons (s := 1) rfl (by kernel_rfl) (opn_int W) (OpnF.cons (s := 1) rfl (by kernel_rfl) (opn_int W) OpnF.nil))).map (fun p => ⟨p.1, p.2.1⟩) (fun _ => rfl) (fun _ h => ⟨h.1, h.2.1⟩)
theorem opn_stamp (W : World) : Opn Tryz.prog W 30 (fun p : Int × Int => [int p.1, int p.2]) (fun p => (Lit.int .i64 p.1).wf = true ∧ (Lit.int .i64 p.2).wf = true) :=
  (Opn.struct Tryz.underlying30 (by kernel_rfl) (OpnF.cons (s := 1) rfl (by kernel_rfl) (opn_int W) (OpnF.cons (s := 1) rfl (by kernel_rfl) (opn_int W) OpnF.nil))).map (fun p => (p.1, p.2.1)) (fun _ => rfl) (fun _ h => ⟨h.1, h.2.1⟩)
theorem opn_rec (W : World) : Opn Tryz.prog W 32 recC (fun r => r.t.size ≤ maxLen) :=
  (Opn.struct Tryz.underlying32 (by kernel_rfl) (OpnF.cons (s := 2) rfl (by kernel_rfl) (opn_key W) (OpnF.cons (s := 2) rfl (by kernel_rfl) (opn_stamp W) (OpnF.cons (s := 1) rfl (by kernel_rfl) (opn_str W) OpnF.nil)))).map (fun p => ⟨p.1.o, p.1.q, p.2.1.1, p.2.1.2, p.2.2.1⟩) (fun _ => rfl) (fun _ h => h.2.2.1)
abbrev goodRec (r : Rec) : Prop := r.t.size ≤ maxLen
theorem opn_recs (W : World) : Opn Tryz.prog W 41 slC (SlGood W 5 recC goodRec) := Opn.slice Tryz.underlying41 (by kernel_rfl) (by decide) (opn_rec W)
structure QuV where
  a : AskV
  l : Int
  z : Rec
abbrev quE (p : QuV) : List Value := quC p.a p.l p.z
theorem opn_query (W : World) : Opn Tryz.prog W 34 quE (fun p => GoodQ W p.a) :=
  (Opn.struct Tryz.underlying34 (by kernel_rfl) (OpnF.cons (s := 4) rfl (by kernel_rfl) (opn_ask W) (OpnF.cons (s := 1) rfl (by kernel_rfl) (opn_int W) (OpnF.cons (s := 5) rfl (by kernel_rfl) (opn_rec W) OpnF.nil)))).map (fun p => (⟨p.1, p.2.1, p.2.2.1⟩ : QuV)) (fun _ => rfl) (fun _ h => h.1)
end Go.Proofs.YtklgiidfompdpaaGreatDoor
