/- Walk: awake (grapevinelaw11). -/
import Derived.Test.YtmbikfojljnnkaaGreatDoorIxH
namespace Go.Proofs.YtmbikfojljnnkaaGreatDoor
open Go Go.Sl Go.Gv Go.Kv Go.Po Go.Ix Go.Bst
set_option maxRecDepth 100000
abbrev toB : ByteArray := ⟨#[116, 111]⟩
abbrev beB : ByteArray := ⟨#[98, 101]⟩
abbrev rA : Rec := recI 1 ⟨#[116, 111, 32, 98, 101, 32, 116, 111]⟩
abbrev kA : Key := ⟨1, 1⟩
theorem tokA : tok rA = [(toB, [0, 2]), (beB, [1])] := by kernel_rfl
theorem recA : recB rA = true := by kernel_rfl
theorem recX : recB (recI 1 ⟨#[120]⟩) = true := by kernel_rfl
def sA : PL × PW := ((tok rA).foldl (putW rA.key) [], mput [] rA.key (sortB (mkeys (tok rA))))
theorem isA : IxIs [rA] sA := IxIs.nil.put (r := rA) (by simp) (List.Perm.refl _)
theorem sA_is : sA.1 = [(toB, [(kA, [0, 2])]), (beB, [(kA, [1])])] := by
  unfold sA; rw [tokA]; kernel_rfl
theorem putR_A : putR [] rA = [rA] := by unfold putR; rw [recA]; rfl
theorem wordsA : sortB [toB, beB] = [beB, toB] := sortB_eq (List.Perm.swap ..) (by decide)
theorem prefM_same {w : ByteArray} {P Q : PL} (hk : List.Perm (mkeys P) (mkeys Q)) (h : ∀ w, mget P w = mget Q w) : prefM w P = prefM w Q := by
  have e : preStep w P = preStep w Q := by funext M s; unfold preStep; rw [h]
  unfold prefM; rw [sortB_of_perm hk, e]
theorem prefA : (prefM ⟨#[116]⟩ sA.1).length = 1 := by
  rw [sA_is]; unfold prefM
  rw [show mkeys [(toB, [(kA, [(0 : Int), 2])]), (beB, [(kA, [1])])] = [toB, beB] from rfl, wordsA]
  kernel_rfl
theorem A_get {s : PL × PW} (h : IxIs [rA] s) : (mget s.1 toB).getD [] = [(kA, [0, 2])] := by
  rw [(h.same isA fun _ => Iff.rfl).1 toB, sA_is]; rfl
theorem A_words {s : PL × PW} (h : IxIs [rA] s) : sortB (mkeys s.1) = [beB, toB] := by
  rw [sortB_of_perm (mkeys_of h.ln isA.ln (h.same isA fun _ => Iff.rfl).1), sA_is]; exact wordsA
theorem A_pref {s : PL × PW} (h : IxIs [rA] s) : (prefM ⟨#[116]⟩ s.1).length = 1 := by
  rw [prefM_same (mkeys_of h.ln isA.ln (h.same isA fun _ => Iff.rfl).1) (h.same isA fun _ => Iff.rfl).1]; exact prefA
theorem PRd.big {S : HProp} {L : List HProp} {a : Option Addr} {ps : List PostV} (hS : S ∈ L) (h : PRd S a ps) : PRd (big L) a ps := ⟨Srd.bigs h.1 hS, fun p hp => ⟨Srd.bigs (h.2 p hp).1 hS, (h.2 p hp).2⟩⟩
theorem plain_len1 {qs : List PostV} {L : List PostP} {n : Nat} (h : plain1 qs = L) (hL : ∀ p ∈ L, p.2.length ≤ n) : ∀ q ∈ qs, q.t.xs.length ≤ n := fun q hq => by
  have : q.p ∈ L := h ▸ List.mem_map.2 ⟨q, hq, rfl⟩
  exact hL _ this
theorem mkeys_plL (L : List (ByteArray × SlV PostV)) : mkeys (plL L) = mkeys L := by simp [plL, mm, mkeys]
theorem mkeys_plW (W : List (Key × SlV ByteArray)) : mkeys (plW W) = mkeys W := by simp [plW, mm, mkeys]
theorem awake_spec {h0 : Hp} (T : TabX h0) : Ct Tryz.prog 9 [] [ro h0] (fun v hs => v = .bool true ∧ hs = [ro h0]) := by
  refine Ct.intro Tryz.func9 rfl (by kernel_rfl) 60 Tryz.ntmps9 (Nat.le_of_ble_eq_true rfl) fun w0 R => ?_
  refine Gs.seq ?_
  refine Gs.reg ?_
  refine Go.Sl.L.pu rfl rfl trivial (pu_assign rfl) ?_
  refine Go.Sl.L.nil ?_
  refine Gs.then_n ?_
  refine Gs.seq ?_
  refine Gs.reg ?_
  refine Go.Sl.L.ac rfl rfl trivial (as_call (new_spec) (by repeat constructor) (by repeat constructor)) ?_
  rintro _ _ ⟨_, ⟨x, rfl, rfl⟩, rfl⟩
  refine Go.Sl.L.pu rfl rfl trivial (pu_assign rfl) ?_
  refine Go.Sl.L.nil ?_
  refine Gs.then_n ?_
  refine Gs.seq ?_
  refine Gs.seq ?_
  refine Gs.reg ?_
  refine Go.Sl.L.pu rfl rfl trivial (pu_move rfl) ?_
  refine Go.Sl.L.pu rfl rfl trivial (pu_eqN Tryz.underlying25 rfl rfl) ?_
  refine Go.Sl.L.nil ?_
  refine Gs.then_n ?_
  refine Gs.cond_ff rfl rfl ?_
  refine Gs.skip ?_
  refine Gs.then_n ?_
  refine Gs.seq ?_
  refine Gs.reg ?_
  refine Go.Sl.L.pu rfl rfl trivial (pu_move rfl) ?_
  refine Go.Sl.L.ac rfl rfl trivial (as_call (rec_spec 1 ⟨#[116, 111, 32, 98, 101, 32, 116, 111]⟩) (by repeat constructor) (by repeat constructor)) ?_
  rintro _ _ ⟨_, ⟨rfl, rfl⟩, rfl⟩
  refine Go.Sl.L.ac rfl rfl trivial (as_call (put_spec T x [] [] rA (by simp)) (by repeat constructor) (by repeat constructor)) ?_
  rintro _ _ ⟨_, ⟨L1, W1, rfl, hp1, rfl⟩, rfl⟩
  have h1 : IxIs [rA] (plL L1, plW W1) := putR_A ▸ (show IxIs [] (plL [], plW []) from IxIs.nil).putI hp1
  rw [show putN (plW []) rA = 0 by unfold putN; rw [recA]; rfl]
  have hs1 := h1.short
  have hl1 := h1.llen
  have hr1 := h1.rlen
  simp only [List.length_cons, List.length_nil] at hs1 hl1 hr1
  refine Go.Sl.L.pu rfl rfl trivial (pu_move rfl) ?_
  refine Go.Sl.L.ac rfl rfl trivial (as_call (rec_spec 1 ⟨#[120]⟩) (by repeat constructor) (by repeat constructor)) ?_
  rintro _ _ ⟨_, ⟨rfl, rfl⟩, rfl⟩
  refine Go.Sl.L.ac rfl rfl trivial (as_call (put_spec T x L1 W1 (recI 1 ⟨#[120]⟩) (fun p hp => by have := hs1 p hp; omega)) (by repeat constructor) (by repeat constructor)) ?_
  rintro _ _ ⟨_, ⟨L2, W2, rfl, hp2, rfl⟩, rfl⟩
  have hn2 : putN (plW W1) (recI 1 ⟨#[120]⟩) = 6 := by
    rw [show plW W1 = (plL L1, plW W1).2 from rfl, h1.putN, recX]; rfl
  rw [hn2]
  have h2 : IxIs [rA] (plL L2, plW W2) := by
    have := h1.putI hp2
    unfold putR at this
    rwa [recX] at this
  have hl2 := h2.llen
  have hr2 := h2.rlen
  simp only [List.length_cons, List.length_nil] at hl2 hr2
  refine Go.Sl.L.pu rfl rfl trivial (pu_assign rfl) ?_
  refine Go.Sl.L.pu rfl rfl trivial (pu_assign rfl) ?_
  refine Go.Sl.L.nil ?_
  refine Gs.then_n ?_
  refine Gs.seq ?_
  refine Gs.reg ?_
  refine Go.Sl.L.pu rfl rfl trivial (pu_move rfl) ?_
  refine Go.Sl.L.pu rfl rfl trivial (pu_eq rfl rfl) ?_
  refine Go.Sl.L.puBt rfl rfl trivial (pu_move rfl) rfl ?_
  refine Go.Sl.L.pu rfl rfl ⟨_, rfl, rfl⟩ (pu_move rfl) ?_
  refine Go.Sl.L.pu rfl rfl ⟨_, rfl, rfl⟩ (pu_eq rfl rfl) ?_
  refine Go.Sl.L.pu rfl rfl trivial (by first | exact pu_pick_t rfl rfl | exact pu_pick_f rfl rfl) ?_
  refine Go.Sl.L.puBt rfl rfl trivial (pu_move rfl) rfl ?_
  refine Go.Sl.L.pu rfl rfl ⟨_, rfl, rfl⟩ (pu_move rfl) ?_
  refine Go.Sl.L.ac rfl rfl ⟨_, rfl, rfl⟩ (as_call (word_spec x L2 W2 toB) (by repeat constructor) (by repeat constructor)) ?_
  rintro _ _ ⟨_, ⟨wa, wc, qs, rfl, hq, rfl⟩, rfl⟩
  have hqe : plain1 qs = [(kA, [0, 2])] := by rw [hq, ← plL_get]; exact A_get h2
  have hql : qs.length = 1 := by have := congrArg List.length hqe; simpa using this
  refine Go.Sl.L.ac rfl rfl ⟨_, rfl, rfl⟩ (as_call (rec_spec 1 ⟨#[]⟩) (by repeat constructor) (by repeat constructor)) ?_
  rintro _ _ ⟨_, ⟨rfl, rfl⟩, rfl⟩
  refine Go.Sl.L.pu rfl rfl ⟨_, rfl, rfl⟩ (pu_fg fg_35_0 rfl rfl) ?_
  refine Go.Sl.L.ac rfl rfl ⟨_, rfl, rfl⟩ (ac_lit encC_3 ([0, 2]) et_64 ek_3 rfl (by repeat constructor) rfl rfl (by decide)) ?_
  rintro _ _ ⟨a24, rfl, rfl⟩
  refine Go.Sl.L.pu rfl rfl ⟨_, rfl, rfl⟩ (pu_build bd_66 (by repeat constructor) rfl) ?_
  refine Go.Sl.L.ac rfl rfl ⟨_, rfl, rfl⟩ (ac_lit encC_66 ([⟨kA, ⟨some ⟨a24, 0, none⟩, [0, 2], 2⟩⟩]) et_42 ek_66 rfl (by repeat constructor) rfl rfl (by decide)) ?_
  rintro _ _ ⟨a26, rfl, rfl⟩
  refine Go.Sl.L.ac rfl rfl ⟨_, rfl, rfl⟩ (as_call (Ct.bigs (L := [plO wa wc qs, sl 66 3 postC (some ⟨a26, 0, none⟩) 1 [⟨kA, ⟨some ⟨a24, 0, none⟩, [0, 2], 2⟩⟩], sl 3 1 intC (some ⟨a24, 0, none⟩) 2 [0, 2]]) (samePosts_spec (xs := qs) (ys := [⟨kA, ⟨some ⟨a24, 0, none⟩, [0, 2], 2⟩⟩]) (PRd.big List.mem_cons_self (prd_plO (plain_len1 hqe (by decide)))) ⟨Srd.bigs Srd.own (List.mem_cons_of_mem _ List.mem_cons_self), by intro p hp; rw [List.mem_singleton.1 hp]; exact ⟨Srd.bigs Srd.own (List.mem_cons_of_mem _ (List.mem_cons_of_mem _ List.mem_cons_self)), Nat.le_of_ble_eq_true rfl⟩⟩ (by omega)) (by rintro _ _ ⟨_, rfl⟩; exact ⟨_, rfl⟩)) (by repeat constructor) (by repeat constructor)) ?_
  rintro _ _ ⟨_, ⟨_, ⟨rfl, ⟨⟩⟩, rfl⟩, rfl⟩
  rw [decide_eq_true (show plain1 qs = plain1 [⟨kA, ⟨some ⟨a24, 0, none⟩, [0, 2], 2⟩⟩] from hqe)]
  refine Go.Sl.L.pu rfl rfl trivial (by first | exact pu_pick_t rfl rfl | exact pu_pick_f rfl rfl) ?_
  refine Go.Sl.L.puBt rfl rfl trivial (pu_move rfl) rfl ?_
  refine Go.Sl.L.pu rfl rfl ⟨_, rfl, rfl⟩ (pu_move rfl) ?_
  refine Go.Sl.L.ac rfl rfl ⟨_, rfl, rfl⟩ (as_call (words_spec x L2 W2 (by omega)) (by repeat constructor) (by repeat constructor)) ?_
  rintro _ _ ⟨_, ⟨va, vc, rfl, rfl⟩, rfl⟩
  rw [show sortB (mkeys L2) = [beB, toB] by rw [← mkeys_plL]; exact A_words h2]
  refine Go.Sl.L.ac rfl rfl ⟨_, rfl, rfl⟩ (ac_lit encC_9 ([beB, toB]) et_58 ek_9 rfl (by repeat constructor) rfl rfl (by decide)) ?_
  rintro _ _ ⟨a32, rfl, rfl⟩
  refine Go.Sl.L.ac rfl rfl ⟨_, rfl, rfl⟩ (as_call (sameTexts_spec (xs := [beB, toB]) (ys := [beB, toB]) Srd.own Srd.own (by decide)) (by repeat constructor) (by repeat constructor)) ?_
  rintro _ _ ⟨_, ⟨rfl, rfl⟩, rfl⟩
  rw [decide_eq_true (rfl : [beB, toB] = [beB, toB])]
  refine Go.Sl.L.pu rfl rfl trivial (by first | exact pu_pick_t rfl rfl | exact pu_pick_f rfl rfl) ?_
  refine Go.Sl.L.puBt rfl rfl trivial (pu_move rfl) rfl ?_
  refine Go.Sl.L.pu rfl rfl ⟨_, rfl, rfl⟩ (pu_move rfl) ?_
  refine Go.Sl.L.ac rfl rfl ⟨_, rfl, rfl⟩ (as_call (prefix_spec x L2 W2 ⟨#[116]⟩ (by omega)) (by repeat constructor) (by repeat constructor)) ?_
  rintro _ _ ⟨_, ⟨pa, pc, ps, rfl, hps, -, rfl⟩, rfl⟩
  have hpl : ps.length = 1 := by
    have := hps.length_eq
    rw [mm, List.length_map, List.length_map] at this
    exact this.trans (A_pref h2)
  rw [hpl]
  refine Go.Sl.L.pu rfl rfl ⟨_, rfl, rfl⟩ (pu_len Tryz.underlying42 rfl) ?_
  refine Go.Sl.L.pu rfl rfl ⟨_, rfl, rfl⟩ (pu_eq rfl rfl) ?_
  refine Go.Sl.L.pu rfl rfl trivial (by first | exact pu_pick_t rfl rfl | exact pu_pick_f rfl rfl) ?_
  refine Go.Sl.L.puBt rfl rfl trivial (pu_move rfl) rfl ?_
  refine Go.Sl.L.pu rfl rfl ⟨_, rfl, rfl⟩ (pu_move rfl) ?_
  refine Go.Sl.L.ac rfl rfl ⟨_, rfl, rfl⟩ (as_call (rec_spec 1 ⟨#[]⟩) (by repeat constructor) (by repeat constructor)) ?_
  rintro _ _ ⟨_, ⟨rfl, rfl⟩, rfl⟩
  refine Go.Sl.L.pu rfl rfl ⟨_, rfl, rfl⟩ (pu_fg fg_35_0 rfl rfl) ?_
  refine Go.Sl.L.ac rfl rfl ⟨_, rfl, rfl⟩ (ac_lit encC_31 ([kA]) et_47 ek_31 rfl (by repeat constructor) rfl rfl (by decide)) ?_
  rintro _ _ ⟨a45, rfl, rfl⟩
  refine Go.Sl.L.ac rfl rfl ⟨_, rfl, rfl⟩ (as_call (drop_spec x L2 W2 (ks := [kA]) Srd.own (by decide)) (by repeat constructor) (by repeat constructor)) ?_
  rintro _ _ ⟨_, ⟨n, L3, W3, rfl, hd, rfl⟩, rfl⟩
  obtain ⟨s3, hd3, h3⟩ := h2.dropK kA 0
  have hn3 : n = 1 ∧ IxIs [] (plL L3, plW W3) := by
    have e : (plL L3, plW W3, n) = (s3.1, s3.2, 1) := hd.trans hd3
    have e1 : plL L3 = s3.1 := congrArg (fun z => z.1) e
    have e2 : plW W3 = s3.2 := congrArg (fun z => z.2.1) e
    have e3 : n = 1 := congrArg (fun z => z.2.2) e
    refine ⟨e3, ?_⟩
    rw [e1, e2]; exact h3
  obtain ⟨rfl, h3'⟩ := hn3
  have hl3 := h3'.llen
  have hr3 := h3'.rlen
  simp only [List.length_nil, Nat.mul_zero] at hl3 hr3
  refine Go.Sl.L.pu rfl rfl ⟨_, rfl, rfl⟩ (pu_eq rfl rfl) ?_
  refine Go.Sl.L.pu rfl rfl trivial (by first | exact pu_pick_t rfl rfl | exact pu_pick_f rfl rfl) ?_
  refine Go.Sl.L.puBt rfl rfl trivial (pu_move rfl) rfl ?_
  refine Go.Sl.L.pu rfl rfl ⟨_, rfl, rfl⟩ (pu_move rfl) ?_
  refine Go.Sl.L.ac rfl rfl ⟨_, rfl, rfl⟩ (as_call (words_spec x L3 W3 (by omega)) (by repeat constructor) (by repeat constructor)) ?_
  rintro _ _ ⟨_, ⟨ua, uc, rfl, rfl⟩, rfl⟩
  rw [show (sortB (mkeys L3)).length = 0 by rw [sortB_length, List.length_map]; exact Nat.le_zero.1 hl3]
  refine Go.Sl.L.pu rfl rfl ⟨_, rfl, rfl⟩ (pu_len Tryz.underlying58 rfl) ?_
  refine Go.Sl.L.pu rfl rfl ⟨_, rfl, rfl⟩ (pu_eq rfl rfl) ?_
  refine Go.Sl.L.pu rfl rfl trivial (by first | exact pu_pick_t rfl rfl | exact pu_pick_f rfl rfl) ?_
  refine Go.Sl.L.puBt rfl rfl trivial (pu_move rfl) rfl ?_
  refine Go.Sl.L.pu rfl rfl ⟨_, rfl, rfl⟩ (pu_move rfl) ?_
  refine Go.Sl.L.ac rfl rfl ⟨_, rfl, rfl⟩ (as_call (new_spec) (by repeat constructor) (by repeat constructor)) ?_
  rintro _ _ ⟨_, ⟨y, rfl, rfl⟩, rfl⟩
  refine Go.Sl.L.ac rfl rfl ⟨_, rfl, rfl⟩ (as_call (same_spec x y L3 [] W3 [] (by omega) (by simp) (by omega)) (by repeat constructor) (by repeat constructor)) ?_
  rintro _ _ ⟨_, ⟨rfl, rfl⟩, rfl⟩
  rw [show sameB (plL L3, plW W3) (plL [], plW []) = true from h3'.sameB IxIs.nil fun _ => Iff.rfl]
  refine Go.Sl.L.pu rfl rfl trivial (by first | exact pu_pick_t rfl rfl | exact pu_pick_f rfl rfl) ?_
  refine Go.Sl.L.pu rfl rfl trivial (pu_assign rfl) ?_
  refine Go.Sl.L.nil ?_
  refine Gs.then_n ?_
  refine Gs.ret ?_
  exact Gs.fin1 Tryz.results9 rfl _ (⟨rfl, rfl⟩) (by repeat constructor)
end Go.Proofs.YtmbikfojljnnkaaGreatDoor
