/- What the closing leans on: part 16. -/
import Derived.Test.YtklgiidfompdpaaGreatDoorZn
import Derived.Test.YtklgiidfompdpaaGreatDoorZo
import Derived.Test.YtklgiidfompdpaaGreatDoorCards
import Derived.Test.YtklgiidfompdpaaGreatDoorTie
import Derived.Great.CaseRows
import Derived.Carry
import Derived.Lib.LaidIn
import Derived.Lib.LaidRTab
import Derived.Lib.LaidCase
import Derived.Lib.LaidTab
import Derived.Lib.LaidU8T
import Derived.Deep.DeepHandedRow
import Derived.Deep.DeepWitnessRowRef
import Derived.ProofKit
import Derived.SizedLaws
import Derived.OpenShut
namespace Go.Sl
open Go
section
variable {w0 : World} {n : Nat} {env : Env} {H : List HProp} {α : Type}
theorem Gs.slNS {E sz : Nat} {enc : α → List Value} {a : Option Addr} {c : Nat} {xs : List α} {H' : List HProp} {X : Act → World → Prop} (t : Take (sl E sz enc a c xs) H H') (g : xs.length ≤ c ∧ (∀ k, suba a 0 k sz = a) → Gs w0 n env H X) : Gs w0 n env H X := fun ac w e s => by
  refine g ?_ ac w e s
  obtain ⟨h0, x, -⟩ := (s.take t).toRo
  rcases x with ⟨rfl, rfl, rfl⟩ | ⟨b, off, _, rfl, _, h, _⟩
  · exact ⟨Nat.le_refl _, fun k => by unfold suba; split <;> rfl⟩
  · refine ⟨h, fun k => ?_⟩
    unfold suba; split
    · rfl
    · simp [Addr.add]
end
end Go.Sl
namespace Go.Proofs.YtklgiidfompdpaaGreatDoor
open Go Go.Sl Go.Gv Go.Kv Go.Po Go.Ix Go.Qu Go.Shelf Go.Stb
set_option maxRecDepth 100000
/-- Is a record a hit, behind the last one that was told? -/
def hitB (d : Nat) (x : AskV) (z r : Rec) : Bool := !earlyB r z && HoldsB d x r
def mayQ (d : Nat) (x : AskV) (lim : Int) (z : Rec) : Bool := mayA d x && okQ lim z
def HitsIs (d : Nat) (x : AskV) (lim : Int) (z : Rec) (rs out : List Rec) : Prop := (mayQ d x lim z = true → IsS (rs.filter (hitB d x z)) out) ∧ (mayQ d x lim z = false → out = [])
def FindIs (d : Nat) (x : AskV) (lim : Int) (z : Rec) (rs out : List Rec) : Prop := ∃ ys, HitsIs d x lim z rs ys ∧ out = ys.take lim.toNat
theorem filt_keys {rs : List Rec} (hn : (rs.map Rec.key).Nodup) (f : Rec → Bool) : ((rs.filter f).map Rec.key).Nodup := List.Nodup.sublist (List.Sublist.map _ List.filter_sublist) hn
theorem filt_snoc {rs : List Rec} {f : Rec → Bool} {i : Nat} {r : Rec} (h : rs[i]? = some r) : (rs.take (i + 1)).filter f = (rs.take i).filter f ++ (if f r then [r] else []) := by
  rw [List.take_add_one, h, List.filter_append]
  congr 1
  show [r].filter f = _
  cases hf : f r
  · rw [List.filter_cons_of_neg (by simp [hf])]; rfl
  · rw [List.filter_cons_of_pos hf]; rfl
set_option maxHeartbeats 1000000 in
theorem scanFind_spec {S : HProp} (hT : TabW S) {d : Nat} {x : AskV} (hA : ARd S x) (hF : FewA d x) (hz : sizeA d x ≤ 1000) (hd : d ≤ 1000) (lim : Int) (z : Rec) {a : Option Addr} {c : Nat} {rs : List Rec} (hR : Srd S 5 recC a rs) (hn : (rs.map Rec.key).Nodup) (hl : rs.length ≤ 10000) :
    Ct Tryz.prog 40 [quV x lim z, .slice a rs.length c] [S] (fun v hs => ∃ a' c' out, v = .slice a' out.length c' ∧ FindIs d x lim z rs out ∧ hs = [S, rsA a' c' out]) := by
  refine Ct.intro Tryz.func40 rfl (by kernel_rfl) 42 Tryz.ntmps40 (Nat.le_of_ble_eq_true rfl) fun w0 R => ?_
  refine Gs.slAddr (hR.h (by repeat constructor)) fun ab ao ha => ?_
  refine Gs.seq ?_
  refine Gs.reg ?_
  refine Go.Sl.L.ac rfl rfl trivial (ac_box rfl rfl) ?_
  rintro _ _ ⟨qb, rfl, rfl⟩
  refine Go.Sl.L.pu rfl rfl trivial (pu_assign rfl) ?_
  refine Go.Sl.L.nil ?_
  refine Gs.then_n ?_
  refine Gs.seq ?_
  refine Gs.seq ?_
  refine Gs.reg ?_
  refine Go.Sl.L.rd rfl rfl trivial (rd_lda ag_34 rfl (Rdc.cl 10 (by repeat constructor) rfl) rfl) ?_
  refine Go.Sl.L.ac rfl rfl trivial (as_call (smay_spec hT hA hF hz hd lim z) (by repeat constructor) (by repeat constructor)) ?_
  rintro _ _ ⟨_, ⟨rfl, rfl⟩, rfl⟩
  refine Go.Sl.L.pu rfl rfl trivial (pu_not rfl) ?_
  refine Go.Sl.L.nil ?_
  refine Gs.then_n ?_
  refine Gs.cond rfl (fun hc0 => ?_) (fun hc0 => ?_)
  · skip
    have hno : mayQ d x lim z = false := not_t hc0
    refine Gs.slNil 32 5 recC ?_
    refine Gs.seq ?_
    refine Gs.reg ?_
    refine Go.Sl.L.pu rfl rfl trivial (pu_assign rfl) ?_
    refine Go.Sl.L.nil ?_
    refine Gs.then_n ?_
    refine Gs.ret ?_
    refine Gs.then_r ?_
    exact Gs.fin1 Tryz.results40 rfl _ (⟨none, 0, [], rfl, ⟨[], ⟨fun h => absurd h (by rw [hno]; decide), fun _ => rfl⟩, by simp⟩, rfl⟩) (by repeat constructor)
  · skip
    have hyes : mayQ d x lim z = true := not_f hc0
    have hlm : 1 ≤ lim ∧ lim ≤ 50 := by
      unfold mayQ okQ at hyes
      simp only [Bool.and_eq_true, decide_eq_true_eq] at hyes
      exact hyes.2.1
    refine Gs.skip ?_
    refine Gs.then_n ?_
    refine Gs.seq ?_
    refine Gs.reg ?_
    refine Go.Sl.L.pu rfl rfl trivial (pu_assign rfl) ?_
    refine Go.Sl.L.nil ?_
    refine Gs.slNil 32 5 recC ?_
    refine Gs.then_n ?_
    refine Gs.seq ?_
    refine Gs.seq ?_
    refine Gs.reg ?_
    refine Go.Sl.L.pu rfl rfl trivial (pu_move rfl) ?_
    refine Go.Sl.L.pu rfl rfl trivial (pu_len Tryz.underlying41 rfl) ?_
    refine Go.Sl.L.pu rfl rfl trivial (pu_move rfl) ?_
    refine Go.Sl.L.nil ?_
    refine Gs.then_n ?_
    refine Gs.block ?_
    refine Gs.loop1 (fun s : Nat × (Option Addr × Nat) × List Rec => s.1 ≤ rs.length ∧ s.2.2 = (rs.take s.1).filter (hitB d x z)) (fun s => [(2, ptr qb), (5, .slice s.2.1.1 s.2.2.length s.2.1.2), (11, .slice a rs.length c), (12, int rs.length), (13, int s.1)]) (fun s => [cl qb 34 (quC x lim z), S, rsA s.2.1.1 s.2.1.2 s.2.2] ++ R) (fun s => rs.length - s.1) (0, (none, 0), []) (⟨Nat.zero_le _, rfl⟩) (by repeat constructor) (by repeat constructor) (fun s hs => ?_)
    obtain ⟨i, ⟨oa, oc⟩, O⟩ := s
    obtain ⟨hi, hO⟩ := hs
    dsimp only at hi hO ⊢
    have hOl : O.length ≤ i := by rw [hO]; have := List.length_filter_le (hitB d x z) (rs.take i); rw [List.length_take] at this; omega
    refine Gs.seq ?_
    refine Gs.reg ?_
    refine Go.Sl.L.pu rfl rfl trivial (pu_lt rfl rfl) ?_
    refine Go.Sl.L.nil ?_
    refine Gs.then_n ?_
    refine Gs.seq ?_
    refine Gs.cond rfl (fun hc1 => ?_) (fun hc1 => ?_)
    · skip
      have hlt : i < rs.length := by have := of_decide_eq_true hc1; omega
      obtain ⟨r, hr⟩ := some_at hlt
      obtain rfl := ha (by rintro rfl; simp at hlt)
      have hsn := filt_snoc (f := hitB d x z) hr
      refine Gs.skip ?_
      refine Gs.then_n ?_
      refine Gs.seq ?_
      refine Gs.block ?_
      refine Gs.seq ?_
      refine Gs.reg ?_
      refine Go.Sl.L.pu rfl rfl trivial (pu_ia se_41 rfl rfl (by omega) (by omega)) ?_
      refine Go.Sl.L.rd rfl rfl trivial (rd_lda ag_32 rfl (Rdc.el0 (hR.h (by repeat constructor)) hr rfl rfl) rfl) ?_
      refine Go.Sl.L.ac rfl rfl trivial (ac_alloc zv_32 rfl) ?_
      rintro _ _ ⟨rb, rfl, rfl⟩
      refine Go.Sl.L.ac0 rfl trivial (ac_st sz_32 rfl rfl (by repeat constructor) rfl rfl rfl rfl) ?_
      rintro _ _ rfl
      refine Go.Sl.L.nil ?_
      refine Gs.then_n ?_
      refine Gs.seq ?_
      refine Gs.reg ?_
      refine Go.Sl.L.rd rfl rfl trivial (rd_lda ag_32 rfl (Rdc.cl 5 (by repeat constructor) rfl) rfl) ?_
      refine Go.Sl.L.pu rfl rfl trivial (pu_fa fa_34_2 rfl) ?_
      refine Go.Sl.L.rd rfl rfl trivial (rd_lda ag_32 rfl (Rdc.cl 5 (by repeat constructor) rfl) rfl) ?_
      refine Go.Sl.L.ac rfl rfl trivial (as_call (early_spec r z) (by repeat constructor) (by repeat constructor)) ?_
      rintro _ _ ⟨_, ⟨rfl, rfl⟩, rfl⟩
      refine Go.Sl.L.pu rfl rfl trivial (pu_not rfl) ?_
      refine Go.Sl.L.puB rfl rfl trivial (pu_move rfl) (fun hg5 => ?_) (fun hg5 => ?_)
      · skip
        have e5 : (!earlyB r z) = true := hg5
        refine Go.Sl.L.pu rfl rfl ⟨_, rfl, rfl⟩ (pu_fa fa_34_0 rfl) ?_
        refine Go.Sl.L.rd rfl rfl ⟨_, rfl, rfl⟩ (rd_lda ag_26 rfl (Rdc.cl 4 (by repeat constructor) rfl) rfl) ?_
        refine Go.Sl.L.rd rfl rfl ⟨_, rfl, rfl⟩ (rd_lda ag_32 rfl (Rdc.cl 5 (by repeat constructor) rfl) rfl) ?_
        refine Go.Sl.L.ac rfl rfl ⟨_, rfl, rfl⟩ (as_call (HoldsD_spec hT.u hA hF hz hd r) (by repeat constructor) (by repeat constructor)) ?_
        rintro _ _ ⟨_, ⟨rfl, rfl⟩, rfl⟩
        refine Go.Sl.L.pu rfl rfl trivial (by first | exact pu_pick_t rfl rfl | exact pu_pick_f rfl rfl) ?_
        refine Go.Sl.L.nil ?_
        refine Gs.then_n ?_
        refine Gs.cond rfl (fun hc2 => ?_) (fun hc2 => ?_)
        · skip
          have hyes2 : (rs.take (i + 1)).filter (hitB d x z) = O ++ [r] := by rw [hsn, hO, if_pos (by unfold hitB; rw [e5]; exact hc2)]
          refine Gs.reg ?_
          refine Go.Sl.L.pu rfl rfl trivial (pu_move rfl) ?_
          refine Go.Sl.L.rd rfl rfl trivial (rd_lda ag_32 rfl (Rdc.cl 5 (by repeat constructor) rfl) rfl) ?_
          refine Go.Sl.L.ac rfl rfl trivial (ac_lit encC_32 ([r]) et_41 ek_32 rfl (by repeat constructor) rfl rfl (by decide)) ?_
          rintro _ _ ⟨a30, rfl, rfl⟩
          refine Go.Sl.L.ac rfl rfl trivial (ac_append (xs := O) (ys := [r]) et_41 ek_32 rfl rfl (by repeat constructor) (SrcH.sl Tryz.underlying41 ek_32 (SlH.own (by repeat constructor))) (by first | omega | (simp; omega)) (by first | omega | (simp; omega))) ?_
          rintro _ _ ⟨a31, c31, rfl, rfl⟩
          refine Go.Sl.L.pu rfl rfl trivial (pu_assign rfl) ?_
          refine Go.Sl.L.nil ?_
          refine Gs.blk_n ?_
          refine Gs.then_n ?_
          refine Gs.reg ?_
          refine Go.Sl.L.pu rfl rfl trivial (by first | exact pu_addI rfl rfl rfl (by omega) (by omega) | exact pu_add rfl rfl) ?_
          refine Go.Sl.L.pu rfl rfl trivial (pu_move rfl) ?_
          refine Go.Sl.L.nil ?_
          refine Gs.then_n ?_
          first | exact Gs.again1 (i + 1, (a31, c31), O ++ [r]) ⟨hlt, hyes2.symm⟩ (by show rs.length - (i + 1) < rs.length - i; omega) (by repeat constructor) (by repeat constructor) | exact Gs.again1 (i + 1, (oa, oc), O) ⟨hlt, hno.symm⟩ (by show rs.length - (i + 1) < rs.length - i; omega) (by repeat constructor) (by repeat constructor)
        · skip
          have hno : (rs.take (i + 1)).filter (hitB d x z) = O := by rw [hsn, hO, if_neg (by unfold hitB; rw [e5, hc2]; decide), List.append_nil]
          refine Gs.skip ?_
          refine Gs.blk_n ?_
          refine Gs.then_n ?_
          refine Gs.reg ?_
          refine Go.Sl.L.pu rfl rfl trivial (by first | exact pu_addI rfl rfl rfl (by omega) (by omega) | exact pu_add rfl rfl) ?_
          refine Go.Sl.L.pu rfl rfl trivial (pu_move rfl) ?_
          refine Go.Sl.L.nil ?_
          refine Gs.then_n ?_
          first | exact Gs.again1 (i + 1, (a31, c31), O ++ [r]) ⟨hlt, hyes2.symm⟩ (by show rs.length - (i + 1) < rs.length - i; omega) (by repeat constructor) (by repeat constructor) | exact Gs.again1 (i + 1, (oa, oc), O) ⟨hlt, hno.symm⟩ (by show rs.length - (i + 1) < rs.length - i; omega) (by repeat constructor) (by repeat constructor)
      · skip
        have e5 : (!earlyB r z) = false := hg5
        have hno : (rs.take (i + 1)).filter (hitB d x z) = O := by rw [hsn, hO, if_neg (by unfold hitB; rw [e5, Bool.false_and]; exact Bool.false_ne_true), List.append_nil]
        refine Go.Sl.L.off rfl rfl rfl rfl rfl rfl ?_
        refine Go.Sl.L.off rfl rfl rfl rfl rfl rfl ?_
        refine Go.Sl.L.off rfl rfl rfl rfl rfl rfl ?_
        refine Go.Sl.L.off rfl rfl rfl rfl rfl rfl ?_
        refine Go.Sl.L.pu rfl rfl trivial (by first | exact pu_pick_t rfl rfl | exact pu_pick_f rfl rfl) ?_
        refine Go.Sl.L.nil ?_
        refine Gs.then_n ?_
        refine Gs.cond_f rfl ?_
        refine Gs.skip ?_
        refine Gs.blk_n ?_
        refine Gs.then_n ?_
        refine Gs.reg ?_
        refine Go.Sl.L.pu rfl rfl trivial (by first | exact pu_addI rfl rfl rfl (by omega) (by omega) | exact pu_add rfl rfl) ?_
        refine Go.Sl.L.pu rfl rfl trivial (pu_move rfl) ?_
        refine Go.Sl.L.nil ?_
        refine Gs.then_n ?_
        first | exact Gs.again1 (i + 1, (a31, c31), O ++ [r]) ⟨hlt, hyes2.symm⟩ (by show rs.length - (i + 1) < rs.length - i; omega) (by repeat constructor) (by repeat constructor) | exact Gs.again1 (i + 1, (oa, oc), O) ⟨hlt, hno.symm⟩ (by show rs.length - (i + 1) < rs.length - i; omega) (by repeat constructor) (by repeat constructor)
    · skip
      have hge : i = rs.length := by have := of_decide_eq_false hc1; omega
      rw [hge, List.take_length] at hO
      have hOn : Apart lessR O := by rw [hO]; exact apart_keys (filt_keys hn _)
      refine Gs.exit ?_
      refine Gs.then_x ?_
      refine Gs.then_x ?_
      refine Gs.blk_hit ?_
      refine Gs.then_n ?_
      refine Gs.seq ?_
      refine Gs.reg ?_
      refine Go.Sl.L.pu rfl rfl trivial (pu_move rfl) ?_
      refine Go.Sl.L.ac rfl rfl trivial (as_call (rsort_spec (S := rsA oa oc O) (a := oa) (c := oc) Srd.own hOn (by omega)) (by repeat constructor) (by repeat constructor)) ?_
      rintro _ _ ⟨_, ⟨na, nc, ys, rfl, hys, rfl⟩, rfl⟩
      refine Go.Sl.L.pu rfl rfl trivial (pu_assign rfl) ?_
      refine Go.Sl.L.nil ?_
      refine Gs.slNS (E := 32) (sz := 5) (enc := recC) (a := na) (c := nc) (xs := ys) (by repeat constructor) fun hns => ?_
      have hnl := hns.1
      refine Gs.then_n ?_
      refine Gs.seq ?_
      refine Gs.reg ?_
      refine Go.Sl.L.pu rfl rfl trivial (pu_move rfl) ?_
      refine Go.Sl.L.pu rfl rfl trivial (pu_move rfl) ?_
      refine Go.Sl.L.pu rfl rfl trivial (pu_len Tryz.underlying41 rfl) ?_
      refine Go.Sl.L.pu rfl rfl trivial (pu_fa fa_34_1 rfl) ?_
      refine Go.Sl.L.rd rfl rfl trivial (rd_ld na_3 rfl (Rdc.cl1 (by repeat constructor) rfl)) ?_
      refine Go.Sl.L.pu rfl rfl trivial (pu_min rfl rfl) ?_
      refine Go.Sl.L.pu rfl rfl trivial (pu_sliceH et_41 rfl rfl (by omega) (by omega)) ?_
      refine Go.Sl.L.pu rfl rfl trivial (pu_assign rfl) ?_
      refine Go.Sl.L.nil ?_
      rw [hns.2, show (min (ys.length : Int) lim).toNat = (ys.take lim.toNat).length by rw [List.length_take]; omega]
      refine Gs.takes (As := [rsA na nc ys]) (by repeat constructor) (Gs.ent (sl_take lim.toNat) ?_)
      refine Gs.then_n ?_
      refine Gs.ret ?_
      exact Gs.fin1 Tryz.results40 rfl _ (⟨na, nc, ys.take lim.toNat, rfl, ⟨ys, ⟨fun _ => by rw [← hO]; exact hys, fun h => absurd h (by rw [hyes]; decide)⟩, rfl⟩, rfl⟩) (by repeat constructor)
theorem ofR_mem {rs : List Rec} {ks : List Key} (hn : (rs.map Rec.key).Nodup) (hk : ∀ k ∈ ks, k ∈ rs.map Rec.key) (r : Rec) : r ∈ ofR rs ks ↔ r ∈ rs ∧ r.key ∈ ks := by
  unfold ofR
  rw [List.mem_map]
  constructor
  · rintro ⟨k, hkm, rfl⟩
    obtain ⟨r, hr, rfl⟩ := List.mem_map.1 (hk k hkm)
    rw [lookR_at hn hr]; exact ⟨hr, hkm⟩
  · rintro ⟨hr, hkm⟩
    exact ⟨r.key, hkm, by rw [lookR_at hn hr]; rfl⟩
theorem ofR_keys {rs : List Rec} {ks : List Key} (hn : (rs.map Rec.key).Nodup) (hk : ∀ k ∈ ks, k ∈ rs.map Rec.key) : (ofR rs ks).map Rec.key = ks := by
  unfold ofR
  rw [List.map_map]
  conv => rhs; rw [← List.map_id ks]
  refine List.map_congr_left fun k hkm => ?_
  obtain ⟨r, hr, rfl⟩ := List.mem_map.1 (hk k hkm)
  show ((lookR rs r.key).getD Rec.zero).key = r.key
  rw [lookR_at hn hr]; rfl
theorem nodup_of_keys {l : List Rec} (h : (l.map Rec.key).Nodup) : l.Nodup := (List.pairwise_map.1 h).imp fun {a b} hab e => hab (by rw [e])
theorem KsQ.sub {rs : List Rec} {d : Nat} {y : AskV} {ks : List Key} (h : KsQ rs d y ks) : (∀ k ∈ ks, k ∈ rs.map Rec.key) ∧ ks.Nodup := by
  cases hm : mayA d y with
  | true =>
    have hk := h.1 hm
    exact ⟨fun k hkm => by obtain ⟨r, hr, e, -⟩ := (hk.2 k).1 hkm; exact List.mem_map.2 ⟨r, hr, e⟩, hk.nodup⟩
  | false => rw [h.2 hm]; exact ⟨fun k h => (by cases h), List.nodup_nil⟩
theorem KsQ.len {rs : List Rec} {d : Nat} {y : AskV} {ks : List Key} (h : KsQ rs d y ks) : ks.length ≤ rs.length := by
  have := nodup_sub h.sub.2 h.sub.1
  simpa using this
theorem KsQ.hits {rs : List Rec} {d : Nat} {y : AskV} {ks : List Key} (hn : (rs.map Rec.key).Nodup) (h : KsQ rs d y ks) (z : Rec) : List.Perm ((ofR rs ks).filter (hitB d y z)) (rs.filter (hitB d y z)) := by
  obtain ⟨h1, h2⟩ := h.sub
  have hk := ofR_keys hn h1
  have n1 : ((ofR rs ks).filter (hitB d y z)).Nodup := nodup_of_keys (filt_keys (by rw [hk]; exact h2) _)
  have n2 : (rs.filter (hitB d y z)).Nodup := nodup_of_keys (filt_keys hn _)
  rw [List.perm_ext_iff_of_nodup n1 n2]
  intro r
  rw [List.mem_filter, List.mem_filter, ofR_mem hn h1]
  constructor
  · rintro ⟨⟨h3, -⟩, h4⟩; exact ⟨h3, h4⟩
  · rintro ⟨h3, h4⟩
    refine ⟨⟨h3, ?_⟩, h4⟩
    unfold hitB HoldsB at h4
    simp only [Bool.and_eq_true] at h4
    exact ((h.1 h4.2.1).at hn h3).2 h4.2.2.2
theorem FindIs.all {d : Nat} {x : AskV} {lim : Int} {z : Rec} {rs out : List Rec} {ks : List Key} (hn : (rs.map Rec.key).Nodup) (hk : KsQ rs d x ks) (h : FindIs d x lim z (ofR rs ks) out) : FindIs d x lim z rs out := by
  obtain ⟨ys, hy, rfl⟩ := h
  exact ⟨ys, ⟨fun hm => ⟨(hy.1 hm).1.trans (hk.hits hn z), (hy.1 hm).2⟩, hy.2⟩, rfl⟩
set_option maxHeartbeats 1000000 in
theorem sfind_spec (x : Nat) (rs : List Rec) (hr : rs.length ≤ 800) {S : HProp} (hT : TabW S) {d : Nat} {y : AskV} (hA : ARd S y) (hF : FewA d y) (hz : sizeA d y ≤ 1000) (hd : d ≤ 1000) (lim : Int) (z : Rec) :
    Ct Tryz.prog 18 [ptr x, quV y lim z] [shA x rs, S] (fun v hs => ∃ a c out, v = .slice a out.length c ∧ FindIs d y lim z rs out ∧ hs = [shA x rs, S, rsA a c out]) := by
  refine Ct.intro Tryz.func18 rfl (by kernel_rfl) 15 Tryz.ntmps18 (Nat.le_of_ble_eq_true rfl) fun w0 R => ?_
  refine Gs.shKeys fun hn => ?_
  refine Gs.seq ?_
  refine Gs.reg ?_
  refine Go.Sl.L.ac rfl rfl trivial (ac_box rfl rfl) ?_
  rintro _ _ ⟨qb, rfl, rfl⟩
  refine Go.Sl.L.pu rfl rfl trivial (pu_assign rfl) ?_
  refine Go.Sl.L.nil ?_
  refine Gs.then_n ?_
  refine Gs.seq ?_
  refine Gs.seq ?_
  refine Gs.reg ?_
  refine Go.Sl.L.pu rfl rfl trivial (pu_move rfl) ?_
  refine Go.Sl.L.pu rfl rfl trivial (pu_eqN Tryz.underlying38 rfl rfl) ?_
  refine Go.Sl.L.nil ?_
  refine Gs.then_n ?_
  refine Gs.cond_ff rfl rfl ?_
  refine Gs.skip ?_
  refine Gs.then_n ?_
  refine Gs.seq ?_
  refine Gs.regD mixed (by kernel_rfl) ?_
  refine Rg.rd 0 rfl rfl (by kernel_rfl) trivial (rd_lda ag_34 rfl (Rdc.cl 10 (by repeat constructor) rfl) rfl) ?_
  refine Rg.pu 1 rfl rfl (by kernel_rfl) trivial (pu_move rfl) ?_
  refine Rg.pu 2 rfl rfl (by kernel_rfl) trivial (pu_move rfl) ?_
  refine Rg.pu 3 rfl rfl (by kernel_rfl) trivial (pu_fa fa_34_0 rfl) ?_
  refine Rg.rd 4 rfl rfl (by kernel_rfl) trivial (rd_lda ag_26 rfl (Rdc.cl 4 (by repeat constructor) rfl) rfl) ?_
  refine Rg.one (by kernel_rfl) (Stp.acR 5 [0] rfl rfl (by kernel_rfl) trivial (as_call (sKeys_spec x rs hr hT.u hA hF hz hd) (by repeat constructor) (by repeat constructor)) (by rintro _ _ ⟨_, ⟨ka, kc, ks, rfl, hK, rfl⟩, rfl⟩; exact (Reads.cons rfl rfl rfl trivial rfl (rd_lda ag_34 rfl (Rdc.cl 10 (by repeat constructor) rfl) rfl) Reads.nil)) ?_)
  rintro _ _ ⟨_, ⟨ka, kc, ks, rfl, hK, rfl⟩, rfl⟩
  have hkl := hK.len
  have hks := hK.sub
  have hok := ofR_keys hn hks.1
  have hol : (ofR rs ks).length = ks.length := by unfold ofR; rw [List.length_map]
  refine Rg.one (by kernel_rfl) (Stp.acR 6 [0] rfl rfl (by kernel_rfl) trivial (as_call (sof_spec x rs (U := sl 28 2 keyC ka kc ks) (a := ka) (c := kc) Srd.own (by omega)) (by repeat constructor) (by repeat constructor)) (by rintro _ _ ⟨_, ⟨oa, oc, rfl, rfl⟩, rfl⟩; exact (Reads.cons rfl rfl rfl trivial rfl (rd_lda ag_34 rfl (Rdc.cl 10 (by repeat constructor) rfl) rfl) Reads.nil)) ?_)
  rintro _ _ ⟨_, ⟨oa, oc, rfl, rfl⟩, rfl⟩
  refine Rg.one (by kernel_rfl) (Stp.ac 7 rfl rfl (by kernel_rfl) trivial (as_call (Ct.two (scanFind_spec (S := two S (rsA oa oc (ofR rs ks))) (hT.inn Inn.two1) hA.two1 hF hz hd lim z (a := oa) (c := oc) (rs := ofR rs ks) (Srd.two2 Srd.own) (by rw [hok]; exact hks.2) (by omega)) (by rintro _ _ ⟨_, _, _, _, _, rfl⟩; exact ⟨_, rfl⟩)) (by repeat constructor) (by repeat constructor))  ?_)
  rintro _ _ ⟨_, ⟨_, ⟨za, zc, out, rfl, hO, ⟨⟩⟩, rfl⟩, rfl⟩
  refine Rg.pu 8 rfl rfl (by kernel_rfl) trivial (pu_assign rfl) ?_
  refine Rg.end (by kernel_rfl) ?_
  refine Gs.then_n ?_
  refine Gs.ret ?_
  exact Gs.fin1 Tryz.results18 rfl _ (⟨za, zc, out, rfl, FindIs.all hn hK hO, rfl⟩) (by repeat constructor)
end Go.Proofs.YtklgiidfompdpaaGreatDoor
namespace Go.Proofs.YtklgiidfompdpaaGreatDoor
open Go Go.Sl Go.Gv Go.Kv Go.Po Go.Ix Go.Qu Go.Shelf Go.Stb
set_option maxRecDepth 100000
end Go.Proofs.YtklgiidfompdpaaGreatDoor
namespace Go.Sl
open Go
theorem Ct.twoS {P : Program} {f : FuncId} {args : List Value} {A B C : HProp} {φ : Value → HProp → List HProp → Prop} (c : Ct P f args [A, Sl.two B C] (fun v hs => ∃ A' r, φ v A' r ∧ hs = A' :: Sl.two B C :: r)) : Ct P f args [A, B, C] (fun v hs => ∃ A' r, φ v A' r ∧ hs = A' :: B :: C :: r) := by
  refine ⟨c.enters, fun w0 w R s => ?_⟩
  have s1 : Sat w0 w (B :: C :: A :: R) := Sat.takes (As := [B, C]) s (.cons (.tl .hd) (.cons (.tl .hd) .nil))
  have s2 : Sat w0 w (A :: Sl.two B C :: R) := Sat.take (Sat.two.2 s1) (.tl .hd)
  refine (c.calls w0 w R s2).mono fun _ _ ⟨v, hs, he, ⟨A', r, hp, e⟩, hsat⟩ => ⟨v, A' :: B :: C :: r, he, ⟨A', r, hp, rfl⟩, ?_⟩
  subst e
  have s3 : Sat w0 _ (Sl.two B C :: A' :: (r ++ R)) := Sat.take (L := A' :: Sl.two B C :: (r ++ R)) hsat (.tl .hd)
  exact Sat.take (A := A') (Sat.two.1 s3) (.tl (.tl .hd))
end Go.Sl
namespace Go.Proofs.YtklgiidfompdpaaGreatDoor
open Go Go.Sl Go.Gv Go.Kv Go.Po Go.Ix Go.Qu Go.Shelf Go.Stb
set_option maxRecDepth 100000
theorem rec17_spec (n : Int) (s : ByteArray) : Ct Tryz.prog 28 [int n, .string s] [] (fun v hs => v = recV (recI n s) ∧ hs = []) := by
  refine Ct.intro Tryz.func28 rfl (by kernel_rfl) 9 Tryz.ntmps28 (Nat.le_of_ble_eq_true rfl) fun w0 R => ?_
  refine Gs.seq ?_
  refine Gs.reg ?_
  refine Go.Sl.L.ac rfl rfl trivial (ac_alloc zv_32 rfl) ?_
  rintro _ _ ⟨rb, rfl, rfl⟩
  refine Go.Sl.L.nil ?_
  refine Gs.then_n ?_
  refine Gs.seq ?_
  refine Gs.reg ?_
  refine Go.Sl.L.pu rfl rfl trivial (pu_move rfl) ?_
  refine Go.Sl.L.pu rfl rfl trivial (pu_build bd_28 (by repeat constructor) rfl) ?_
  refine Go.Sl.L.pu rfl rfl trivial (pu_move rfl) ?_
  refine Go.Sl.L.pu rfl rfl trivial (pu_build bd_32 (by repeat constructor) rfl) ?_
  refine Go.Sl.L.ac0 rfl trivial (ac_st sz_32 rfl rfl (by repeat constructor) rfl rfl rfl rfl) ?_
  rintro _ _ rfl
  refine Go.Sl.L.nil ?_
  refine Gs.then_n ?_
  refine Gs.ret ?_
  exact Gs.finc1 Tryz.results28 ag_32 rfl (Rdc.cl 5 (by repeat constructor) rfl) rfl _ (⟨rfl, rfl⟩) (by repeat constructor)
/-- A question for a word, that lies there. -/
abbrev askW (b : Nat) (w : ByteArray) : AskV := .mk 1 0 ⟨some ⟨b, 0, none⟩, [w], 1⟩ none 0 []
theorem word17_spec (w : ByteArray) : Ct Tryz.prog 30 [.string w] [] (fun v hs => ∃ b, v = askV (askW b w) ∧ hs = [sl 9 1 strC (some ⟨b, 0, none⟩) 1 [w]]) := by
  refine Ct.intro Tryz.func30 rfl (by kernel_rfl) 6 Tryz.ntmps30 (Nat.le_of_ble_eq_true rfl) fun w0 R => ?_
  refine Gs.seq ?_
  refine Gs.reg ?_
  refine Go.Sl.L.ac rfl rfl trivial (ac_alloc zv_26 rfl) ?_
  rintro _ _ ⟨ab, rfl, rfl⟩
  refine Go.Sl.L.nil ?_
  refine Gs.then_n ?_
  refine Gs.seq ?_
  refine Gs.reg ?_
  refine Go.Sl.L.pu rfl rfl trivial (pu_move rfl) ?_
  refine Go.Sl.L.ac rfl rfl trivial (ac_lit encC_9 ([w]) et_23 ek_9 rfl (by repeat constructor) rfl rfl (by decide)) ?_
  rintro _ _ ⟨a4, rfl, rfl⟩
  refine Go.Sl.L.pu rfl rfl trivial (pu_build bd_26 (by repeat constructor) rfl) ?_
  refine Go.Sl.L.ac0 rfl trivial (ac_st sz_26 rfl rfl (by repeat constructor) rfl rfl rfl rfl) ?_
  rintro _ _ rfl
  refine Go.Sl.L.nil ?_
  refine Gs.then_n ?_
  refine Gs.ret ?_
  exact Gs.finc1 Tryz.results30 ag_26 rfl (Rdc.cl 4 (by repeat constructor) rfl) rfl _ (⟨_, rfl, rfl⟩) (by repeat constructor)
theorem askW_rd {A S : HProp} {b : Nat} {w : ByteArray} (h : Srd S 1 strC (some ⟨b, 0, none⟩) [w]) : ARd S (askW b w) := .mk h (fun _ _ _ _ _ _ h => (h rfl).elim) ⟨by show 1 ≤ maxLen; decide, Nat.zero_le _⟩ fun x h => by cases h
theorem askW_few {b : Nat} {w : ByteArray} (h : w.size ≤ 100) : FewA 1 (askW b w) := ⟨by show 1 ≤ 30; omega, fun v hv => by rw [List.mem_singleton.1 hv]; exact h, Nat.zero_le _, fun x h => by cases h⟩
theorem askW_size (b : Nat) (w : ByteArray) : sizeA 1 (askW b w) ≤ 1000 := by show 1 + 0 ≤ 1000; omega
theorem IsK.of {rs : List Rec} (hn : (rs.map Rec.key).Nodup) (f : Rec → Bool) : IsK rs f (sortK ((rs.filter f).map Rec.key)) := ⟨sortK_asc (filt_keys hn f), fun k => by
  rw [sortK_mem, List.mem_map]
  exact ⟨fun ⟨r, hr, e⟩ => ⟨r, (List.mem_filter.1 hr).1, e, (List.mem_filter.1 hr).2⟩, fun ⟨r, hr, e, hf⟩ => ⟨r, List.mem_filter.2 ⟨hr, hf⟩, e⟩⟩⟩
abbrev waB : ByteArray := ⟨#[97]⟩
abbrev wbB : ByteArray := ⟨#[98]⟩
abbrev r2B : Rec := recI 2 ⟨#[97, 32, 98]⟩
abbrev r1B : Rec := recI 1 ⟨#[98]⟩
abbrev r1A : Rec := recI 1 ⟨#[97]⟩
theorem put17 : [r2B, r1B, r1A].foldl putR [] = [r2B, r1B] := by kernel_rfl
theorem drop17 : [(⟨1, 1⟩ : Key)].foldl dropR [r2B, r1B] = [r2B] := by kernel_rfl
theorem look17 : lookR [r2B, r1B] ⟨1, 1⟩ = some r1B := by kernel_rfl
theorem mayB17 (b : Nat) : mayA 1 (askW b wbB) = true := by kernel_rfl
theorem mayA17 (b : Nat) : mayA 1 (askW b waB) = true := by kernel_rfl
theorem keys17 (b : Nat) : sortK (([r2B, r1B].filter (holdsQ 1 (askW b wbB))).map Rec.key) = [⟨1, 1⟩, ⟨1, 2⟩] := by kernel_rfl
theorem hits17 (b : Nat) : [r2B, r1B].filter (hitB 1 (askW b waB) Rec.zero) = [r2B] := by kernel_rfl
theorem nod17 : (([r2B, r1B] : List Rec).map Rec.key).Nodup := by decide
theorem ok17 : okQ 3 Rec.zero = true := by kernel_rfl
set_option maxHeartbeats 1000000 in
theorem awake17_spec {h0 : Hp} (T : TabY h0) : Ct Tryz.prog 9 [] [ro h0] (fun v hs => v = .bool true ∧ hs = [ro h0]) := by
  have hTW : TabW (ro h0) := ⟨h0, T, Inn.refl⟩
  refine Ct.intro Tryz.func9 rfl (by kernel_rfl) 64 Tryz.ntmps9 (Nat.le_of_ble_eq_true rfl) fun w0 R => ?_
  refine Gs.seq ?_
  refine Gs.reg ?_
  refine Go.Sl.L.pu rfl rfl trivial (pu_assign rfl) ?_
  refine Go.Sl.L.nil ?_
  refine Gs.then_n ?_
  refine Gs.seq ?_
  refine Gs.reg ?_
  refine Go.Sl.L.ac rfl rfl trivial (as_call (snew_spec) (by repeat constructor) (by repeat constructor)) ?_
  rintro _ _ ⟨_, ⟨x, rfl, rfl⟩, rfl⟩
  refine Go.Sl.L.pu rfl rfl trivial (pu_assign rfl) ?_
  refine Go.Sl.L.nil ?_
  refine Gs.then_n ?_
  refine Gs.seq ?_
  refine Gs.seq ?_
  refine Gs.reg ?_
  refine Go.Sl.L.pu rfl rfl trivial (pu_move rfl) ?_
  refine Go.Sl.L.pu rfl rfl trivial (pu_eqN Tryz.underlying38 rfl rfl) ?_
  refine Go.Sl.L.nil ?_
  refine Gs.then_n ?_
  refine Gs.cond_ff rfl rfl ?_
  refine Gs.skip ?_
  refine Gs.then_n ?_
  refine Gs.seq ?_
  refine Gs.reg ?_
  refine Go.Sl.L.pu rfl rfl trivial (pu_move rfl) ?_
  refine Go.Sl.L.ac rfl rfl trivial (as_call (rec17_spec 2 ⟨#[97, 32, 98]⟩) (by repeat constructor) (by repeat constructor)) ?_
  rintro _ _ ⟨_, ⟨rfl, rfl⟩, rfl⟩
  refine Go.Sl.L.ac rfl rfl trivial (as_call (rec17_spec 1 ⟨#[98]⟩) (by repeat constructor) (by repeat constructor)) ?_
  rintro _ _ ⟨_, ⟨rfl, rfl⟩, rfl⟩
  refine Go.Sl.L.ac rfl rfl trivial (as_call (rec17_spec 1 ⟨#[97]⟩) (by repeat constructor) (by repeat constructor)) ?_
  rintro _ _ ⟨_, ⟨rfl, rfl⟩, rfl⟩
  refine Go.Sl.L.ac rfl rfl trivial (ac_lit encC_32 ([r2B, r1B, r1A]) et_41 ek_32 rfl (by repeat constructor) rfl rfl (by decide)) ?_
  rintro _ _ ⟨a12, rfl, rfl⟩
  refine Go.Sl.L.ac rfl rfl trivial (as_call (Ct.twoR (sput_spec (S := two (ro h0) (rsA (some ⟨a12, 0, none⟩) 3 [r2B, r1B, r1A])) (hTW.u.inn Inn.two1) x [] (a := some ⟨a12, 0, none⟩) (c := 3) (ys := [r2B, r1B, r1A]) (Srd.two2 Srd.own) (by decide))) (by repeat constructor) (by repeat constructor)) ?_
  rintro _ _ ⟨_, ⟨_, ⟨rfl, rfl⟩, rfl⟩, rfl⟩
  rw [put17]
  refine Go.Sl.L.pu rfl rfl trivial (pu_assign rfl) ?_
  refine Go.Sl.L.nil ?_
  refine Gs.then_n ?_
  refine Gs.seq ?_
  refine Gs.reg ?_
  refine Go.Sl.L.pu rfl rfl trivial (pu_move rfl) ?_
  refine Go.Sl.L.ac rfl rfl trivial (as_call (rec17_spec 1 ⟨#[]⟩) (by repeat constructor) (by repeat constructor)) ?_
  rintro _ _ ⟨_, ⟨rfl, rfl⟩, rfl⟩
  refine Go.Sl.L.pu rfl rfl trivial (pu_fg fg_32_0 rfl rfl) ?_
  refine Go.Sl.L.ac rfl rfl trivial (as_call (sget_spec x [r2B, r1B] ⟨1, 1⟩) (by repeat constructor) (by repeat constructor)) ?_
  rintro _ _ ⟨_, ⟨rfl, rfl⟩, rfl⟩
  rw [look17]
  refine Go.Sl.L.pu rfl rfl trivial (pu_move rfl) ?_
  refine Go.Sl.L.pu rfl rfl trivial (pu_extract rfl rfl) ?_
  refine Go.Sl.L.pu rfl rfl trivial (pu_extract rfl rfl) ?_
  refine Go.Sl.L.ac rfl rfl trivial (ac_alloc zv_32 rfl) ?_
  rintro _ _ ⟨rb, rfl, rfl⟩
  refine Go.Sl.L.ac0 rfl trivial (ac_st sz_32 rfl rfl (by repeat constructor) rfl rfl rfl rfl) ?_
  rintro _ _ rfl
  refine Go.Sl.L.pu rfl rfl trivial (pu_assign rfl) ?_
  refine Go.Sl.L.nil ?_
  refine Gs.then_n ?_
  refine Gs.seq ?_
  refine Gs.regD mixed (by kernel_rfl) ?_
  refine Rg.pu 0 rfl rfl (by kernel_rfl) trivial (pu_move rfl) ?_
  refine Rg.pu 1 rfl rfl (by kernel_rfl) trivial (pu_eq rfl rfl) ?_
  refine Rg.puBt 2 rfl rfl (by kernel_rfl) trivial (pu_move rfl) rfl ?_
  refine Rg.rd 3 rfl rfl (by kernel_rfl) ⟨_, rfl, rfl⟩ (rd_lda ag_32 rfl (Rdc.cl 5 (by repeat constructor) rfl) rfl) ?_
  refine Rg.one (by kernel_rfl) (Stp.acR 4 [3] rfl rfl (by kernel_rfl) ⟨_, rfl, rfl⟩ (as_call (rec17_spec 1 ⟨#[98]⟩) (by repeat constructor) (by repeat constructor)) (by rintro _ _ ⟨_, ⟨rfl, rfl⟩, rfl⟩; exact (Reads.cons rfl rfl rfl ⟨_, rfl, rfl⟩ rfl (rd_lda ag_32 rfl (Rdc.cl 5 (by repeat constructor) rfl) rfl) Reads.nil)) ?_)
  rintro _ _ ⟨_, ⟨rfl, rfl⟩, rfl⟩
  refine Rg.pu 5 rfl rfl (by kernel_rfl) ⟨_, rfl, rfl⟩ (pu_eqT (a := r1B) (b := r1B) cmp_32 (by decide) Tryz.eqGuardType32 rfl rfl) ?_
  refine Rg.pu 6 rfl rfl (by kernel_rfl) trivial (by first | exact pu_pick_t rfl rfl | exact pu_pick_f rfl rfl) ?_
  refine Rg.puBt 7 rfl rfl (by kernel_rfl) trivial (pu_move rfl) rfl ?_
  refine Rg.pu 8 rfl rfl (by kernel_rfl) ⟨_, rfl, rfl⟩ (pu_move rfl) ?_
  refine Rg.pu 9 rfl rfl (by kernel_rfl) trivial (by first | exact pu_pick_t rfl rfl | exact pu_pick_f rfl rfl) ?_
  refine Rg.puBt 10 rfl rfl (by kernel_rfl) trivial (pu_move rfl) rfl ?_
  refine Rg.pu 11 rfl rfl (by kernel_rfl) ⟨_, rfl, rfl⟩ (pu_move rfl) ?_
  refine Rg.one (by kernel_rfl) (Stp.ac 12 rfl rfl (by kernel_rfl) ⟨_, rfl, rfl⟩ (as_call (word17_spec wbB) (by repeat constructor) (by repeat constructor))  ?_)
  rintro _ _ ⟨_, ⟨qb, rfl, rfl⟩, rfl⟩
  refine Rg.one (by kernel_rfl) (Stp.ac 13 rfl rfl (by kernel_rfl) ⟨_, rfl, rfl⟩ (as_call (Ct.twoS (φ := fun v A' r => A' = shA x [r2B, r1B] ∧ ∃ a c ks, v = .slice a ks.length c ∧ KsQ [r2B, r1B] 1 (askW qb wbB) ks ∧ r = [sl 28 2 keyC a c ks]) ((sKeys_spec x [r2B, r1B] (by decide) (S := two (ro h0) (sl 9 1 strC (some ⟨qb, 0, none⟩) 1 [wbB])) (hTW.u.inn Inn.two1) (askW_rd (A := ro h0) (Srd.two2 Srd.own)) (askW_few (by decide)) (askW_size _ _) (by decide)).mono (by rintro _ _ ⟨a, c, ks, h1, h2, rfl⟩; exact ⟨_, _, ⟨rfl, a, c, ks, h1, h2, rfl⟩, rfl⟩))) (by repeat constructor) (by repeat constructor))  ?_)
  rintro _ _ ⟨_, ⟨_, _, ⟨rfl, ka, kc, ks, rfl, hK, rfl⟩, rfl⟩, rfl⟩
  obtain rfl : ks = [⟨1, 1⟩, ⟨1, 2⟩] := by rw [← keys17 qb]; exact (hK.1 (mayB17 qb)).uniq (IsK.of nod17 _) (fun _ _ => rfl)
  refine Rg.one (by kernel_rfl) (Stp.ac 14 rfl rfl (by kernel_rfl) ⟨_, rfl, rfl⟩ (as_call (rec17_spec 1 ⟨#[]⟩) (by repeat constructor) (by repeat constructor))  ?_)
  rintro _ _ ⟨_, ⟨rfl, rfl⟩, rfl⟩
  refine Rg.pu 15 rfl rfl (by kernel_rfl) ⟨_, rfl, rfl⟩ (pu_fg fg_32_0 rfl rfl) ?_
  refine Rg.one (by kernel_rfl) (Stp.ac 16 rfl rfl (by kernel_rfl) ⟨_, rfl, rfl⟩ (as_call (rec17_spec 2 ⟨#[]⟩) (by repeat constructor) (by repeat constructor))  ?_)
  rintro _ _ ⟨_, ⟨rfl, rfl⟩, rfl⟩
  refine Rg.pu 17 rfl rfl (by kernel_rfl) ⟨_, rfl, rfl⟩ (pu_fg fg_32_0 rfl rfl) ?_
  refine Rg.one (by kernel_rfl) (Stp.ac 18 rfl rfl (by kernel_rfl) ⟨_, rfl, rfl⟩ (ac_lit encC_28 ([(⟨1, 1⟩ : Key), ⟨1, 2⟩]) et_48 ek_28 rfl (by repeat constructor) rfl rfl (by decide))  ?_)
  rintro _ _ ⟨a39, rfl, rfl⟩
  refine Rg.one (by kernel_rfl) (Stp.ac 19 rfl rfl (by kernel_rfl) ⟨_, rfl, rfl⟩ (as_call (Ct.two0 (sameKeys_spec (S := two (sl 28 2 keyC ka kc [⟨1, 1⟩, ⟨1, 2⟩]) (sl 28 2 keyC (some ⟨a39, 0, none⟩) 2 [⟨1, 1⟩, ⟨1, 2⟩])) (a := ka) (b := some ⟨a39, 0, none⟩) (c := kc) (d := 2) (xs := [⟨1, 1⟩, ⟨1, 2⟩]) (ys := [⟨1, 1⟩, ⟨1, 2⟩]) (Srd.two1 Srd.own) (Srd.two2 Srd.own) (by decide))) (by repeat constructor) (by repeat constructor))  ?_)
  rintro _ _ ⟨_, ⟨rfl, rfl⟩, rfl⟩
  refine Rg.pu 20 rfl rfl (by kernel_rfl) trivial (by first | exact pu_pick_t rfl rfl | exact pu_pick_f rfl rfl) ?_
  refine Rg.puBt 21 rfl rfl (by kernel_rfl) trivial (pu_move rfl) rfl ?_
  refine Rg.pu 22 rfl rfl (by kernel_rfl) ⟨_, rfl, rfl⟩ (pu_move rfl) ?_
  refine Rg.one (by kernel_rfl) (Stp.ac 23 rfl rfl (by kernel_rfl) ⟨_, rfl, rfl⟩ (as_call (word17_spec waB) (by repeat constructor) (by repeat constructor))  ?_)
  rintro _ _ ⟨_, ⟨pb, rfl, rfl⟩, rfl⟩
  refine Rg.pu 24 rfl rfl (by kernel_rfl) ⟨_, rfl, rfl⟩ (pu_build bd_34 (by repeat constructor) rfl) ?_
  refine Rg.one (by kernel_rfl) (Stp.ac 25 rfl rfl (by kernel_rfl) ⟨_, rfl, rfl⟩ (as_call (Ct.twoS (φ := fun v A' r => A' = shA x [r2B, r1B] ∧ ∃ a c out, v = .slice a out.length c ∧ FindIs 1 (askW pb waB) 3 Rec.zero [r2B, r1B] out ∧ r = [rsA a c out]) ((sfind_spec x [r2B, r1B] (by decide) (S := two (ro h0) (sl 9 1 strC (some ⟨pb, 0, none⟩) 1 [waB])) (hTW.inn Inn.two1) (askW_rd (A := ro h0) (Srd.two2 Srd.own)) (askW_few (by decide)) (askW_size _ _) (by decide) 3 Rec.zero).mono (by rintro _ _ ⟨a, c, out, h1, h2, rfl⟩; exact ⟨_, _, ⟨rfl, a, c, out, h1, h2, rfl⟩, rfl⟩))) (by repeat constructor) (by repeat constructor))  ?_)
  rintro _ _ ⟨_, ⟨_, _, ⟨rfl, fa, fc, out, rfl, hO, rfl⟩, rfl⟩, rfl⟩
  obtain rfl : out = [r2B] := by
    obtain ⟨ys, hy, rfl⟩ := hO
    have h1 := (hy.1 (by unfold mayQ; rw [mayA17, ok17]; rfl)).1
    rw [hits17] at h1
    rw [List.perm_singleton.1 h1]; rfl
  refine Rg.pu 26 rfl rfl (by kernel_rfl) ⟨_, rfl, rfl⟩ (pu_len Tryz.underlying41 rfl) ?_
  refine Rg.pu 27 rfl rfl (by kernel_rfl) ⟨_, rfl, rfl⟩ (pu_eq rfl rfl) ?_
  refine Rg.pu 28 rfl rfl (by kernel_rfl) trivial (by first | exact pu_pick_t rfl rfl | exact pu_pick_f rfl rfl) ?_
  refine Rg.puBt 29 rfl rfl (by kernel_rfl) trivial (pu_move rfl) rfl ?_
  refine Rg.pu 30 rfl rfl (by kernel_rfl) ⟨_, rfl, rfl⟩ (pu_move rfl) ?_
  refine Rg.one (by kernel_rfl) (Stp.ac 31 rfl rfl (by kernel_rfl) ⟨_, rfl, rfl⟩ (as_call (rec17_spec 1 ⟨#[]⟩) (by repeat constructor) (by repeat constructor))  ?_)
  rintro _ _ ⟨_, ⟨rfl, rfl⟩, rfl⟩
  refine Rg.pu 32 rfl rfl (by kernel_rfl) ⟨_, rfl, rfl⟩ (pu_fg fg_32_0 rfl rfl) ?_
  refine Rg.one (by kernel_rfl) (Stp.ac 33 rfl rfl (by kernel_rfl) ⟨_, rfl, rfl⟩ (ac_lit encC_28 ([(⟨1, 1⟩ : Key)]) et_48 ek_28 rfl (by repeat constructor) rfl rfl (by decide))  ?_)
  rintro _ _ ⟨a54, rfl, rfl⟩
  refine Rg.one (by kernel_rfl) (Stp.ac 34 rfl rfl (by kernel_rfl) ⟨_, rfl, rfl⟩ (as_call (sdrop_spec x [r2B, r1B] (U := sl 28 2 keyC (some ⟨a54, 0, none⟩) 1 [⟨1, 1⟩]) (a := some ⟨a54, 0, none⟩) (c := 1) (ks := [⟨1, 1⟩]) Srd.own (by decide)) (by repeat constructor) (by repeat constructor))  ?_)
  rintro _ _ ⟨_, ⟨rfl, rfl⟩, rfl⟩
  rw [drop17]
  refine Rg.pu 35 rfl rfl (by kernel_rfl) ⟨_, rfl, rfl⟩ (pu_eq rfl rfl) ?_
  refine Rg.pu 36 rfl rfl (by kernel_rfl) trivial (by first | exact pu_pick_t rfl rfl | exact pu_pick_f rfl rfl) ?_
  refine Rg.puBt 37 rfl rfl (by kernel_rfl) trivial (pu_move rfl) rfl ?_
  refine Rg.pu 38 rfl rfl (by kernel_rfl) ⟨_, rfl, rfl⟩ (pu_move rfl) ?_
  refine Rg.one (by kernel_rfl) (Stp.ac 39 rfl rfl (by kernel_rfl) ⟨_, rfl, rfl⟩ (as_call (srecs_spec x [r2B] (by decide)) (by repeat constructor) (by repeat constructor))  ?_)
  rintro _ _ ⟨_, ⟨ra, rc, ks, rfl, hK, rfl⟩, rfl⟩
  have hk1 : ks.length = 1 := by
    have h1 := hK.uniq (IsK.of (rs := [r2B]) (by decide) (fun _ => true)) (fun _ _ => rfl)
    rw [h1]; rfl
  have hol : (ofR [r2B] ks).length = 1 := by unfold ofR; rw [List.length_map]; exact hk1
  rw [hol]
  refine Rg.pu 40 rfl rfl (by kernel_rfl) ⟨_, rfl, rfl⟩ (pu_len Tryz.underlying41 rfl) ?_
  refine Rg.pu 41 rfl rfl (by kernel_rfl) ⟨_, rfl, rfl⟩ (pu_eq rfl rfl) ?_
  refine Rg.pu 42 rfl rfl (by kernel_rfl) trivial (by first | exact pu_pick_t rfl rfl | exact pu_pick_f rfl rfl) ?_
  refine Rg.pu 43 rfl rfl (by kernel_rfl) trivial (pu_assign rfl) ?_
  refine Rg.end (by kernel_rfl) ?_
  refine Gs.then_n ?_
  refine Gs.ret ?_
  exact Gs.fin1 Tryz.results9 rfl _ (⟨rfl, rfl⟩) (by repeat constructor)
end Go.Proofs.YtklgiidfompdpaaGreatDoor
namespace Go.Proofs.YtklgiidfompdpaaGreatDoor
open Go Go.Sl Go.Gv Go.Kv Go.Po Go.Ix Go.Qu Go.Shelf Go.Stb
set_option maxRecDepth 100000
theorem sputN_spec (a : Option Addr) (n c : Nat) : Ct Tryz.prog 13 [.pointer none, .slice a n c] [] (fun v hs => v = int 0 ∧ hs = []) := by
  refine Ct.intro Tryz.func13 rfl (by kernel_rfl) 34 Tryz.ntmps13 (Nat.le_of_ble_eq_true rfl) fun w0 R => ?_
  refine Gs.seq ?_
  refine Gs.reg ?_
  refine Go.Sl.L.pu rfl rfl trivial (pu_assign rfl) ?_
  refine Go.Sl.L.nil ?_
  refine Gs.then_n ?_
  refine Gs.seq ?_
  refine Gs.seq ?_
  refine Gs.reg ?_
  refine Go.Sl.L.pu rfl rfl trivial (pu_move rfl) ?_
  refine Go.Sl.L.pu rfl rfl trivial (pu_eqN Tryz.underlying38 rfl rfl) ?_
  refine Go.Sl.L.nil ?_
  refine Gs.then_n ?_
  refine Gs.cond_tt rfl rfl ?_
  refine Gs.seq ?_
  refine Gs.reg ?_
  refine Go.Sl.L.pu rfl rfl trivial (pu_assign rfl) ?_
  refine Go.Sl.L.nil ?_
  refine Gs.then_n ?_
  refine Gs.ret ?_
  refine Gs.then_r ?_
  exact Gs.fin1 Tryz.results13 rfl _ (⟨rfl, rfl⟩) (by repeat constructor)
theorem sdropN_spec (a : Option Addr) (n c : Nat) : Ct Tryz.prog 11 [.pointer none, .slice a n c] [] (fun v hs => v = int 0 ∧ hs = []) := by
  refine Ct.intro Tryz.func11 rfl (by kernel_rfl) 27 Tryz.ntmps11 (Nat.le_of_ble_eq_true rfl) fun w0 R => ?_
  refine Gs.seq ?_
  refine Gs.reg ?_
  refine Go.Sl.L.pu rfl rfl trivial (pu_assign rfl) ?_
  refine Go.Sl.L.nil ?_
  refine Gs.then_n ?_
  refine Gs.seq ?_
  refine Gs.seq ?_
  refine Gs.reg ?_
  refine Go.Sl.L.pu rfl rfl trivial (pu_move rfl) ?_
  refine Go.Sl.L.pu rfl rfl trivial (pu_eqN Tryz.underlying38 rfl rfl) ?_
  refine Go.Sl.L.nil ?_
  refine Gs.then_n ?_
  refine Gs.cond_tt rfl rfl ?_
  refine Gs.seq ?_
  refine Gs.reg ?_
  refine Go.Sl.L.pu rfl rfl trivial (pu_assign rfl) ?_
  refine Go.Sl.L.nil ?_
  refine Gs.then_n ?_
  refine Gs.ret ?_
  refine Gs.then_r ?_
  exact Gs.fin1 Tryz.results11 rfl _ (⟨rfl, rfl⟩) (by repeat constructor)
theorem srecsN_spec : Ct Tryz.prog 20 [.pointer none] [] (fun v hs => v = .slice none 0 0 ∧ hs = []) := by
  refine Ct.intro Tryz.func20 rfl (by kernel_rfl) 12 Tryz.ntmps20 (Nat.le_of_ble_eq_true rfl) fun w0 R => ?_
  refine Gs.seq ?_
  refine Gs.reg ?_
  refine Go.Sl.L.pu rfl rfl trivial (pu_assign rfl) ?_
  refine Go.Sl.L.nil ?_
  refine Gs.then_n ?_
  refine Gs.seq ?_
  refine Gs.seq ?_
  refine Gs.reg ?_
  refine Go.Sl.L.pu rfl rfl trivial (pu_move rfl) ?_
  refine Go.Sl.L.pu rfl rfl trivial (pu_eqN Tryz.underlying38 rfl rfl) ?_
  refine Go.Sl.L.nil ?_
  refine Gs.then_n ?_
  refine Gs.cond_tt rfl rfl ?_
  refine Gs.seq ?_
  refine Gs.reg ?_
  refine Go.Sl.L.pu rfl rfl trivial (pu_assign rfl) ?_
  refine Go.Sl.L.nil ?_
  refine Gs.then_n ?_
  refine Gs.ret ?_
  refine Gs.then_r ?_
  exact Gs.fin1 Tryz.results20 rfl _ (⟨rfl, rfl⟩) (by repeat constructor)
theorem sgetN_spec (k : Key) : Ct Tryz.prog 17 [.pointer none, keyV k] [] (fun v hs => v = .tuple #[recV Rec.zero, .bool false] ∧ hs = []) := by
  refine Ct.intro Tryz.func17 rfl (by kernel_rfl) 22 Tryz.ntmps17 (Nat.le_of_ble_eq_true rfl) fun w0 R => ?_
  refine Gs.seq ?_
  refine Gs.reg ?_
  refine Go.Sl.L.ac rfl rfl trivial (ac_box rfl rfl) ?_
  rintro _ _ ⟨kb, rfl, rfl⟩
  refine Go.Sl.L.ac rfl rfl trivial (ac_alloc zv_32 rfl) ?_
  rintro _ _ ⟨vb, rfl, rfl⟩
  refine Go.Sl.L.pu rfl rfl trivial (pu_assign rfl) ?_
  refine Go.Sl.L.nil ?_
  refine Gs.then_n ?_
  refine Gs.seq ?_
  refine Gs.seq ?_
  refine Gs.reg ?_
  refine Go.Sl.L.pu rfl rfl trivial (pu_move rfl) ?_
  refine Go.Sl.L.pu rfl rfl trivial (pu_eqN Tryz.underlying38 rfl rfl) ?_
  refine Go.Sl.L.nil ?_
  refine Gs.then_n ?_
  refine Gs.cond_tt rfl rfl ?_
  refine Gs.seq ?_
  refine Gs.reg ?_
  refine Go.Sl.L.pu rfl rfl trivial (pu_build bd_32 (by repeat constructor) rfl) ?_
  refine Go.Sl.L.ac0 rfl trivial (ac_st sz_32 rfl rfl (by repeat constructor) rfl rfl rfl rfl) ?_
  rintro _ _ rfl
  refine Go.Sl.L.pu rfl rfl trivial (pu_assign rfl) ?_
  refine Go.Sl.L.nil ?_
  refine Gs.then_n ?_
  refine Gs.ret ?_
  refine Gs.then_r ?_
  exact Gs.finc2 Tryz.results17 ag_32 rfl (Rdc.cl 5 (by repeat constructor) rfl) rfl rfl _ (⟨rfl, rfl⟩) (by repeat constructor)
theorem sKeysN_spec (y : AskV) : Ct Tryz.prog 19 [.pointer none, askV y] [] (fun v hs => v = .slice none 0 0 ∧ hs = []) := by
  refine Ct.intro Tryz.func19 rfl (by kernel_rfl) 15 Tryz.ntmps19 (Nat.le_of_ble_eq_true rfl) fun w0 R => ?_
  refine Gs.seq ?_
  refine Gs.reg ?_
  refine Go.Sl.L.ac rfl rfl trivial (ac_box rfl rfl) ?_
  rintro _ _ ⟨yb, rfl, rfl⟩
  refine Go.Sl.L.pu rfl rfl trivial (pu_assign rfl) ?_
  refine Go.Sl.L.nil ?_
  refine Gs.then_n ?_
  refine Gs.seq ?_
  refine Gs.seq ?_
  refine Gs.reg ?_
  refine Go.Sl.L.pu rfl rfl trivial (pu_move rfl) ?_
  refine Go.Sl.L.pu rfl rfl trivial (pu_eqN Tryz.underlying38 rfl rfl) ?_
  refine Go.Sl.L.puBt rfl rfl trivial (pu_move rfl) rfl ?_
  refine Go.Sl.L.off rfl rfl rfl rfl rfl rfl ?_
  refine Go.Sl.L.off rfl rfl rfl rfl rfl rfl ?_
  refine Go.Sl.L.off rfl rfl rfl rfl rfl rfl ?_
  refine Go.Sl.L.pu rfl rfl trivial (by first | exact pu_pick_t rfl rfl | exact pu_pick_f rfl rfl) ?_
  refine Go.Sl.L.nil ?_
  refine Gs.then_n ?_
  refine Gs.cond_t rfl ?_
  refine Gs.seq ?_
  refine Gs.reg ?_
  refine Go.Sl.L.pu rfl rfl trivial (pu_assign rfl) ?_
  refine Go.Sl.L.nil ?_
  refine Gs.then_n ?_
  refine Gs.ret ?_
  refine Gs.then_r ?_
  exact Gs.fin1 Tryz.results19 rfl _ (⟨rfl, rfl⟩) (by repeat constructor)
theorem sfindN_spec (y : AskV) (lim : Int) (z : Rec) : Ct Tryz.prog 18 [.pointer none, quV y lim z] [] (fun v hs => v = .slice none 0 0 ∧ hs = []) := by
  refine Ct.intro Tryz.func18 rfl (by kernel_rfl) 15 Tryz.ntmps18 (Nat.le_of_ble_eq_true rfl) fun w0 R => ?_
  refine Gs.seq ?_
  refine Gs.reg ?_
  refine Go.Sl.L.ac rfl rfl trivial (ac_box rfl rfl) ?_
  rintro _ _ ⟨qb, rfl, rfl⟩
  refine Go.Sl.L.pu rfl rfl trivial (pu_assign rfl) ?_
  refine Go.Sl.L.nil ?_
  refine Gs.then_n ?_
  refine Gs.seq ?_
  refine Gs.seq ?_
  refine Gs.reg ?_
  refine Go.Sl.L.pu rfl rfl trivial (pu_move rfl) ?_
  refine Go.Sl.L.pu rfl rfl trivial (pu_eqN Tryz.underlying38 rfl rfl) ?_
  refine Go.Sl.L.nil ?_
  refine Gs.then_n ?_
  refine Gs.cond_tt rfl rfl ?_
  refine Gs.seq ?_
  refine Gs.reg ?_
  refine Go.Sl.L.pu rfl rfl trivial (pu_assign rfl) ?_
  refine Go.Sl.L.nil ?_
  refine Gs.then_n ?_
  refine Gs.ret ?_
  refine Gs.then_r ?_
  exact Gs.fin1 Tryz.results18 rfl _ (⟨rfl, rfl⟩) (by repeat constructor)
/-- The question that is none. -/
abbrev askZ : AskV := .mk 0 0 ⟨none, [], 0⟩ none 0 []
theorem fnone_spec {h0 : Hp} (T : TabY h0) (n : Int) : Ct Tryz.prog 5 [int n] [ro h0] (fun v hs => v = .bool true ∧ hs = [ro h0]) := by
  refine Ct.intro Tryz.func5 rfl (by kernel_rfl) 58 Tryz.ntmps5 (Nat.le_of_ble_eq_true rfl) fun w0 R => ?_
  refine Gs.seq ?_
  refine Gs.reg ?_
  refine Go.Sl.L.pu rfl rfl trivial (pu_assign rfl) ?_
  refine Go.Sl.L.nil ?_
  refine Gs.then_n ?_
  refine Gs.seq ?_
  refine Gs.reg ?_
  refine Go.Sl.L.pu rfl rfl trivial (pu_assign rfl) ?_
  refine Go.Sl.L.nil ?_
  refine Gs.then_n ?_
  refine Gs.seq ?_
  refine Gs.reg ?_
  refine Go.Sl.L.pu rfl rfl trivial (pu_move rfl) ?_
  refine Go.Sl.L.pu rfl rfl trivial (pu_move rfl) ?_
  refine Go.Sl.L.pu rfl rfl trivial (pu_build bd_28 (by repeat constructor) rfl) ?_
  refine Go.Sl.L.ac rfl rfl trivial (as_call (sgetN_spec ⟨0, n⟩) (by repeat constructor) (by repeat constructor)) ?_
  rintro _ _ ⟨_, ⟨rfl, rfl⟩, rfl⟩
  refine Go.Sl.L.pu rfl rfl trivial (pu_move rfl) ?_
  refine Go.Sl.L.pu rfl rfl trivial (pu_extract rfl rfl) ?_
  refine Go.Sl.L.pu rfl rfl trivial (pu_extract rfl rfl) ?_
  refine Go.Sl.L.ac rfl rfl trivial (ac_alloc zv_32 rfl) ?_
  rintro _ _ ⟨vb, rfl, rfl⟩
  refine Go.Sl.L.ac0 rfl trivial (ac_st sz_32 rfl rfl (by repeat constructor) rfl rfl rfl rfl) ?_
  rintro _ _ rfl
  refine Go.Sl.L.pu rfl rfl trivial (pu_assign rfl) ?_
  refine Go.Sl.L.nil ?_
  refine Gs.then_n ?_
  refine Gs.seq ?_
  refine Gs.reg ?_
  refine Go.Sl.L.pu rfl rfl trivial (pu_move rfl) ?_
  refine Go.Sl.L.ac rfl rfl trivial (as_call (rec17_spec 1 waB) (by repeat constructor) (by repeat constructor)) ?_
  rintro _ _ ⟨_, ⟨rfl, rfl⟩, rfl⟩
  refine Go.Sl.L.ac rfl rfl trivial (ac_lit encC_32 ([recI 1 waB]) et_41 ek_32 rfl (by repeat constructor) rfl rfl (by decide)) ?_
  rintro _ _ ⟨a15, rfl, rfl⟩
  refine Go.Sl.L.ac rfl rfl trivial (as_call (sputN_spec (some ⟨a15, 0, none⟩) 1 1) (by repeat constructor) (by repeat constructor)) ?_
  rintro _ _ ⟨_, ⟨rfl, rfl⟩, rfl⟩
  refine Go.Sl.L.pu rfl rfl trivial (pu_eq rfl rfl) ?_
  refine Go.Sl.L.puBt rfl rfl trivial (pu_move rfl) rfl ?_
  refine Go.Sl.L.pu rfl rfl ⟨_, rfl, rfl⟩ (pu_move rfl) ?_
  refine Go.Sl.L.pu rfl rfl ⟨_, rfl, rfl⟩ (pu_move rfl) ?_
  refine Go.Sl.L.pu rfl rfl ⟨_, rfl, rfl⟩ (pu_build bd_28 (by repeat constructor) rfl) ?_
  refine Go.Sl.L.ac rfl rfl ⟨_, rfl, rfl⟩ (ac_lit encC_28 ([(⟨0, n⟩ : Key)]) et_48 ek_28 rfl (by repeat constructor) rfl rfl (by decide)) ?_
  rintro _ _ ⟨a22, rfl, rfl⟩
  refine Go.Sl.L.ac rfl rfl ⟨_, rfl, rfl⟩ (as_call (sdropN_spec (some ⟨a22, 0, none⟩) 1 1) (by repeat constructor) (by repeat constructor)) ?_
  rintro _ _ ⟨_, ⟨rfl, rfl⟩, rfl⟩
  refine Go.Sl.L.pu rfl rfl ⟨_, rfl, rfl⟩ (pu_eq rfl rfl) ?_
  refine Go.Sl.L.pu rfl rfl trivial (by first | exact pu_pick_t rfl rfl | exact pu_pick_f rfl rfl) ?_
  refine Go.Sl.L.puBt rfl rfl trivial (pu_move rfl) rfl ?_
  refine Go.Sl.L.pu rfl rfl ⟨_, rfl, rfl⟩ (pu_move rfl) ?_
  refine Go.Sl.L.ac rfl rfl ⟨_, rfl, rfl⟩ (as_call (srecsN_spec) (by repeat constructor) (by repeat constructor)) ?_
  rintro _ _ ⟨_, ⟨rfl, rfl⟩, rfl⟩
  refine Go.Sl.L.pu rfl rfl ⟨_, rfl, rfl⟩ (pu_len Tryz.underlying41 rfl) ?_
  refine Go.Sl.L.pu rfl rfl ⟨_, rfl, rfl⟩ (pu_eq rfl rfl) ?_
  refine Go.Sl.L.pu rfl rfl trivial (by first | exact pu_pick_t rfl rfl | exact pu_pick_f rfl rfl) ?_
  refine Go.Sl.L.puBt rfl rfl trivial (pu_move rfl) rfl ?_
  refine Go.Sl.L.rd rfl rfl ⟨_, rfl, rfl⟩ (rd_lda ag_32 rfl (Rdc.cl 5 (by repeat constructor) rfl) rfl) ?_
  refine Go.Sl.L.pu rfl rfl ⟨_, rfl, rfl⟩ (pu_build bd_32 (by repeat constructor) rfl) ?_
  refine Go.Sl.L.pu rfl rfl ⟨_, rfl, rfl⟩ (pu_eqT (a := Rec.zero) (b := Rec.zero) cmp_32 (by decide) Tryz.eqGuardType32 rfl rfl) ?_
  refine Go.Sl.L.pu rfl rfl trivial (by first | exact pu_pick_t rfl rfl | exact pu_pick_f rfl rfl) ?_
  refine Go.Sl.L.puBt rfl rfl trivial (pu_move rfl) rfl ?_
  refine Go.Sl.L.pu rfl rfl ⟨_, rfl, rfl⟩ (pu_move rfl) ?_
  refine Go.Sl.L.pu rfl rfl ⟨_, rfl, rfl⟩ (pu_not rfl) ?_
  refine Go.Sl.L.pu rfl rfl trivial (by first | exact pu_pick_t rfl rfl | exact pu_pick_f rfl rfl) ?_
  refine Go.Sl.L.puBt rfl rfl trivial (pu_move rfl) rfl ?_
  refine Go.Sl.L.pu rfl rfl ⟨_, rfl, rfl⟩ (pu_move rfl) ?_
  refine Go.Sl.L.pu rfl rfl ⟨_, rfl, rfl⟩ (pu_build bd_34 (by repeat constructor) rfl) ?_
  refine Go.Sl.L.ac rfl rfl ⟨_, rfl, rfl⟩ (as_call (sfindN_spec askZ 0 Rec.zero) (by repeat constructor) (by repeat constructor)) ?_
  rintro _ _ ⟨_, ⟨rfl, rfl⟩, rfl⟩
  refine Go.Sl.L.pu rfl rfl ⟨_, rfl, rfl⟩ (pu_len Tryz.underlying41 rfl) ?_
  refine Go.Sl.L.pu rfl rfl ⟨_, rfl, rfl⟩ (pu_eq rfl rfl) ?_
  refine Go.Sl.L.pu rfl rfl trivial (by first | exact pu_pick_t rfl rfl | exact pu_pick_f rfl rfl) ?_
  refine Go.Sl.L.puBt rfl rfl trivial (pu_move rfl) rfl ?_
  refine Go.Sl.L.pu rfl rfl ⟨_, rfl, rfl⟩ (pu_move rfl) ?_
  refine Go.Sl.L.pu rfl rfl ⟨_, rfl, rfl⟩ (pu_build bd_26 (by repeat constructor) rfl) ?_
  refine Go.Sl.L.ac rfl rfl ⟨_, rfl, rfl⟩ (as_call (sKeysN_spec askZ) (by repeat constructor) (by repeat constructor)) ?_
  rintro _ _ ⟨_, ⟨rfl, rfl⟩, rfl⟩
  refine Go.Sl.L.pu rfl rfl ⟨_, rfl, rfl⟩ (pu_len Tryz.underlying48 rfl) ?_
  refine Go.Sl.L.pu rfl rfl ⟨_, rfl, rfl⟩ (pu_eq rfl rfl) ?_
  refine Go.Sl.L.pu rfl rfl trivial (by first | exact pu_pick_t rfl rfl | exact pu_pick_f rfl rfl) ?_
  refine Go.Sl.L.puBt rfl rfl trivial (pu_move rfl) rfl ?_
  refine Go.Sl.L.ac rfl rfl ⟨_, rfl, rfl⟩ (as_call (awake17_spec T) (by repeat constructor) (by repeat constructor)) ?_
  rintro _ _ ⟨_, ⟨rfl, rfl⟩, rfl⟩
  refine Go.Sl.L.pu rfl rfl trivial (by first | exact pu_pick_t rfl rfl | exact pu_pick_f rfl rfl) ?_
  refine Go.Sl.L.pu rfl rfl trivial (pu_assign rfl) ?_
  refine Go.Sl.L.nil ?_
  refine Gs.then_n ?_
  refine Gs.ret ?_
  exact Gs.fin1 Tryz.results5 rfl _ (⟨rfl, rfl⟩) (by repeat constructor)
end Go.Proofs.YtklgiidfompdpaaGreatDoor
namespace Go.Proofs.YtklgiidfompdpaaGreatDoor
open Go Go.Sl Go.ChangeShapes Go.WideShapes Go.ChangeAt Go.RowKit Go.Lib Go.Shelf
set_option maxRecDepth 100000
theorem own : ownKnob Tryz.prog.godebug = none := by kernel_rfl
theorem laidOut : laidOutB Tryz.prog = true := by kernel_rfl
abbrev laidList : List (String × DataW Unit) := [("math/bits.deBruijn32tab", Rows.laid_math_bits_deBruijn32tab), ("math/bits.deBruijn64tab", Rows.laid_math_bits_deBruijn64tab), ("internal/strconv.uint64pow10", Rows.laid_internal_strconv_uint64pow10), ("unicode/utf8.acceptRanges", acceptData), ("unicode.properties", Lib.tabData .u8 Lib.propertiesTab)] ++ [("unicode.CaseRanges", caseData)] ++ [("unicode.Digit", rtabData digitT)] ++ [("unicode.Letter", rtabData letterT)] ++ [("unicode/utf8.first", firstData)]
theorem xL : RExtra Tryz.prog Tryz.laysLetter_ren := ⟨by kernel_rfl, by kernel_rfl, by kernel_rfl, by kernel_rfl, by kernel_rfl, by kernel_rfl, by kernel_rfl, by kernel_rfl⟩
theorem xD : RExtra Tryz.prog Tryz.laysDigit_ren := ⟨by kernel_rfl, by kernel_rfl, by kernel_rfl, by kernel_rfl, by kernel_rfl, by kernel_rfl, by kernel_rfl, by kernel_rfl⟩
theorem xC : CaseExtra Tryz.prog Tryz.laysLower_ren := ⟨by kernel_rfl, by kernel_rfl, by kernel_rfl, by kernel_rfl, by kernel_rfl, by kernel_rfl⟩
theorem cT : Go.Great.CTypes Tryz.prog 243 297 295 193 21 := ⟨by kernel_rfl, by kernel_rfl, by kernel_rfl, by kernel_rfl, by kernel_rfl, by kernel_rfl, by kernel_rfl, by kernel_rfl, by kernel_rfl⟩
noncomputable abbrev N0 : Nat := (World.settled Tryz.prog default).heap.size
/-- The settled world with seven blocks more; the variables hold what their initialisers lay. -/
noncomputable def laidWorld (os : Os) : World :=
  let N := (World.settled Tryz.prog os).heap.size
  let ρ := Tryz.laysLetter_ren
  let w0 := World.holding Tryz.prog os ⟨#[
    .cells (rgCells .u16 letterT.r16) (ρ.t 198), .cells (rgCells .u32 letterT.r32) (ρ.t 201),
    .cells #[.slice (some ⟨N, 0, none⟩) letterT.r16.size letterT.r16.size, .slice (some ⟨N + 1, 0, none⟩) letterT.r32.size letterT.r32.size, .int .i64 letterT.off] (ρ.t 196),
    .cells (rgCells .u16 digitT.r16) (ρ.t 198), .cells (rgCells .u32 digitT.r32) (ρ.t 201),
    .cells #[.slice (some ⟨N + 3, 0, none⟩) digitT.r16.size digitT.r16.size, .slice (some ⟨N + 4, 0, none⟩) digitT.r32.size digitT.r32.size, .int .i64 digitT.off] (ρ.t 196),
    .cells (caseT.flatMap Lib.cells5).toArray 297], #[], []⟩
  let put (h : Array Obj) (g : Nat) (cs : Array Value) : Array Obj := h.modify g fun
    | .cells _ t frozen => .cells cs t frozen
    | o => o
  let h1 := put w0.heap 0 (Go.Pinned.utf8FirstZ.map fun (z : Nat) => Value.int .u8 z).toArray
  let h2 := put h1 1 ((List.range 16).flatMap fun i => [Value.int .u8 (Lib.accLo i), Value.int .u8 (Lib.accHi i)]).toArray
  let h3 := put h2 2 (Lib.propertiesTab.map fun z => Value.int .u8 z).toArray
  let h4 := put h3 3 #[.pointer (some ⟨N + 2, 0, none⟩)]
  let h5 := put h4 4 #[.pointer (some ⟨N + 5, 0, none⟩)]
  let h6 := put h5 5 #[.slice (some ⟨N + 6, 0, none⟩) caseT.length caseT.length]
  let h7 := put h6 8 (([0, 1, 28, 2, 29, 14, 24, 3, 30, 22, 20, 15, 25, 17, 4, 8, 31, 27, 13, 23, 21, 19, 16, 7, 26, 12, 18, 6, 11, 5, 10, 9] : List Int).map fun z => Value.int .u8 z).toArray
  let h8 := put h7 9 (([0, 1, 56, 2, 57, 49, 28, 3, 61, 58, 42, 50, 38, 29, 17, 4, 62, 47, 59, 36, 45, 43, 51, 22, 53, 39, 33, 30, 24, 18, 12, 5, 63, 55, 48, 27, 60, 41, 37, 16, 46, 35, 44, 21, 52, 32, 23, 11, 54, 26, 40, 15, 34, 20, 31, 10, 25, 14, 19, 9, 13, 8, 7, 6] : List Int).map fun z => Value.int .u8 z).toArray
  let h9 := put h8 6 (([1, 10, 100, 1000, 10000, 100000, 1000000, 10000000, 100000000, 1000000000, 10000000000, 100000000000, 1000000000000, 10000000000000, 100000000000000, 1000000000000000, 10000000000000000, 100000000000000000, 1000000000000000000, 10000000000000000000] : List Int).map fun z => Value.int .u64 z).toArray
  { w0 with heap := h9 }
noncomputable abbrev lw (os : Os) (args : Array Value) : World := ((laidWorld os).forCall (fun _ _ => 0) ⟨#[], args, []⟩).memory
theorem piece0 (os : Os) (args : Array Value) : LaidIn Tryz.prog (lw os args) [("math/bits.deBruijn32tab", Rows.laid_math_bits_deBruijn32tab), ("math/bits.deBruijn64tab", Rows.laid_math_bits_deBruijn64tab), ("internal/strconv.uint64pow10", Rows.laid_internal_strconv_uint64pow10), ("unicode/utf8.acceptRanges", acceptData), ("unicode.properties", Lib.tabData .u8 Lib.propertiesTab)] [8, 9, 6, 1, 2] :=
  LaidIn.of_run _ 8 (by kernel_rfl) (by kernel_rfl) (by kernel_rfl) (by kernel_rfl)
theorem piece1 (os : Os) (args : Array Value) : LaidIn Tryz.prog (lw os args) [("unicode.CaseRanges", caseData)] [5, N0 + 6] :=
  Go.Great.laidIn_case cT (g := 5) (B := N0 + 6) (tg := 243) (tb := 297) caseT (by kernel_rfl) (by kernel_rfl) (of_decide_eq_true (by kernel_rfl)) (by kernel_rfl) (by kernel_rfl) (by kernel_rfl) (of_decide_eq_true (by kernel_rfl))
theorem piece2 (os : Os) (args : Array Value) : LaidIn Tryz.prog (lw os args) [("unicode.Digit", rtabData digitT)] [4, N0 + 5, N0 + 3, N0 + 4] :=
  laidIn_rtab (ρ := Tryz.laysDigit_ren) { Tryz.laysDigit with } xD (by kernel_rfl) (by kernel_rfl) digitT (N0 + 5) (N0 + 3) (N0 + 4) (Tryz.laysDigit_ren.t 198) (Tryz.laysDigit_ren.t 201)
    (by kernel_rfl) (by kernel_rfl) (by kernel_rfl) (by kernel_rfl) (by kernel_rfl) (of_decide_eq_true (by kernel_rfl)) (of_decide_eq_true (by kernel_rfl)) (of_decide_eq_true (by kernel_rfl))
theorem piece3 (os : Os) (args : Array Value) : LaidIn Tryz.prog (lw os args) [("unicode.Letter", rtabData letterT)] [3, N0 + 2, N0, N0 + 1] :=
  laidIn_rtab (ρ := Tryz.laysLetter_ren) { Tryz.laysLetter with } xL (by kernel_rfl) (by kernel_rfl) letterT (N0 + 2) N0 (N0 + 1) (Tryz.laysLetter_ren.t 198) (Tryz.laysLetter_ren.t 201)
    (by kernel_rfl) (by kernel_rfl) (by kernel_rfl) (by kernel_rfl) (by kernel_rfl) (of_decide_eq_true (by kernel_rfl)) (of_decide_eq_true (by kernel_rfl)) (of_decide_eq_true (by kernel_rfl))
theorem piece4 (os : Os) (args : Array Value) : LaidIn Tryz.prog (lw os args) [("unicode/utf8.first", firstData)] [0] :=
  LaidIn.of_run [0] 8 (by kernel_rfl) (by kernel_rfl) (by kernel_rfl) (by kernel_rfl)
theorem laid_all (os : Os) (args : Array Value) : laidMet Tryz.prog laidList (lw os args) :=
  (((((piece0 os args).append (piece1 os args) (by kernel_rfl)).append (piece2 os args) (by kernel_rfl)).append (piece3 os args) (by kernel_rfl)).append (piece4 os args) (by kernel_rfl)).met
theorem cell_le {W w : World} (h : Hp.le (whole W) w) {a : Addr} {v : Value} (e : W.cell? a = some v) : w.cell? a = some v := by
  cases hb : W.heap[a.block]? with
  | none => simp [World.cell?, hb] at e
  | some o =>
    have : w.heap[a.block]? = some o := h a.block o (by simp [whole, hb])
    rw [← e]; simp [World.cell?, hb, this]
theorem var_le {W w : World} (h : Hp.le (whole W) w) {n : String} {cs : Array Value} (e : W.var? Tryz.prog n = some cs) : w.var? Tryz.prog n = some cs := by
  unfold World.var? at e ⊢
  cases hg : Tryz.prog.globalNamed n with
  | none => rw [hg] at e; cases e
  | some g =>
    rw [hg] at e
    simp only [Option.bind_some] at e ⊢
    cases hb : W.heap[g]? with
    | none => rw [hb] at e; cases e
    | some o =>
      rw [hb] at e
      rw [h g o (by simp [whole, hb])]; exact e
theorem rgTab_le {W w : World} (h : Hp.le (whole W) w) {k : IntKind} {R oR : Nat} {T : Array Rg} (e : RgTab k R oR T W) : RgTab k R oR T w := fun i hi => ⟨cell_le h (e i hi).1, cell_le h (e i hi).2.1, cell_le h (e i hi).2.2⟩
theorem rvar_le {W w : World} (h : Hp.le (whole W) w) {g : Nat} {T : RTab} (e : RVar g T W) : RVar g T w := by
  obtain ⟨Tb, oT, h0, a16, a32, R16, o16, c16, R32, o32, c32, h1, h2, h3, h4, h5, h6, h7, h8⟩ := e
  exact ⟨Tb, oT, cell_le h h0, a16, a32, R16, o16, c16, R32, o32, c32, cell_le h h1, cell_le h h2, cell_le h h3, h4, h5, rgTab_le h h6, rgTab_le h h7, h8⟩
theorem case_le {W w : World} (h : Hp.le (whole W) w) {g : Nat} {T : Array CaseRow} (e : CaseVar g T W) : CaseVar g T w := by
  obtain ⟨R, oR, cap, h1, h2⟩ := e
  exact ⟨R, oR, cap, cell_le h h1, fun i hi => ⟨cell_le h (h2 i hi).1, cell_le h (h2 i hi).2.1, cell_le h (h2 i hi).2.2.1, cell_le h (h2 i hi).2.2.2.1, cell_le h (h2 i hi).2.2.2.2⟩⟩
theorem tabs_of {W : World} (hL : laidMet Tryz.prog laidList W) : TabY (whole W) := by
  have h1 := Lib.laidMet.reads hL (.tail _ (.tail _ (.tail _ (.head _))))
  have h2 := Lib.laidMet.reads hL (.tail _ (.tail _ (.tail _ (.tail _ (.tail _ (.tail _ (.tail _ (.tail _ (.head _)))))))))
  have hp := Lib.laidMet.reads hL (.tail _ (.tail _ (.tail _ (.tail _ (.head _)))))
  have hw := Lib.laidMet.reads hL (.tail _ (.tail _ (.head _)))
  have hc := Lib.laidMet.reads hL (.tail _ (.tail _ (.tail _ (.tail _ (.tail _ (.head _))))))
  have hd := Lib.laidMet.reads hL (.tail _ (.tail _ (.tail _ (.tail _ (.tail _ (.tail _ (.head _)))))))
  have hl := Lib.laidMet.reads hL (.tail _ (.tail _ (.tail _ (.tail _ (.tail _ (.tail _ (.tail _ (.head _))))))))
  have h : Lib.Utf8Tabs (Tryz.laysValid_ren.g 3) (Tryz.laysValid_ren.g 4) W := utf8Tabs_of_readsT (U8Types.of196 Tryz.laysValid) ⟨by kernel_rfl, by kernel_rfl, by kernel_rfl, by kernel_rfl, by kernel_rfl, by kernel_rfl, by kernel_rfl⟩ h2 h1
  have hP : Lib.TabIs Tryz.prog W "unicode.properties" .u8 Lib.propertiesTab := by
    obtain ⟨g, t, cs, fuel, p, hg, hty, hvar, hdd⟩ := hp
    have eg : Tryz.prog.globalNamed "unicode.properties" = some 2 := by kernel_rfl
    have et : (Tryz.prog.globals[2]?).map (·.type) = some 189 := by kernel_rfl
    obtain rfl := Option.some.inj (eg.symm.trans hg)
    obtain rfl := Option.some.inj (et.symm.trans hty)
    unfold Lib.TabIs
    rw [hvar, ← cells_of_tab Tryz.underlying189 Tryz.underlying5 (by kernel_rfl) (by kernel_rfl) hdd]
  have hW : Lib.TabIs Tryz.prog W "internal/strconv.uint64pow10" .u64 Lib.pow10Tab := by
    obtain ⟨g, t, cs, fuel, p, hg, hty, hvar, hdd⟩ := hw
    have eg : Tryz.prog.globalNamed "internal/strconv.uint64pow10" = some 6 := by kernel_rfl
    have et : (Tryz.prog.globals[6]?).map (·.type) = some 309 := by kernel_rfl
    obtain rfl := Option.some.inj (eg.symm.trans hg)
    obtain rfl := Option.some.inj (et.symm.trans hty)
    rw [show (Rows.laid_internal_strconv_uint64pow10 : DataW Unit) = Lib.tabData .u64 Lib.pow10Tab by kernel_rfl] at hdd
    unfold Lib.TabIs
    rw [hvar, ← cells_of_tab Tryz.underlying309 Tryz.underlying229 (by kernel_rfl) (by kernel_rfl) hdd]
  have hLt := rvar_of_reads { Tryz.laysLetter with } xL (g := Tryz.laysLetter_ren.g 8) (by kernel_rfl) (by kernel_rfl) hl
  have hDt := rvar_of_reads { Tryz.laysDigit with } xD (g := Tryz.laysDigit_ren.g 5) (by kernel_rfl) (by kernel_rfl) hd
  have hCt := caseVar_of_reads { Tryz.laysLower with } (by kernel_rfl) xC hc
  exact ⟨⟨fun w hle => ⟨fun c hc => cell_le hle (h.1 c hc), fun i hi => ⟨cell_le hle (h.2 i hi).1, cell_le hle (h.2 i hi).2⟩⟩, fun w hle => ⟨var_le hle hP, rvar_le hle hLt, rvar_le hle hDt, case_le hle hCt⟩⟩, fun w hle => var_le hle hW⟩
/-- What a walk's contract over the whole of a world gives: nothing that was there turns. -/
theorem calls_of {P : Program} {f : FuncId} {args : List Value} {W : World} (c : Ct P f args [ro (whole W)] (fun v hs => v = .bool true ∧ hs = [ro (whole W)])) :
    Calls P f args.toArray W fun e W' => e = .returned (.bool true) ∧ Below W.heap.size W W' :=
  (c.calls W W [] (Sat.start W)).mono fun e W' ⟨v, hs, he, ⟨hv, hhs⟩, hsat⟩ => by
    subst hv; subst hhs
    exact ⟨he, Sat.below hsat⟩
end Go.Proofs.YtklgiidfompdpaaGreatDoor
