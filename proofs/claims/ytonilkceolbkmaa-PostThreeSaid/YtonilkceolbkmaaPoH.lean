/- Walks: Phrase, Or (grapevineref10). -/
import Derived.Test.YtonilkceolbkmaaPoG
namespace Go.Po
open Go Go.Sl Go.Gv
theorem andV_mem {ls : List (SlV PostV)} {k : Key} (h : k ∈ andV ls) : ls ≠ [] ∧ mayAll (ls.map fun l => l.xs.map PostV.p) = true ∧ ∀ l ∈ ls, ∃ p, lookP l.xs k = some p := by
  unfold andV at h
  split at h
  · cases h
  · rename_i l0 r
    split at h
    · rename_i hm
      obtain ⟨p, hp, rfl⟩ := List.mem_map.1 h
      refine ⟨by simp, hm, fun l hl => ?_⟩
      have := List.all_eq_true.1 (List.mem_filter.1 hp).2 l hl
      exact Option.isSome_iff_exists.1 this
    · cases h
theorem andV_length (ls : List (SlV PostV)) (h : ∀ l ∈ ls, l.xs.length ≤ 1000) : (andV ls).length ≤ 1000 := by
  unfold andV
  split
  · simp
  · rename_i l0 r
    split
    · rw [List.length_map]; exact Nat.le_trans (List.length_filter_le ..) (h l0 (by simp))
    · simp
theorem look_mem {l : List PostV} {k : Key} {p : PostV} (h : lookP l k = some p) : p ∈ l ∧ p.k = k :=
  ⟨List.mem_of_find?_eq_some h, by simpa using List.find?_some h⟩
/-- The places of a key, list by list. -/
def atsV (ls : List (SlV PostV)) (k : Key) : List (List Int) := (foundV ls k).map fun p => p.t.xs
theorem atsV_at {ls : List (SlV PostV)} {k : Key} (h : ∀ l ∈ ls, ∃ p, lookP l.xs k = some p) {i : Nat} {l : SlV PostV} {p : PostV} (hi : ls[i]? = some l) (hp : lookP l.xs k = some p) : (atsV ls k)[i]? = some p.t.xs := by
  induction ls generalizing i with
  | nil => simp at hi
  | cons x ls ih =>
    obtain ⟨q, hq⟩ := h x (by simp)
    unfold atsV foundV at *
    rw [List.filterMap_cons_some (f := fun l : SlV PostV => lookP l.xs k) hq]
    cases i with
    | zero =>
      simp only [List.getElem?_cons_zero, Option.some.injEq] at hi
      subst hi
      rw [hp] at hq; cases hq; rfl
    | succ i =>
      simp only [List.getElem?_cons_succ] at hi
      simp only [List.map_cons, List.getElem?_cons_succ]
      exact ih (fun l hl => h l (by simp [hl])) hi
theorem atsV_length {ls : List (SlV PostV)} {k : Key} (h : ∀ l ∈ ls, ∃ p, lookP l.xs k = some p) : (atsV ls k).length = ls.length := by
  unfold atsV
  rw [List.length_map]
  have := found_all k ls
  have h2 : hasAll ls k = true := List.all_eq_true.2 fun l hl => by obtain ⟨p, hp⟩ := h l hl; rw [hp]; rfl
  rw [h2] at this
  exact of_decide_eq_true this
/-- The keys that all lists have, where places follow one another. -/
def phraseV (ls : List (SlV PostV)) : List Key := (andV ls).filter fun k => followB (atsV ls k)
theorem followB_any {k : Key} {ls : List (SlV PostV)} {l0 : SlV PostV} {r : List (SlV PostV)} {p0 : PostV} (e : ls = l0 :: r) (hp : lookP l0.xs k = some p0) : followB (atsV ls k) = p0.t.xs.any fun a => stepsFrom a 0 (atsV ls k) := by
  subst e
  unfold atsV foundV
  rw [List.filterMap_cons_some (f := fun l : SlV PostV => lookP l.xs k) hp]
  rfl
end Go.Po
namespace Go.Proofs.Ytonilkceolbkmaa
open Go Go.Sl Go.Gv Go.Po
set_option maxRecDepth 100000
theorem ixP_get {ps : List PostV} {k : Key} {p : PostV} (h : lookP ps k = some p) : ps[ixP ps k]? = some p := by rw [ixP_look]; exact h
theorem phrase10_spec {S : HProp} {a : Option Addr} {c : Nat} {ls : List (SlV PostV)} (hS : LRd S a ls) (hl : ls.length ≤ 900) :
    Ct Try.prog 16 [.slice a ls.length c] [S] (fun v hs => ∃ a' c', v = .slice a' (phraseV ls).length c' ∧ hs = [S, sl 34 2 keyC a' c' (phraseV ls)]) := by
  have hal := andV_length ls fun l hl => (hS.2 l hl).2
  refine Ct.intro Try.func16 rfl (by kernel_rfl) 84 Try.ntmps16 (Nat.le_of_ble_eq_true rfl) fun w0 R => ?_
  refine Gs.slAddr (hS.1.h (by repeat constructor)) fun lb lo hla => ?_
  refine Gs.seq ?_
  refine Gs.reg ?_
  refine Go.Sl.L.pu rfl rfl trivial (pu_assign rfl) ?_
  refine Go.Sl.L.nil ?_
  refine Gs.then_n ?_
  refine Gs.seq ?_
  refine Gs.reg ?_
  refine Go.Sl.L.pu rfl rfl trivial (pu_move rfl) ?_
  refine Go.Sl.L.ac rfl rfl trivial (as_call (and10_spec hS hl) (by repeat constructor) (by repeat constructor)) ?_
  rintro _ _ ⟨_, ⟨na, nc, rfl, rfl⟩, rfl⟩
  refine Go.Sl.L.pu rfl rfl trivial (pu_assign rfl) ?_
  refine Go.Sl.L.nil ?_
  refine Gs.then_n ?_
  refine Gs.seq ?_
  refine Gs.reg ?_
  refine Go.Sl.L.pu rfl rfl trivial (pu_assign rfl) ?_
  refine Go.Sl.L.nil ?_
  refine Gs.slNil 34 2 keyC ?_
  refine Gs.slAddr (xs := andV ls) (SlH.own (E := 34) (enc := keyC) (by repeat constructor)) fun nb no hna => ?_
  refine Gs.then_n ?_
  refine Gs.seq ?_
  refine Gs.seq ?_
  refine Gs.reg ?_
  refine Go.Sl.L.pu rfl rfl trivial (pu_assign rfl) ?_
  refine Go.Sl.L.nil ?_
  refine Gs.then_n ?_
  refine Gs.block ?_
  refine Gs.loop1 (fun s : Nat × (Option Addr × Nat) × List Key => s.1 ≤ (andV ls).length ∧ s.2.2 = ((andV ls).take s.1).filter fun k => followB (atsV ls k)) (fun s => [(0, .slice a ls.length c), (3, .slice na (andV ls).length nc), (4, .slice s.2.1.1 s.2.2.length s.2.1.2), (5, int s.1)]) (fun s => [S, sl 34 2 keyC na nc (andV ls), sl 34 2 keyC s.2.1.1 s.2.1.2 s.2.2] ++ R) (fun s => (andV ls).length - s.1) (0, (none, 0), []) (⟨Nat.zero_le _, rfl⟩) (by repeat constructor) (by repeat constructor) (fun s hs => ?_)
  obtain ⟨i, ⟨ka, kc⟩, K⟩ := s
  obtain ⟨hi, hK⟩ := hs
  dsimp only at hi hK ⊢
  have hKl : K.length ≤ 1000 := by rw [hK]; refine Nat.le_trans (List.length_filter_le ..) ?_; rw [List.length_take]; omega
  refine Gs.seq ?_
  refine Gs.seq ?_
  refine Gs.reg ?_
  refine Go.Sl.L.pu rfl rfl trivial (pu_move rfl) ?_
  refine Go.Sl.L.pu rfl rfl trivial (pu_move rfl) ?_
  refine Go.Sl.L.pu rfl rfl trivial (pu_len Try.underlying25 rfl) ?_
  refine Go.Sl.L.pu rfl rfl trivial (pu_lt rfl rfl) ?_
  refine Go.Sl.L.nil ?_
  refine Gs.then_n ?_
  refine Gs.cond rfl (fun hc0 => ?_) (fun hc0 => ?_)
  · skip
    have hlt : i < (andV ls).length := by have := of_decide_eq_true hc0; omega
    obtain ⟨k, hk⟩ : ∃ x, (andV ls)[i]? = some x := ⟨(andV ls)[i], by simp [hlt]⟩
    obtain rfl := hna (by intro e; rw [e] at hk; simp at hk)
    obtain ⟨hne, hmay, hsome⟩ := andV_mem (List.mem_of_getElem? hk)
    obtain ⟨⟨la, lx, lc⟩, r, hlse⟩ := List.exists_cons_of_ne_nil hne
    obtain rfl := hla hne
    have hl00 : ls[0]? = some ⟨la, lx, lc⟩ := by rw [hlse]; rfl
    have hlpos : 0 < ls.length := by rw [hlse]; simp
    obtain ⟨⟨pk, ⟨pa, px, pc⟩⟩, hp0⟩ := hsome ⟨la, lx, lc⟩ (List.mem_of_getElem? hl00)
    dsimp only at hp0
    have hl0S : PRd S la lx ∧ lx.length ≤ 1000 := hS.2 ⟨la, lx, lc⟩ (List.mem_of_getElem? hl00)
    have hix0 := ixP_lt.2 (by rw [hp0]; rfl : (lookP lx k).isSome = true)
    have hpm0 := (look_mem hp0).1
    have hat0 : Srd S 1 intC pa px ∧ px.length ≤ 1000 := hl0S.1.2 _ hpm0
    have hany : followB (atsV ls k) = px.any fun a => stepsFrom a 0 (atsV ls k) := followB_any hlse hp0
    have hatl := atsV_length hsome
    refine Gs.slAddr (hl0S.1.1.h (by repeat constructor)) fun ab ao ha => Gs.slAddr (hat0.1.h (by repeat constructor)) fun xb xo hxa => ?_
    obtain rfl := ha (List.ne_nil_of_mem hpm0)
    refine Gs.skip ?_
    refine Gs.then_n ?_
    refine Gs.seq ?_
    refine Gs.block ?_
    refine Gs.seq ?_
    refine Gs.regD mixed (by kernel_rfl) ?_
    refine Rg.pu 0 rfl rfl (by kernel_rfl) trivial (pu_move rfl) ?_
    refine Rg.pu 1 rfl rfl (by kernel_rfl) trivial (pu_ia se_22 rfl rfl (by decide) (by omega)) ?_
    refine Rg.rd 2 rfl rfl (by kernel_rfl) trivial (rd_ld na_30 rfl (Rdc.el0 (i := 0) (enc := slC) (sz := 1) (hS.1.h (by repeat constructor)) hl00 rfl rfl)) ?_
    refine Rg.pu 3 rfl rfl (by kernel_rfl) trivial (pu_move rfl) ?_
    refine Rg.pu 4 rfl rfl (by kernel_rfl) trivial (pu_ia se_22 rfl rfl (by decide) (by omega)) ?_
    refine Rg.rd 5 rfl rfl (by kernel_rfl) trivial (rd_ld na_30 rfl (Rdc.el0 (i := 0) (enc := slC) (sz := 1) (hS.1.h (by repeat constructor)) hl00 rfl rfl)) ?_
    refine Rg.pu 6 rfl rfl (by kernel_rfl) trivial (pu_move rfl) ?_
    refine Rg.pu 7 rfl rfl (by kernel_rfl) trivial (pu_move rfl) ?_
    refine Rg.pu 8 rfl rfl (by kernel_rfl) trivial (pu_ia se_25 rfl rfl (by omega) (by omega)) ?_
    refine Rg.rd 9 rfl rfl (by kernel_rfl) trivial (rd_lda ag_34 rfl (Rdc.el0 (xs := andV ls) (enc := keyC) (sz := 2) (SlH.own (E := 34) (c := nc) (by repeat constructor)) hk rfl rfl) rfl) ?_
    refine Rg.one (by kernel_rfl) (Stp.acR 10 [2] rfl rfl (by kernel_rfl) trivial (as_call (find10_spec hl0S.1.1 hl0S.2 k) (by repeat constructor) (by repeat constructor)) (by rintro _ _ ⟨_, ⟨rfl, rfl⟩, rfl⟩; exact (Reads.cons rfl rfl rfl trivial rfl (rd_ld na_30 rfl (Rdc.el0 (i := 0) (enc := slC) (sz := 1) (hS.1.h (by repeat constructor)) hl00 rfl rfl)) Reads.nil)) ?_)
    rintro _ _ ⟨_, ⟨rfl, rfl⟩, rfl⟩
    rw [if_pos (by rw [hp0]; rfl)]
    refine Rg.pu 11 rfl rfl (by kernel_rfl) trivial (pu_ia se_30 rfl rfl (by omega) (by dsimp only; omega)) ?_
    refine Rg.pu 12 rfl rfl (by kernel_rfl) trivial (pu_fa fa_37_1 rfl) ?_
    refine Rg.rd 13 rfl rfl (by kernel_rfl) trivial (rd_ld na_35 rfl (Rdc.elp (f := 2) 1 (hl0S.1.1.h (by repeat constructor)) (ixP_get hp0) rfl rfl)) ?_
    refine Rg.pu 14 rfl rfl (by kernel_rfl) trivial (pu_assign rfl) ?_
    refine Rg.end (by kernel_rfl) ?_
    refine Gs.then_n ?_
    refine Gs.seq ?_
    refine Gs.reg ?_
    refine Go.Sl.L.pu rfl rfl trivial (pu_assign rfl) ?_
    refine Go.Sl.L.nil ?_
    refine Gs.then_n ?_
    refine Gs.seq ?_
    refine Gs.seq ?_
    refine Gs.reg ?_
    refine Go.Sl.L.pu rfl rfl trivial (pu_assign rfl) ?_
    refine Go.Sl.L.nil ?_
    refine Gs.then_n ?_
    refine Gs.block ?_
    refine Gs.loop1 (fun s : Nat × Bool => s.1 ≤ px.length ∧ s.2 = (px.take s.1).any (fun a => stepsFrom a 0 (atsV ls k))) (fun s => [(0, .slice (some ⟨lb, lo, none⟩) ls.length c), (3, .slice (some ⟨nb, no, none⟩) (andV ls).length nc), (4, .slice ka K.length kc), (5, int i), (6, .slice pa px.length pc), (7, .bool s.2), (8, int s.1)]) (fun s => [S, sl 34 2 keyC (some ⟨nb, no, none⟩) nc (andV ls), sl 34 2 keyC ka kc K] ++ R) (fun s => px.length - s.1) (0, false) (⟨Nat.zero_le _, rfl⟩) (by repeat constructor) (by repeat constructor) (fun s hs1 => ?_)
    obtain ⟨j, b⟩ := s
    obtain ⟨hj, hb⟩ := hs1
    dsimp only at hj hb ⊢
    refine Gs.seq ?_
    refine Gs.seq ?_
    refine Gs.reg ?_
    refine Go.Sl.L.pu rfl rfl trivial (pu_move rfl) ?_
    refine Go.Sl.L.pu rfl rfl trivial (pu_move rfl) ?_
    refine Go.Sl.L.pu rfl rfl trivial (pu_len Try.underlying35 rfl) ?_
    refine Go.Sl.L.pu rfl rfl trivial (pu_lt rfl rfl) ?_
    refine Go.Sl.L.nil ?_
    refine Gs.then_n ?_
    refine Gs.cond rfl (fun hc1 => ?_) (fun hc1 => ?_)
    · skip
      have hlt1 : j < px.length := by have := of_decide_eq_true hc1; omega
      obtain ⟨x, hx⟩ : ∃ x, px[j]? = some x := ⟨px[j], by simp [hlt1]⟩
      obtain rfl := hxa (by intro e; rw [e] at hx; simp at hx)
      have hstep1 : (px.take (j + 1)).any (fun a => stepsFrom a 0 (atsV ls k)) = (b || stepsFrom x 0 (atsV ls k)) := by rw [List.take_add_one, hx, List.any_append, ← hb]; simp
      refine Gs.skip ?_
      refine Gs.then_n ?_
      refine Gs.seq ?_
      refine Gs.block ?_
      refine Gs.seq ?_
      refine Gs.reg ?_
      refine Go.Sl.L.pu rfl rfl trivial (pu_assign rfl) ?_
      refine Go.Sl.L.nil ?_
      refine Gs.then_n ?_
      refine Gs.seq ?_
      refine Gs.seq ?_
      refine Gs.reg ?_
      refine Go.Sl.L.pu rfl rfl trivial (pu_assign rfl) ?_
      refine Go.Sl.L.nil ?_
      refine Gs.then_n ?_
      refine Gs.block ?_
      refine Gs.loop1 (fun s : Nat × Bool => s.1 ≤ ls.length ∧ s.2 = stepsFrom x 0 ((atsV ls k).take s.1)) (fun s => [(0, .slice (some ⟨lb, lo, none⟩) ls.length c), (3, .slice (some ⟨nb, no, none⟩) (andV ls).length nc), (4, .slice ka K.length kc), (5, int i), (6, .slice (some ⟨xb, xo, none⟩) px.length pc), (7, .bool b), (8, int j), (9, .bool s.2), (10, int s.1)]) (fun s => [S, sl 34 2 keyC (some ⟨nb, no, none⟩) nc (andV ls), sl 34 2 keyC ka kc K] ++ R) (fun s => ls.length - s.1) (0, true) (⟨Nat.zero_le _, rfl⟩) (by repeat constructor) (by repeat constructor) (fun s hs2 => ?_)
      obtain ⟨m, d⟩ := s
      obtain ⟨hm, hd⟩ := hs2
      dsimp only at hm hd ⊢
      refine Gs.seq ?_
      refine Gs.seq ?_
      refine Gs.reg ?_
      refine Go.Sl.L.pu rfl rfl trivial (pu_move rfl) ?_
      refine Go.Sl.L.pu rfl rfl trivial (pu_move rfl) ?_
      refine Go.Sl.L.pu rfl rfl trivial (pu_len Try.underlying22 rfl) ?_
      refine Go.Sl.L.pu rfl rfl trivial (pu_lt rfl rfl) ?_
      refine Go.Sl.L.nil ?_
      refine Gs.then_n ?_
      refine Gs.cond rfl (fun hc2 => ?_) (fun hc2 => ?_)
      · skip
        have hlt2 : m < ls.length := by have := of_decide_eq_true hc2; omega
        obtain ⟨⟨ya, yx, yc⟩, hy⟩ : ∃ x, ls[m]? = some x := ⟨ls[m], by simp [hlt2]⟩
        obtain ⟨q, hq⟩ := hsome _ (List.mem_of_getElem? hy)
        dsimp only at hq
        have hyS : PRd S ya yx ∧ yx.length ≤ 1000 := hS.2 _ (List.mem_of_getElem? hy)
        have hixy := ixP_lt.2 (by rw [hq]; rfl : (lookP yx k).isSome = true)
        have hqm := (look_mem hq).1
        have hatq := hyS.1.2 q hqm
        have hst2 := steps_take (a := x) (atsV_at hsome hy hq)
        rw [← hd] at hst2
        refine Gs.slAddr (hyS.1.1.h (by repeat constructor)) fun yb yo hya => ?_
        obtain rfl := hya (List.ne_nil_of_mem hqm)
        refine Gs.skip ?_
        refine Gs.then_n ?_
        refine Gs.seq ?_
        refine Gs.block ?_
        refine Gs.regD mixed (by kernel_rfl) ?_
        refine Rg.pu 0 rfl rfl (by kernel_rfl) trivial (pu_move rfl) ?_
        refine Rg.puB 1 rfl rfl (by kernel_rfl) trivial (pu_move rfl) (fun hg1 => ?_) (fun hg1 => ?_)
        · skip
          have hsb : decide (IntKind.i64.wrap (x + (m : Int)) ∈ q.t.xs) = stepsFrom x 0 ((atsV ls k).take (m + 1)) := by rw [hst2, hg1]; rfl
          refine Rg.pu 2 rfl rfl (by kernel_rfl) ⟨_, rfl, rfl⟩ (pu_move rfl) ?_
          refine Rg.pu 3 rfl rfl (by kernel_rfl) ⟨_, rfl, rfl⟩ (pu_move rfl) ?_
          refine Rg.pu 4 rfl rfl (by kernel_rfl) ⟨_, rfl, rfl⟩ (pu_ia se_22 rfl rfl (by omega) (by omega)) ?_
          refine Rg.rd 5 rfl rfl (by kernel_rfl) ⟨_, rfl, rfl⟩ (rd_ld na_30 rfl (Rdc.el0 (enc := slC) (sz := 1) (hS.1.h (by repeat constructor)) hy rfl rfl)) ?_
          refine Rg.pu 6 rfl rfl (by kernel_rfl) ⟨_, rfl, rfl⟩ (pu_move rfl) ?_
          refine Rg.pu 7 rfl rfl (by kernel_rfl) ⟨_, rfl, rfl⟩ (pu_move rfl) ?_
          refine Rg.pu 8 rfl rfl (by kernel_rfl) ⟨_, rfl, rfl⟩ (pu_ia se_22 rfl rfl (by omega) (by omega)) ?_
          refine Rg.rd 9 rfl rfl (by kernel_rfl) ⟨_, rfl, rfl⟩ (rd_ld na_30 rfl (Rdc.el0 (enc := slC) (sz := 1) (hS.1.h (by repeat constructor)) hy rfl rfl)) ?_
          refine Rg.pu 10 rfl rfl (by kernel_rfl) ⟨_, rfl, rfl⟩ (pu_move rfl) ?_
          refine Rg.pu 11 rfl rfl (by kernel_rfl) ⟨_, rfl, rfl⟩ (pu_move rfl) ?_
          refine Rg.pu 12 rfl rfl (by kernel_rfl) ⟨_, rfl, rfl⟩ (pu_ia se_25 rfl rfl (by omega) (by omega)) ?_
          refine Rg.rd 13 rfl rfl (by kernel_rfl) ⟨_, rfl, rfl⟩ (rd_lda ag_34 rfl (Rdc.el0 (xs := andV ls) (enc := keyC) (sz := 2) (SlH.own (E := 34) (c := nc) (by repeat constructor)) hk rfl rfl) rfl) ?_
          refine Rg.pu 18 rfl rfl (by kernel_rfl) ⟨_, rfl, rfl⟩ (pu_move rfl) ?_
          refine Rg.pu 19 rfl rfl (by kernel_rfl) ⟨_, rfl, rfl⟩ (pu_move rfl) ?_
          refine Rg.pu 20 rfl rfl (by kernel_rfl) ⟨_, rfl, rfl⟩ (pu_ia se_35 rfl rfl (by omega) (by omega)) ?_
          refine Rg.rd 21 rfl rfl (by kernel_rfl) ⟨_, rfl, rfl⟩ (rd_ld na_3 rfl (Rdc.el0 (hat0.1.h (by repeat constructor)) hx rfl rfl)) ?_
          refine Rg.pu 22 rfl rfl (by kernel_rfl) ⟨_, rfl, rfl⟩ (pu_move rfl) ?_
          refine Rg.pu 23 rfl rfl (by kernel_rfl) ⟨_, rfl, rfl⟩ (pu_add rfl rfl) ?_
          refine Rg.one (by kernel_rfl) (Stp.acR 14 [5, 21] rfl rfl (by kernel_rfl) ⟨_, rfl, rfl⟩ (as_call (find10_spec hyS.1.1 hyS.2 k) (by repeat constructor) (by repeat constructor)) (by rintro _ _ ⟨_, ⟨rfl, rfl⟩, rfl⟩; exact (Reads.cons rfl rfl rfl ⟨_, rfl, rfl⟩ rfl (rd_ld na_30 rfl (Rdc.el0 (enc := slC) (sz := 1) (hS.1.h (by repeat constructor)) hy rfl rfl)) (Reads.cons rfl rfl rfl ⟨_, rfl, rfl⟩ rfl (rd_ld na_3 rfl (Rdc.el0 (hat0.1.h (by repeat constructor)) hx rfl rfl)) Reads.nil))) ?_)
          rintro _ _ ⟨_, ⟨rfl, rfl⟩, rfl⟩
          rw [if_pos (by rw [hq]; rfl)]
          refine Rg.pu 15 rfl rfl (by kernel_rfl) ⟨_, rfl, rfl⟩ (pu_ia se_30 rfl rfl (by omega) (by dsimp only; omega)) ?_
          refine Rg.pu 16 rfl rfl (by kernel_rfl) ⟨_, rfl, rfl⟩ (pu_fa fa_37_1 rfl) ?_
          refine Rg.rd 17 rfl rfl (by kernel_rfl) ⟨_, rfl, rfl⟩ (rd_ld na_35 rfl (Rdc.elp (f := 2) 1 (hyS.1.1.h (by repeat constructor)) (ixP_get hq) rfl rfl)) ?_
          refine Rg.one (by kernel_rfl) (Stp.ac 24 rfl rfl (by kernel_rfl) ⟨_, rfl, rfl⟩ (as_call (at10_spec hatq.1 hatq.2 (IntKind.i64.wrap (x + (m : Int)))) (by repeat constructor) (by repeat constructor))  ?_)
          rintro _ _ ⟨_, ⟨rfl, rfl⟩, rfl⟩
          refine Rg.pu 25 rfl rfl (by kernel_rfl) trivial (by first | exact pu_pick_t rfl rfl | exact pu_pick_f rfl rfl) ?_
          refine Rg.one (by kernel_rfl) (Stp.ac 26 rfl rfl (by kernel_rfl) trivial (Pu.ac (pu_assign rfl))  ?_)
          rintro _ _ ⟨rfl, rfl⟩
          refine Rg.end (by kernel_rfl) ?_
          refine Gs.blk_n ?_
          refine Gs.then_n ?_
          refine Gs.reg ?_
          refine Go.Sl.L.pu rfl rfl trivial (pu_move rfl) ?_
          refine Go.Sl.L.pu rfl rfl trivial (by first | exact pu_addI rfl rfl rfl (by omega) (by omega) | exact pu_add rfl rfl) ?_
          refine Go.Sl.L.pu rfl rfl trivial (pu_assign rfl) ?_
          refine Go.Sl.L.nil ?_
          refine Gs.then_n ?_
          first | exact Gs.again1 (m + 1, decide (IntKind.i64.wrap (x + (m : Int)) ∈ q.t.xs)) ⟨by show m + 1 ≤ ls.length; omega, hsb⟩ (by show ls.length - (m + 1) < ls.length - m; omega) (by repeat constructor) (by repeat constructor) | exact Gs.again1 (m + 1, false) ⟨by show m + 1 ≤ ls.length; omega, hsb⟩ (by show ls.length - (m + 1) < ls.length - m; omega) (by repeat constructor) (by repeat constructor)
        · skip
          have hsb : false = stepsFrom x 0 ((atsV ls k).take (m + 1)) := by rw [hst2, hg1]; rfl
          refine Rg.off 2 rfl rfl (by kernel_rfl) rfl rfl rfl rfl ?_
          refine Rg.off 3 rfl rfl (by kernel_rfl) rfl rfl rfl rfl ?_
          refine Rg.off 4 rfl rfl (by kernel_rfl) rfl rfl rfl rfl ?_
          refine Rg.off 5 rfl rfl (by kernel_rfl) rfl rfl rfl rfl ?_
          refine Rg.off 6 rfl rfl (by kernel_rfl) rfl rfl rfl rfl ?_
          refine Rg.off 7 rfl rfl (by kernel_rfl) rfl rfl rfl rfl ?_
          refine Rg.off 8 rfl rfl (by kernel_rfl) rfl rfl rfl rfl ?_
          refine Rg.off 9 rfl rfl (by kernel_rfl) rfl rfl rfl rfl ?_
          refine Rg.off 10 rfl rfl (by kernel_rfl) rfl rfl rfl rfl ?_
          refine Rg.off 11 rfl rfl (by kernel_rfl) rfl rfl rfl rfl ?_
          refine Rg.off 12 rfl rfl (by kernel_rfl) rfl rfl rfl rfl ?_
          refine Rg.off 13 rfl rfl (by kernel_rfl) rfl rfl rfl rfl ?_
          refine Rg.off 14 rfl rfl (by kernel_rfl) rfl rfl rfl rfl ?_
          refine Rg.off 15 rfl rfl (by kernel_rfl) rfl rfl rfl rfl ?_
          refine Rg.off 16 rfl rfl (by kernel_rfl) rfl rfl rfl rfl ?_
          refine Rg.off 17 rfl rfl (by kernel_rfl) rfl rfl rfl rfl ?_
          refine Rg.off 18 rfl rfl (by kernel_rfl) rfl rfl rfl rfl ?_
          refine Rg.off 19 rfl rfl (by kernel_rfl) rfl rfl rfl rfl ?_
          refine Rg.off 20 rfl rfl (by kernel_rfl) rfl rfl rfl rfl ?_
          refine Rg.off 21 rfl rfl (by kernel_rfl) rfl rfl rfl rfl ?_
          refine Rg.off 22 rfl rfl (by kernel_rfl) rfl rfl rfl rfl ?_
          refine Rg.off 23 rfl rfl (by kernel_rfl) rfl rfl rfl rfl ?_
          refine Rg.off 24 rfl rfl (by kernel_rfl) rfl rfl rfl rfl ?_
          refine Rg.pu 25 rfl rfl (by kernel_rfl) trivial (by first | exact pu_pick_t rfl rfl | exact pu_pick_f rfl rfl) ?_
          refine Rg.one (by kernel_rfl) (Stp.ac 26 rfl rfl (by kernel_rfl) trivial (Pu.ac (pu_assign rfl))  ?_)
          rintro _ _ ⟨rfl, rfl⟩
          refine Rg.end (by kernel_rfl) ?_
          refine Gs.blk_n ?_
          refine Gs.then_n ?_
          refine Gs.reg ?_
          refine Go.Sl.L.pu rfl rfl trivial (pu_move rfl) ?_
          refine Go.Sl.L.pu rfl rfl trivial (by first | exact pu_addI rfl rfl rfl (by omega) (by omega) | exact pu_add rfl rfl) ?_
          refine Go.Sl.L.pu rfl rfl trivial (pu_assign rfl) ?_
          refine Go.Sl.L.nil ?_
          refine Gs.then_n ?_
          first | exact Gs.again1 (m + 1, decide (IntKind.i64.wrap (x + (m : Int)) ∈ q.t.xs)) ⟨by show m + 1 ≤ ls.length; omega, hsb⟩ (by show ls.length - (m + 1) < ls.length - m; omega) (by repeat constructor) (by repeat constructor) | exact Gs.again1 (m + 1, false) ⟨by show m + 1 ≤ ls.length; omega, hsb⟩ (by show ls.length - (m + 1) < ls.length - m; omega) (by repeat constructor) (by repeat constructor)
      · skip
        have hge2 : m = ls.length := by have := of_decide_eq_false hc2; omega
        rw [hge2, List.take_of_length_le (by rw [hatl]; exact Nat.le_refl _)] at hd
        rw [← hd] at hstep1
        refine Gs.exit ?_
        refine Gs.then_x ?_
        refine Gs.then_x ?_
        refine Gs.blk_hit ?_
        refine Gs.then_n ?_
        refine Gs.reg ?_
        refine Go.Sl.L.pu rfl rfl trivial (pu_move rfl) ?_
        refine Go.Sl.L.puB rfl rfl trivial (pu_move rfl) (fun hg1 => ?_) (fun hg1 => ?_)
        · skip
          have hsb1 : true = (px.take (j + 1)).any (fun a => stepsFrom a 0 (atsV ls k)) := by rw [hstep1, hg1]; rfl
          refine Go.Sl.L.off rfl rfl rfl rfl rfl rfl ?_
          refine Go.Sl.L.pu rfl rfl trivial (by first | exact pu_pick_t rfl rfl | exact pu_pick_f rfl rfl) ?_
          refine Go.Sl.L.pu rfl rfl trivial (pu_assign rfl) ?_
          refine Go.Sl.L.nil ?_
          refine Gs.blk_n ?_
          refine Gs.then_n ?_
          refine Gs.reg ?_
          refine Go.Sl.L.pu rfl rfl trivial (pu_move rfl) ?_
          refine Go.Sl.L.pu rfl rfl trivial (by first | exact pu_addI rfl rfl rfl (by omega) (by omega) | exact pu_add rfl rfl) ?_
          refine Go.Sl.L.pu rfl rfl trivial (pu_assign rfl) ?_
          refine Go.Sl.L.nil ?_
          refine Gs.then_n ?_
          first | exact Gs.again1 (j + 1, true) ⟨by show j + 1 ≤ px.length; omega, hsb1⟩ (by show px.length - (j + 1) < px.length - j; omega) (by repeat constructor) (by repeat constructor) | exact Gs.again1 (j + 1, d) ⟨by show j + 1 ≤ px.length; omega, hsb1⟩ (by show px.length - (j + 1) < px.length - j; omega) (by repeat constructor) (by repeat constructor)
        · skip
          have hsb1 : d = (px.take (j + 1)).any (fun a => stepsFrom a 0 (atsV ls k)) := by rw [hstep1, hg1]; rfl
          refine Go.Sl.L.pu rfl rfl ⟨_, rfl, rfl⟩ (pu_move rfl) ?_
          refine Go.Sl.L.pu rfl rfl trivial (by first | exact pu_pick_t rfl rfl | exact pu_pick_f rfl rfl) ?_
          refine Go.Sl.L.pu rfl rfl trivial (pu_assign rfl) ?_
          refine Go.Sl.L.nil ?_
          refine Gs.blk_n ?_
          refine Gs.then_n ?_
          refine Gs.reg ?_
          refine Go.Sl.L.pu rfl rfl trivial (pu_move rfl) ?_
          refine Go.Sl.L.pu rfl rfl trivial (by first | exact pu_addI rfl rfl rfl (by omega) (by omega) | exact pu_add rfl rfl) ?_
          refine Go.Sl.L.pu rfl rfl trivial (pu_assign rfl) ?_
          refine Go.Sl.L.nil ?_
          refine Gs.then_n ?_
          first | exact Gs.again1 (j + 1, true) ⟨by show j + 1 ≤ px.length; omega, hsb1⟩ (by show px.length - (j + 1) < px.length - j; omega) (by repeat constructor) (by repeat constructor) | exact Gs.again1 (j + 1, d) ⟨by show j + 1 ≤ px.length; omega, hsb1⟩ (by show px.length - (j + 1) < px.length - j; omega) (by repeat constructor) (by repeat constructor)
    · skip
      have hge1 : j = px.length := by have := of_decide_eq_false hc1; omega
      rw [hge1, List.take_length, ← hany] at hb
      refine Gs.exit ?_
      refine Gs.then_x ?_
      refine Gs.then_x ?_
      refine Gs.blk_hit ?_
      refine Gs.then_n ?_
      refine Gs.seq ?_
      refine Gs.reg ?_
      refine Go.Sl.L.pu rfl rfl trivial (pu_move rfl) ?_
      refine Go.Sl.L.nil ?_
      refine Gs.then_n ?_
      refine Gs.cond rfl (fun hc3 => ?_) (fun hc3 => ?_)
      · skip
        have hup : ((andV ls).take (i + 1)).filter (fun k => followB (atsV ls k)) = K ++ [k] := by rw [List.take_add_one, hk, List.filter_append, ← hK]; simp [← hb, hc3]
        refine Gs.reg ?_
        refine Go.Sl.L.pu rfl rfl trivial (pu_move rfl) ?_
        refine Go.Sl.L.pu rfl rfl trivial (pu_move rfl) ?_
        refine Go.Sl.L.pu rfl rfl trivial (pu_move rfl) ?_
        refine Go.Sl.L.pu rfl rfl trivial (pu_ia se_25 rfl rfl (by omega) (by omega)) ?_
        refine Go.Sl.L.rd rfl rfl trivial (rd_lda ag_34 rfl (Rdc.el0 (xs := andV ls) (enc := keyC) (sz := 2) (SlH.own (E := 34) (c := nc) (by repeat constructor)) hk rfl rfl) rfl) ?_
        refine Go.Sl.L.ac rfl rfl trivial (ac_lit encC_34 ([k]) et_25 ek_34 rfl (by repeat constructor) rfl rfl (by decide)) ?_
        rintro _ _ ⟨a81, rfl, rfl⟩
        refine Go.Sl.L.ac rfl rfl trivial (ac_append (xs := K) (ys := [k]) et_25 ek_34 rfl rfl (by repeat constructor) (SrcH.sl Try.underlying25 ek_34 (SlH.own (by repeat constructor))) (by first | omega | (simp; omega)) (by first | omega | (simp; omega))) ?_
        rintro _ _ ⟨a82, c82, rfl, rfl⟩
        refine Go.Sl.L.pu rfl rfl trivial (pu_assign rfl) ?_
        refine Go.Sl.L.nil ?_
        refine Gs.blk_n ?_
        refine Gs.then_n ?_
        refine Gs.reg ?_
        refine Go.Sl.L.pu rfl rfl trivial (pu_move rfl) ?_
        refine Go.Sl.L.pu rfl rfl trivial (by first | exact pu_addI rfl rfl rfl (by omega) (by omega) | exact pu_add rfl rfl) ?_
        refine Go.Sl.L.pu rfl rfl trivial (pu_assign rfl) ?_
        refine Go.Sl.L.nil ?_
        refine Gs.then_n ?_
        first | exact Gs.again1 (i + 1, (a82, c82), K ++ [k]) ⟨by show i + 1 ≤ (andV ls).length; omega, hup.symm⟩ (by show (andV ls).length - (i + 1) < (andV ls).length - i; omega) (by repeat constructor) (by repeat constructor) | exact Gs.again1 (i + 1, (ka, kc), K) ⟨by show i + 1 ≤ (andV ls).length; omega, hup.symm⟩ (by show (andV ls).length - (i + 1) < (andV ls).length - i; omega) (by repeat constructor) (by repeat constructor)
      · skip
        have hup : ((andV ls).take (i + 1)).filter (fun k => followB (atsV ls k)) = K := by rw [List.take_add_one, hk, List.filter_append, ← hK]; simp [← hb, hc3]
        refine Gs.skip ?_
        refine Gs.blk_n ?_
        refine Gs.then_n ?_
        refine Gs.reg ?_
        refine Go.Sl.L.pu rfl rfl trivial (pu_move rfl) ?_
        refine Go.Sl.L.pu rfl rfl trivial (by first | exact pu_addI rfl rfl rfl (by omega) (by omega) | exact pu_add rfl rfl) ?_
        refine Go.Sl.L.pu rfl rfl trivial (pu_assign rfl) ?_
        refine Go.Sl.L.nil ?_
        refine Gs.then_n ?_
        first | exact Gs.again1 (i + 1, (a82, c82), K ++ [k]) ⟨by show i + 1 ≤ (andV ls).length; omega, hup.symm⟩ (by show (andV ls).length - (i + 1) < (andV ls).length - i; omega) (by repeat constructor) (by repeat constructor) | exact Gs.again1 (i + 1, (ka, kc), K) ⟨by show i + 1 ≤ (andV ls).length; omega, hup.symm⟩ (by show (andV ls).length - (i + 1) < (andV ls).length - i; omega) (by repeat constructor) (by repeat constructor)
  · skip
    have hge : i = (andV ls).length := by have := of_decide_eq_false hc0; omega
    have hfin : K = phraseV ls := by rw [hK, hge, List.take_length]; rfl
    refine Gs.exit ?_
    refine Gs.then_x ?_
    refine Gs.then_x ?_
    refine Gs.blk_hit ?_
    refine Gs.then_n ?_
    refine Gs.seq ?_
    rw [hfin]
    refine Gs.reg ?_
    refine Go.Sl.L.pu rfl rfl trivial (pu_move rfl) ?_
    refine Go.Sl.L.pu rfl rfl trivial (pu_assign rfl) ?_
    refine Go.Sl.L.nil ?_
    refine Gs.then_n ?_
    refine Gs.ret ?_
    exact Gs.fin1 Try.results16 rfl _ (⟨ka, kc, rfl, rfl⟩) (by repeat constructor)
end Go.Proofs.Ytonilkceolbkmaa
