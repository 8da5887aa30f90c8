/- Walks: own (post). -/
import Derived.Test.YtonilkceolbkmaaPoP
import Derived.Test.YtonilkceolbkmaaBigs
namespace Go.Proofs.Ytonilkceolbkmaa
open Go Go.Sl Go.Gv Go.Po
set_option maxRecDepth 100000
/-- A post's places, owned. -/
def atO (p : PostV) : HProp := sl 3 1 intC p.t.a p.t.c p.t.xs
/-- A list of posts, owned, its places too. -/
def plO (a : Option Addr) (c : Nat) (ps : List PostV) : HProp := two (sl 37 3 postC a c ps) (big (ps.map atO))
theorem prd_plO {a : Option Addr} {c : Nat} {ps : List PostV} (h : ∀ p ∈ ps, p.t.xs.length ≤ 1000) : PRd (plO a c ps) a ps :=
  ⟨Srd.two1 Srd.own, fun p hp => ⟨Srd.two2 (Srd.bigs (A := atO p) Srd.own (List.mem_map.2 ⟨p, hp, rfl⟩)), h p hp⟩⟩
theorem own_spec {S : HProp} {a : Option Addr} {c : Nat} {ps : List PostV} (hS : PRd S a ps) (hl : ps.length ≤ 1000) :
    Ct Try.prog 45 [.slice a ps.length c] [S] (fun v hs => ∃ a' c' qs, v = .slice a' qs.length c' ∧ plain1 qs = plain1 ps ∧ hs = [S, plO a' c' qs]) := by
  refine Ct.intro Try.func45 rfl (by kernel_rfl) 23 Try.ntmps45 (Nat.le_of_ble_eq_true rfl) fun w0 R => ?_
  refine Gs.seq ?_
  refine Gs.reg ?_
  refine Go.Sl.L.pu rfl rfl trivial (pu_assign rfl) ?_
  refine Go.Sl.L.nil ?_
  refine Gs.then_n ?_
  refine Gs.seq ?_
  refine Gs.reg ?_
  refine Go.Sl.L.pu rfl rfl trivial (pu_move rfl) ?_
  refine Go.Sl.L.ac rfl rfl trivial (as_call (cloneP_spec hS.1 (by omega)) (by repeat constructor) (by repeat constructor)) ?_
  rintro _ _ ⟨_, ⟨na, nc, rfl, rfl⟩, rfl⟩
  refine Go.Sl.L.pu rfl rfl trivial (pu_assign rfl) ?_
  refine Go.Sl.L.nil ?_
  refine Gs.then_n ?_
  refine Gs.seq ?_
  refine Gs.seq ?_
  refine Gs.reg ?_
  refine Go.Sl.L.pu rfl rfl trivial (pu_move rfl) ?_
  refine Go.Sl.L.pu rfl rfl trivial (pu_len Try.underlying30 rfl) ?_
  refine Go.Sl.L.pu rfl rfl trivial (pu_move rfl) ?_
  refine Go.Sl.L.nil ?_
  refine Gs.bigNil ?_
  refine Gs.slAddr (xs := ps) (SlH.own (E := 37) (enc := postC) (by repeat constructor)) fun ab ao ha => ?_
  refine Gs.then_n ?_
  refine Gs.block ?_
  refine Gs.loop1 (fun s : Nat × List PostV => s.1 ≤ ps.length ∧ plain1 s.2 = plain1 ps ∧ s.2.drop s.1 = ps.drop s.1) (fun s => [(0, .slice na ps.length nc), (7, int ps.length), (8, int s.1)]) (fun s => [S, sl 37 3 postC na nc s.2, big ((s.2.take s.1).map atO)] ++ R) (fun s => ps.length - s.1) (0, ps) (⟨Nat.zero_le _, rfl, rfl⟩) (by repeat constructor) (by repeat constructor) (fun s hs => ?_)
  obtain ⟨i, qs⟩ := s
  obtain ⟨hi, hq, hd⟩ := hs
  dsimp only at hi hq hd ⊢
  have hql : qs.length = ps.length := by have := congrArg List.length hq; simpa using this
  refine Gs.seq ?_
  refine Gs.reg ?_
  refine Go.Sl.L.pu rfl rfl trivial (pu_lt rfl rfl) ?_
  refine Go.Sl.L.nil ?_
  refine Gs.then_n ?_
  refine Gs.seq ?_
  refine Gs.cond rfl (fun hc0 => ?_) (fun hc0 => ?_)
  · skip
    have hlt : i < ps.length := by have := of_decide_eq_true hc0; omega
    obtain ⟨p, hp⟩ : ∃ x, ps[i]? = some x := ⟨ps[i], by simp [hlt]⟩
    obtain rfl := ha (by rintro rfl; simp at hlt)
    have hpq : qs[i]? = some p := by
      have := congrArg (·[0]?) hd
      simpa [List.getElem?_drop, hp] using this
    obtain ⟨hat, hatl⟩ := hS.2 p (List.mem_of_getElem? hp)
    refine Gs.skip ?_
    refine Gs.then_n ?_
    refine Gs.seq ?_
    refine Gs.block ?_
    refine Gs.seq ?_
    refine Gs.reg ?_
    refine Go.Sl.L.pu rfl rfl trivial (pu_move rfl) ?_
    refine Go.Sl.L.pu rfl rfl trivial (pu_assign rfl) ?_
    refine Go.Sl.L.nil ?_
    refine Gs.then_n ?_
    refine Gs.reg ?_
    refine Go.Sl.L.pu rfl rfl trivial (pu_move rfl) ?_
    refine Go.Sl.L.pu rfl rfl trivial (pu_move rfl) ?_
    refine Go.Sl.L.pu rfl rfl trivial (pu_move rfl) ?_
    refine Go.Sl.L.pu rfl rfl trivial (pu_move rfl) ?_
    refine Go.Sl.L.pu rfl rfl trivial (pu_ia se_30 rfl rfl (by omega) (by omega)) ?_
    refine Go.Sl.L.pu rfl rfl trivial (pu_fa fa_37_1 rfl) ?_
    refine Go.Sl.L.rd rfl rfl trivial (rd_ld na_35 rfl (Rdc.elp 1 (SlH.own (xs := qs) (E := 37) (enc := postC) (sz := 3) (by repeat constructor)) hpq rfl rfl)) ?_
    refine Go.Sl.L.ac rfl rfl trivial (as_call (cloneI_spec hat (by omega)) (by repeat constructor) (by repeat constructor)) ?_
    rintro _ _ ⟨_, ⟨ka, kc, rfl, rfl⟩, rfl⟩
    refine Go.Sl.L.pu rfl rfl trivial (pu_ia se_30 rfl rfl (by omega) (by omega)) ?_
    refine Go.Sl.L.pu rfl rfl trivial (pu_fa fa_37_1 rfl) ?_
    refine Go.Sl.L.ac0 rfl trivial (ac_stE (enc := postC) (xs := qs) (i := i) (x0 := p) (y0 := ⟨p.k, ⟨ka, p.t.xs, kc⟩⟩) (vs := [.slice ka p.t.xs.length kc]) (fo := 2) sz_35 ek_37 rfl rfl (by repeat constructor) rfl rfl rfl hpq rfl rfl) ?_
    rintro _ _ rfl
    refine Go.Sl.L.nil ?_
    have hset : ((qs.set i ⟨p.k, ⟨ka, p.t.xs, kc⟩⟩).take (i + 1)).map atO = (qs.take i).map atO ++ [atO ⟨p.k, ⟨ka, p.t.xs, kc⟩⟩] := by
      rw [List.take_add_one, List.getElem?_set_self (by omega), List.take_set_of_le (Nat.le_refl _), List.map_append]; rfl
    refine Gs.takes (As := [atO ⟨p.k, ⟨ka, p.t.xs, kc⟩⟩, big ((qs.take i).map atO)]) (by repeat constructor) (Gs.bigBack take_snoc ?_)
    rw [← hset]
    have k1 : plain1 (qs.set i ⟨p.k, ⟨ka, p.t.xs, kc⟩⟩) = plain1 ps := by
      rw [← hq]
      show (qs.set i _).map PostV.p = qs.map PostV.p
      rw [List.map_set]
      refine List.ext_getElem? fun j => ?_
      by_cases hj : i = j
      · subst hj; rw [List.getElem?_set_self (by simp; omega), List.getElem?_map, hpq]; rfl
      · rw [List.getElem?_set_ne hj]
    have k2 : (qs.set i ⟨p.k, ⟨ka, p.t.xs, kc⟩⟩).drop (i + 1) = ps.drop (i + 1) := by rw [List.drop_set_of_lt (by omega), ← List.drop_drop, hd, List.drop_drop]
    refine Gs.blk_n ?_
    refine Gs.then_n ?_
    refine Gs.reg ?_
    refine Go.Sl.L.pu rfl rfl trivial (by first | exact pu_addI rfl rfl rfl (by omega) (by omega) | exact pu_add rfl rfl) ?_
    refine Go.Sl.L.pu rfl rfl trivial (pu_move rfl) ?_
    refine Go.Sl.L.nil ?_
    refine Gs.then_n ?_
    exact Gs.again1 (i + 1, qs.set i ⟨p.k, ⟨ka, p.t.xs, kc⟩⟩) ⟨hlt, k1, k2⟩ (by show ps.length - (i + 1) < ps.length - i; omega) (by repeat constructor) (by repeat constructor)
  · skip
    have hge : i = ps.length := by have := of_decide_eq_false hc0; omega
    rw [List.take_of_length_le (by omega)]
    refine Gs.exit ?_
    refine Gs.then_x ?_
    refine Gs.then_x ?_
    refine Gs.blk_hit ?_
    refine Gs.then_n ?_
    refine Gs.seq ?_
    refine Gs.reg ?_
    refine Go.Sl.L.pu rfl rfl trivial (pu_move rfl) ?_
    refine Go.Sl.L.pu rfl rfl trivial (pu_assign rfl) ?_
    refine Go.Sl.L.nil ?_
    refine Gs.then_n ?_
    refine Gs.ret ?_
    refine Gs.takes (As := [sl 37 3 postC na nc qs, big (qs.map atO)]) (by repeat constructor) (Gs.toTwo ?_)
    exact Gs.fin1 Try.results45 rfl _ (⟨na, nc, qs, by rw [hql], hq, rfl⟩) (by repeat constructor)
end Go.Proofs.Ytonilkceolbkmaa
