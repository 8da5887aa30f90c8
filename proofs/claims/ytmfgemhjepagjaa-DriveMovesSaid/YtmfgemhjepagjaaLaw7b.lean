/- Walks: grapevinelaw7.DriveStays. -/
import Derived.Test.YtmfgemhjepagjaaLaw7
namespace Go.Proofs.Ytmfgemhjepagjaa
open Go Go.Sl Go.Gv Go.Kv Go.Dv Go.Bst
set_option maxRecDepth 100000
section one
variable (f : Fl)
theorem look1 : lookF [f] f.n = some f := by simp [lookF]
theorem used1 : used [f] = f.b.length := by simp [used]
theorem crash1 (st : Int) : crashL st [f] = [crashF st f] := by
  unfold crashL
  rw [show names [f] = [f.n] from rfl, sort_one, crashN_cons (look1 f)]
  simp [crashN, upd]
end one
theorem app0 {most : Int} {n : ByteArray} {bs : List UInt8} (h : namedB n = true) (h2 : (bs.length : Int) ≤ most) : appE most [] n bs = 0 ∧ appL most [] n bs = [⟨n, bs, 0⟩] := by
  have e : appE most [] n bs = 0 := by simp only [appE, h, if_true]; rw [if_neg (by simp [used]; omega)]
  exact ⟨e, by simp [appL, e, appD, lookF]⟩
theorem app1 {most : Int} {n : ByteArray} {bs cs : List UInt8} {s : Nat} (h : namedB n = true) (h2 : (bs.length : Int) + cs.length ≤ most) : appE most [⟨n, bs, s⟩] n cs = 0 ∧ appL most [⟨n, bs, s⟩] n cs = [⟨n, bs ++ cs, s⟩] := by
  have e : appE most [⟨n, bs, s⟩] n cs = 0 := by simp only [appE, h, if_true]; rw [if_neg (by simp [used]; omega)]
  exact ⟨e, by simp [appL, e, appD, lookF, upd]⟩
theorem sync1 (n : ByteArray) (bs : List UInt8) (s : Nat) : syncE [⟨n, bs, s⟩] [n] = 0 ∧ syncL [⟨n, bs, s⟩] [n] = [⟨n, bs, bs.length⟩] := by
  simp [syncE, syncL, allB, lookF]
theorem loose1 (n : ByteArray) (bs : List UInt8) (s : Nat) : looseD [⟨n, bs, s⟩] n = bs.length - s := by simp [looseD, lookF]
theorem read1 (n : ByteArray) (bs : List UInt8) (s : Nat) : readL [⟨n, bs, s⟩] n = bs ∧ readE [⟨n, bs, s⟩] n = 0 := by simp [readL, readE, lookF]
theorem driveStays_spec {h0 : Hp} {aa ab : Option Addr} {ca cb : Nat} {xs ys : List UInt8} (stay : Int) (hlo : -9223372036854775808 ≤ stay) (hhi : stay < 9223372036854775808) (h1 : slR h0 1 byteC aa xs) (h2 : slR h0 1 byteC ab ys)
    (hl1 : xs.length ≤ 9223372036854775807) (hl2 : ys.length ≤ 9223372036854775807) :
    Ct Try.prog 3 [.slice aa xs.length ca, .slice ab ys.length cb, int stay] [ro h0] (fun v hs => v = .bool true ∧ hs = [ro h0]) := by
  refine Ct.intro Try.func3 rfl (by kernel_rfl) 118 Try.ntmps3 (Nat.le_of_ble_eq_true rfl) fun w0 R => ?_
  refine Gs.seq ?_
  refine Gs.reg ?_
  refine Go.Sl.L.pu rfl rfl trivial (pu_assign rfl) ?_
  refine Go.Sl.L.nil ?_
  refine Gs.then_n ?_
  refine Gs.seq ?_
  refine Gs.seq ?_
  refine Gs.reg ?_
  refine Go.Sl.L.pu rfl rfl trivial (pu_move rfl) ?_
  refine Go.Sl.L.pu rfl rfl trivial (pu_len Try.underlying22 rfl) ?_
  refine Go.Sl.L.pu rfl rfl trivial (pu_gt rfl rfl) ?_
  refine Go.Sl.L.puB rfl rfl trivial (pu_move rfl) (fun hg3 => ?_) (fun hg3 => ?_)
  · skip
    have hg3' := of_decide_eq_true hg3
    refine Go.Sl.L.off rfl rfl rfl rfl rfl rfl ?_
    refine Go.Sl.L.off rfl rfl rfl rfl rfl rfl ?_
    refine Go.Sl.L.off rfl rfl rfl rfl rfl rfl ?_
    refine Go.Sl.L.pu rfl rfl trivial (by first | exact pu_pick_t rfl rfl | exact pu_pick_f rfl rfl) ?_
    refine Go.Sl.L.nil ?_
    refine Gs.then_n ?_
    refine Gs.cond_t rfl ?_
    refine Gs.seq ?_
    refine Gs.reg ?_
    refine Go.Sl.L.ac rfl rfl trivial (as_call (awake7_spec) (by repeat constructor) (by repeat constructor)) ?_
    rintro _ _ ⟨_, ⟨rfl, rfl⟩, rfl⟩
    refine Go.Sl.L.pu rfl rfl trivial (pu_assign rfl) ?_
    refine Go.Sl.L.nil ?_
    refine Gs.then_n ?_
    refine Gs.ret ?_
    refine Gs.then_r ?_
    exact Gs.fin1 Try.results3 rfl _ (⟨rfl, rfl⟩) (by repeat constructor)
  · skip
    have hg3' := of_decide_eq_false hg3
    refine Go.Sl.L.pu rfl rfl ⟨_, rfl, rfl⟩ (pu_move rfl) ?_
    refine Go.Sl.L.pu rfl rfl ⟨_, rfl, rfl⟩ (pu_len Try.underlying22 rfl) ?_
    refine Go.Sl.L.pu rfl rfl ⟨_, rfl, rfl⟩ (pu_gt rfl rfl) ?_
    refine Go.Sl.L.pu rfl rfl trivial (by first | exact pu_pick_t rfl rfl | exact pu_pick_f rfl rfl) ?_
    refine Go.Sl.L.nil ?_
    refine Gs.then_n ?_
    refine Gs.cond rfl (fun hc0 => ?_) (fun hc0 => ?_)
    · skip
      have hc0' := of_decide_eq_true hc0
      refine Gs.seq ?_
      refine Gs.reg ?_
      refine Go.Sl.L.ac rfl rfl trivial (as_call (awake7_spec) (by repeat constructor) (by repeat constructor)) ?_
      rintro _ _ ⟨_, ⟨rfl, rfl⟩, rfl⟩
      refine Go.Sl.L.pu rfl rfl trivial (pu_assign rfl) ?_
      refine Go.Sl.L.nil ?_
      refine Gs.then_n ?_
      refine Gs.ret ?_
      refine Gs.then_r ?_
      exact Gs.fin1 Try.results3 rfl _ (⟨rfl, rfl⟩) (by repeat constructor)
    · skip
      have hc0' := of_decide_eq_false hc0
      have x1 : xs.length ≤ 200 := by omega
      have x2 : ys.length ≤ 200 := by omega
      obtain ⟨e1, e2⟩ := app0 (most := 1000) (n := nF) (bs := xs) (by decide) (by omega)
      obtain ⟨e3, e4⟩ := sync1 nF xs 0
      obtain ⟨e5, e6⟩ := app1 (most := 1000) (n := nF) (bs := xs) (cs := ys) (s := xs.length) (by decide) (by omega)
      have e7 := loose1 nF (xs ++ ys) xs.length
      have e7' : ((xs ++ ys).length : Int) - (xs.length : Int) = ys.length := by simp; omega
      obtain ⟨k, hk⟩ : ∃ k, k = min stay.toNat ys.length := ⟨_, rfl⟩
      have hkk : min (max stay 0) (ys.length : Int) = (k : Int) := by omega
      have e8 : crashL stay [⟨nF, xs ++ ys, xs.length⟩] = [⟨nF, (xs ++ ys).take (xs.length + k), xs.length + k⟩] := by
        have hlost : lostF stay ⟨nF, xs ++ ys, xs.length⟩ = k := by unfold lostF; simp only [List.length_append]; omega
        rw [crash1, crashF, hlost]
      have hrl : ((xs ++ ys).take (xs.length + k)).length = xs.length + k := by rw [List.length_take, List.length_append]; omega
      obtain ⟨rs, hrs⟩ : ∃ rs, rs = (xs ++ ys).take (xs.length + k) := ⟨_, rfl⟩
      rw [← hrs] at e8 hrl
      obtain ⟨e9, e10⟩ := read1 nF rs (xs.length + k)
      have e11 := loose1 nF rs (xs.length + k)
      have e12 : used [⟨nF, rs, xs.length + k⟩] = rs.length := used1 _
      have e13 : crashL 0 [⟨nF, rs, xs.length + k⟩] = [⟨nF, rs, xs.length + k⟩] := by
        have hlost : lostF 0 ⟨nF, rs, xs.length + k⟩ = 0 := by unfold lostF; simp
        rw [crash1, crashF, hlost, Nat.add_zero, List.take_of_length_le (by dsimp only; omega)]
      have e14 : (xs ++ ys).take rs.length = rs := by rw [hrl, hrs]
      refine Gs.skip ?_
      refine Gs.then_n ?_
      refine Gs.seq ?_
      refine Gs.reg ?_
      refine Go.Sl.L.ac rfl rfl trivial (as_call (drvNew_ok 1000 (by decide) (by decide)) (by repeat constructor) (by repeat constructor)) ?_
      rintro _ _ ⟨_, ⟨b, rfl, rfl⟩, rfl⟩
      refine Go.Sl.L.pu rfl rfl trivial (pu_assign rfl) ?_
      refine Go.Sl.L.nil ?_
      refine Gs.then_n ?_
      refine Gs.seq ?_
      refine Gs.seq ?_
      refine Gs.reg ?_
      refine Go.Sl.L.pu rfl rfl trivial (pu_move rfl) ?_
      refine Go.Sl.L.pu rfl rfl trivial (pu_eqN Try.underlying24 rfl rfl) ?_
      refine Go.Sl.L.puBf rfl rfl trivial (pu_move rfl) rfl ?_
      refine Go.Sl.L.pu rfl rfl ⟨_, rfl, rfl⟩ (pu_move rfl) ?_
      refine Go.Sl.L.pu rfl rfl ⟨_, rfl, rfl⟩ (pu_move rfl) ?_
      refine Go.Sl.L.ac rfl rfl ⟨_, rfl, rfl⟩ (as_call (append_spec b 1000 [] nF (by decide) (by decide) (Srd.ro h1) (by omega) (by decide)) (by repeat constructor) (by repeat constructor)) ?_
      rintro _ _ ⟨_, ⟨rfl, rfl⟩, rfl⟩
      rw [e1, e2]
      refine Go.Sl.L.pu rfl rfl ⟨_, rfl, rfl⟩ (pu_ne rfl rfl) ?_
      refine Go.Sl.L.pu rfl rfl trivial (by first | exact pu_pick_t rfl rfl | exact pu_pick_f rfl rfl) ?_
      refine Go.Sl.L.puBf rfl rfl trivial (pu_move rfl) rfl ?_
      refine Go.Sl.L.pu rfl rfl ⟨_, rfl, rfl⟩ (pu_move rfl) ?_
      refine Go.Sl.L.ac rfl rfl ⟨_, rfl, rfl⟩ (ac_lit encC_9 ([nF]) et_37 ek_9 rfl (by repeat constructor) rfl rfl (by decide)) ?_
      rintro _ _ ⟨a35, rfl, rfl⟩
      refine Go.Sl.L.ac rfl rfl ⟨_, rfl, rfl⟩ (as_call (sync_spec (S := sl 9 1 strC (at0 a35) 1 [nF]) b 1000 [⟨nF, xs, 0⟩] Srd.own (by decide)) (by repeat constructor) (by repeat constructor)) ?_
      rintro _ _ ⟨_, ⟨rfl, rfl⟩, rfl⟩
      rw [e3, if_pos rfl, e4]
      refine Go.Sl.L.pu rfl rfl ⟨_, rfl, rfl⟩ (pu_ne rfl rfl) ?_
      refine Go.Sl.L.pu rfl rfl trivial (by first | exact pu_pick_t rfl rfl | exact pu_pick_f rfl rfl) ?_
      refine Go.Sl.L.puBf rfl rfl trivial (pu_move rfl) rfl ?_
      refine Go.Sl.L.pu rfl rfl ⟨_, rfl, rfl⟩ (pu_move rfl) ?_
      refine Go.Sl.L.pu rfl rfl ⟨_, rfl, rfl⟩ (pu_move rfl) ?_
      refine Go.Sl.L.ac rfl rfl ⟨_, rfl, rfl⟩ (as_call (append_spec b 1000 [⟨nF, xs, xs.length⟩] nF (by decide) (by decide) (Srd.ro h2) (by omega) (by simp)) (by repeat constructor) (by repeat constructor)) ?_
      rintro _ _ ⟨_, ⟨rfl, rfl⟩, rfl⟩
      rw [e5, e6]
      refine Go.Sl.L.pu rfl rfl ⟨_, rfl, rfl⟩ (pu_ne rfl rfl) ?_
      refine Go.Sl.L.pu rfl rfl trivial (by first | exact pu_pick_t rfl rfl | exact pu_pick_f rfl rfl) ?_
      refine Go.Sl.L.nil ?_
      refine Gs.then_n ?_
      refine Gs.cond_ff rfl rfl ?_
      refine Gs.skip ?_
      refine Gs.then_n ?_
      refine Gs.seq ?_
      refine Gs.reg ?_
      refine Go.Sl.L.pu rfl rfl trivial (pu_move rfl) ?_
      refine Go.Sl.L.ac rfl rfl trivial (as_call (loose_spec b 1000 [⟨nF, xs ++ ys, xs.length⟩] nF) (by repeat constructor) (by repeat constructor)) ?_
      rintro _ _ ⟨_, ⟨rfl, rfl⟩, rfl⟩
      rw [e7, e7']
      refine Go.Sl.L.pu rfl rfl trivial (pu_assign rfl) ?_
      refine Go.Sl.L.nil ?_
      refine Gs.then_n ?_
      refine Gs.seq ?_
      refine Gs.reg ?_
      refine Go.Sl.L.pu rfl rfl trivial (pu_move rfl) ?_
      refine Go.Sl.L.pu rfl rfl trivial (pu_move rfl) ?_
      refine Go.Sl.L.ac rfl rfl trivial (as_call (crash_spec b 1000 [⟨nF, xs ++ ys, xs.length⟩] stay (by simp) hlo hhi) (by repeat constructor) (by repeat constructor)) ?_
      rintro _ _ ⟨_, ⟨rfl, rfl⟩, rfl⟩
      rw [e8]
      refine Go.Sl.L.nil ?_
      refine Gs.then_n ?_
      refine Gs.seq ?_
      refine Gs.reg ?_
      refine Go.Sl.L.pu rfl rfl trivial (pu_move rfl) ?_
      refine Go.Sl.L.ac rfl rfl trivial (as_call (read_spec b 1000 [⟨nF, rs, xs.length + k⟩] nF) (by repeat constructor) (by repeat constructor)) ?_
      rintro _ _ ⟨_, ⟨ra, rc, rfl, rfl⟩, rfl⟩
      rw [e9, e10]
      refine Go.Sl.L.pu rfl rfl trivial (pu_move rfl) ?_
      refine Go.Sl.L.pu rfl rfl trivial (pu_extract rfl rfl) ?_
      refine Go.Sl.L.pu rfl rfl trivial (pu_extract rfl rfl) ?_
      refine Go.Sl.L.pu rfl rfl trivial (pu_assign rfl) ?_
      refine Go.Sl.L.pu rfl rfl trivial (pu_assign rfl) ?_
      refine Go.Sl.L.nil ?_
      refine Gs.then_n ?_
      refine Gs.seq ?_
      refine Gs.reg ?_
      refine Go.Sl.L.pu rfl rfl trivial (pu_move rfl) ?_
      refine Go.Sl.L.pu rfl rfl trivial (pu_max rfl rfl) ?_
      refine Go.Sl.L.pu rfl rfl trivial (pu_move rfl) ?_
      refine Go.Sl.L.pu rfl rfl trivial (pu_len Try.underlying22 rfl) ?_
      refine Go.Sl.L.pu rfl rfl trivial (pu_min rfl rfl) ?_
      rw [hkk]
      refine Go.Sl.L.pu rfl rfl trivial (pu_assign rfl) ?_
      refine Go.Sl.L.nil ?_
      refine Gs.then_n ?_
      refine Gs.seq ?_
      refine Gs.seq ?_
      refine Gs.reg ?_
      refine Go.Sl.L.pu rfl rfl trivial (pu_move rfl) ?_
      refine Go.Sl.L.pu rfl rfl trivial (pu_move rfl) ?_
      refine Go.Sl.L.pu rfl rfl trivial (pu_len Try.underlying22 rfl) ?_
      refine Go.Sl.L.pu rfl rfl trivial (pu_ne rfl rfl) ?_
      refine Go.Sl.L.puBf rfl rfl trivial (pu_move rfl) (decide_eq_false (by omega)) ?_
      refine Go.Sl.L.pu rfl rfl ⟨_, rfl, rfl⟩ (pu_move rfl) ?_
      refine Go.Sl.L.pu rfl rfl ⟨_, rfl, rfl⟩ (pu_ne rfl rfl) ?_
      refine Go.Sl.L.pu rfl rfl trivial (by first | exact pu_pick_t rfl rfl | exact pu_pick_f rfl rfl) ?_
      refine Go.Sl.L.puBf rfl rfl trivial (pu_move rfl) rfl ?_
      refine Go.Sl.L.pu rfl rfl ⟨_, rfl, rfl⟩ (pu_move rfl) ?_
      refine Go.Sl.L.pu rfl rfl ⟨_, rfl, rfl⟩ (pu_len Try.underlying22 rfl) ?_
      refine Go.Sl.L.pu rfl rfl ⟨_, rfl, rfl⟩ (pu_move rfl) ?_
      refine Go.Sl.L.pu rfl rfl ⟨_, rfl, rfl⟩ (pu_len Try.underlying22 rfl) ?_
      refine Go.Sl.L.pu rfl rfl ⟨_, rfl, rfl⟩ (pu_move rfl) ?_
      refine Go.Sl.L.pu rfl rfl ⟨_, rfl, rfl⟩ (by first | exact pu_addI rfl rfl rfl (by omega) (by omega) | exact pu_add rfl rfl) ?_
      refine Go.Sl.L.pu rfl rfl ⟨_, rfl, rfl⟩ (pu_ne rfl rfl) ?_
      refine Go.Sl.L.pu rfl rfl trivial (by first | exact pu_pick_t rfl rfl | exact pu_pick_f rfl rfl) ?_
      refine Go.Sl.L.puBf rfl rfl trivial (pu_move rfl) (decide_eq_false (by omega)) ?_
      refine Go.Sl.L.pu rfl rfl ⟨_, rfl, rfl⟩ (pu_move rfl) ?_
      refine Go.Sl.L.ac rfl rfl ⟨_, rfl, rfl⟩ (as_call (loose_spec b 1000 [⟨nF, rs, xs.length + k⟩] nF) (by repeat constructor) (by repeat constructor)) ?_
      rintro _ _ ⟨_, ⟨rfl, rfl⟩, rfl⟩
      rw [e11]
      refine Go.Sl.L.pu rfl rfl ⟨_, rfl, rfl⟩ (pu_ne rfl rfl) ?_
      refine Go.Sl.L.pu rfl rfl trivial (by first | exact pu_pick_t rfl rfl | exact pu_pick_f rfl rfl) ?_
      refine Go.Sl.L.puBf rfl rfl trivial (pu_move rfl) (decide_eq_false (by omega)) ?_
      refine Go.Sl.L.pu rfl rfl ⟨_, rfl, rfl⟩ (pu_move rfl) ?_
      refine Go.Sl.L.ac rfl rfl ⟨_, rfl, rfl⟩ (as_call (used_spec b 1000 [⟨nF, rs, xs.length + k⟩] (by simp)) (by repeat constructor) (by repeat constructor)) ?_
      rintro _ _ ⟨_, ⟨rfl, rfl⟩, rfl⟩
      rw [e12]
      refine Go.Sl.L.pu rfl rfl ⟨_, rfl, rfl⟩ (pu_move rfl) ?_
      refine Go.Sl.L.pu rfl rfl ⟨_, rfl, rfl⟩ (pu_len Try.underlying22 rfl) ?_
      refine Go.Sl.L.pu rfl rfl ⟨_, rfl, rfl⟩ (pu_ne rfl rfl) ?_
      refine Go.Sl.L.pu rfl rfl trivial (by first | exact pu_pick_t rfl rfl | exact pu_pick_f rfl rfl) ?_
      refine Go.Sl.L.nil ?_
      refine Gs.then_n ?_
      refine Gs.cond_ff rfl (decide_eq_false (by omega)) ?_
      refine Gs.skip ?_
      refine Gs.then_n ?_
      refine Gs.seq ?_
      refine Gs.reg ?_
      refine Go.Sl.L.pu rfl rfl trivial (pu_move rfl) ?_
      refine Go.Sl.L.ac rfl rfl trivial (ac_copy et_22 ek_5 rfl rfl (SrcH.sl Try.underlying22 ek_5 (SlH.ro (by repeat constructor) h1)) (by first | omega | (simp; omega)) (by first | omega | (simp; omega))) ?_
      rintro _ _ ⟨a90, c90, rfl, rfl⟩
      refine Go.Sl.L.pu rfl rfl trivial (pu_move rfl) ?_
      refine Go.Sl.L.ac rfl rfl trivial (ac_append et_22 ek_5 rfl rfl (by repeat constructor) (SrcH.sl Try.underlying22 ek_5 (SlH.ro (by repeat constructor) h2)) (by first | omega | (simp; omega)) (by first | omega | (simp; omega))) ?_
      rintro _ _ ⟨a92, c92, rfl, rfl⟩
      refine Go.Sl.L.pu rfl rfl trivial (pu_assign rfl) ?_
      refine Go.Sl.L.nil ?_
      refine Gs.then_n ?_
      refine Gs.seq ?_
      refine Gs.reg ?_
      refine Go.Sl.L.pu rfl rfl trivial (pu_move rfl) ?_
      refine Go.Sl.L.ac rfl rfl trivial (as_call (crash_spec b 1000 [⟨nF, rs, xs.length + k⟩] 0 (by simp) (by decide) (by decide)) (by repeat constructor) (by repeat constructor)) ?_
      rintro _ _ ⟨_, ⟨rfl, rfl⟩, rfl⟩
      rw [e13]
      refine Go.Sl.L.nil ?_
      refine Gs.then_n ?_
      refine Gs.seq ?_
      refine Gs.reg ?_
      refine Go.Sl.L.pu rfl rfl trivial (pu_move rfl) ?_
      refine Go.Sl.L.ac rfl rfl trivial (as_call (read_spec b 1000 [⟨nF, rs, xs.length + k⟩] nF) (by repeat constructor) (by repeat constructor)) ?_
      rintro _ _ ⟨_, ⟨sa, sc, rfl, rfl⟩, rfl⟩
      rw [e9, e10]
      refine Go.Sl.L.pu rfl rfl trivial (pu_move rfl) ?_
      refine Go.Sl.L.pu rfl rfl trivial (pu_extract rfl rfl) ?_
      refine Go.Sl.L.pu rfl rfl trivial (pu_extract rfl rfl) ?_
      refine Go.Sl.L.pu rfl rfl trivial (pu_assign rfl) ?_
      refine Go.Sl.L.pu rfl rfl trivial (pu_assign rfl) ?_
      refine Go.Sl.L.nil ?_
      refine Gs.then_n ?_
      refine Gs.seq ?_
      refine Gs.slLen (E := 5) (sz := 1) (enc := byteC) (a := a92) (c := c92) (xs := xs ++ ys) (by repeat constructor) fun hlc => ?_
      have hle2 : rs.length ≤ (xs ++ ys).length := by rw [hrs]; exact List.length_take_le' _ _
      have hU : Srd (sl 5 1 byteC a92 c92 (xs ++ ys)) 1 byteC (suba a92 0 c92 1) rs := by have := (Srd.own (E := 5) (c := c92) : Srd _ 1 byteC a92 (xs ++ ys)).cutH rs.length c92 hlc; rwa [e14] at this
      refine Gs.reg ?_
      refine Go.Sl.L.pu rfl rfl trivial (pu_move rfl) ?_
      refine Go.Sl.L.pu rfl rfl trivial (pu_move rfl) ?_
      refine Go.Sl.L.pu rfl rfl trivial (pu_move rfl) ?_
      refine Go.Sl.L.pu rfl rfl trivial (pu_len Try.underlying22 rfl) ?_
      refine Go.Sl.L.pu rfl rfl trivial (pu_sliceH et_22 rfl rfl (by omega) (by omega)) ?_
      rw [Int.toNat_natCast]
      refine Go.Sl.L.ac rfl rfl trivial (as_call (sameBytes_spec (S := sl 5 1 byteC ra rc rs) (xs := rs) (ys := rs) Srd.own hU (by omega)) (by repeat constructor) (by repeat constructor)) ?_
      rintro _ _ ⟨_, ⟨rfl, rfl⟩, rfl⟩
      refine Go.Sl.L.puBt rfl rfl trivial (pu_move rfl) (by simp) ?_
      refine Go.Sl.L.pu rfl rfl ⟨_, rfl, rfl⟩ (pu_move rfl) ?_
      refine Go.Sl.L.pu rfl rfl ⟨_, rfl, rfl⟩ (pu_eq rfl rfl) ?_
      refine Go.Sl.L.pu rfl rfl trivial (by first | exact pu_pick_t rfl rfl | exact pu_pick_f rfl rfl) ?_
      refine Go.Sl.L.puBt rfl rfl trivial (pu_move rfl) rfl ?_
      refine Go.Sl.L.pu rfl rfl ⟨_, rfl, rfl⟩ (pu_move rfl) ?_
      refine Go.Sl.L.pu rfl rfl ⟨_, rfl, rfl⟩ (pu_move rfl) ?_
      refine Go.Sl.L.ac rfl rfl ⟨_, rfl, rfl⟩ (as_call (sameBytes_spec (S := sl 5 1 byteC sa sc rs) (U := sl 5 1 byteC ra rc rs) Srd.own Srd.own (by omega)) (by repeat constructor) (by repeat constructor)) ?_
      rintro _ _ ⟨_, ⟨rfl, rfl⟩, rfl⟩
      refine Go.Sl.L.pu rfl rfl trivial (by first | exact pu_pick_t rfl rfl | exact pu_pick_f rfl rfl) ?_
      refine Go.Sl.L.puBt rfl rfl trivial (pu_move rfl) (by simp) ?_
      refine Go.Sl.L.ac rfl rfl ⟨_, rfl, rfl⟩ (as_call (awake7_spec) (by repeat constructor) (by repeat constructor)) ?_
      rintro _ _ ⟨_, ⟨rfl, rfl⟩, rfl⟩
      refine Go.Sl.L.pu rfl rfl trivial (by first | exact pu_pick_t rfl rfl | exact pu_pick_f rfl rfl) ?_
      refine Go.Sl.L.pu rfl rfl trivial (pu_assign rfl) ?_
      refine Go.Sl.L.nil ?_
      refine Gs.then_n ?_
      refine Gs.ret ?_
      exact Gs.fin1 Try.results3 rfl _ (⟨rfl, rfl⟩) (by repeat constructor)
end Go.Proofs.Ytmfgemhjepagjaa
