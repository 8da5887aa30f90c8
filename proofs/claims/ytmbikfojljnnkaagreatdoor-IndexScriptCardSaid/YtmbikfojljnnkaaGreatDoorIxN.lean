/- Walk: tokens.Norm, by the kit's contracts, in the kit's make. -/
import Derived.Test.YtmbikfojljnnkaaGreatDoorMay
import Derived.Test.YtmbikfojljnnkaaGreatDoorLayWR
import Derived.WalkKit
import Derived.BigCall
import Derived.Lib.OthersKept
namespace Go.Proofs
open Go.RowKit Go.Shelf
namespace YtmbikfojljnnkaaGreatDoor
/-- A text in small letters, from a place on. -/
def lowF (s : ByteArray) : Nat → Nat → List UInt8
  | 0, _ => []
  | fuel + 1, pos => if pos < s.size then Lib.encodeRune (Lib.toLowerU (Utf8.decode s pos).1) ++ lowF s fuel (pos + (Utf8.decode s pos).2) else []
def normB (s : ByteArray) : ByteArray := if validS s then ⟨(lowF s s.size 0).toArray⟩ else ⟨#[]⟩
theorem width_pos (s : ByteArray) (pos : Nat) (h : pos < s.size) : 1 ≤ (Utf8.decode s pos).2 := by
  by_cases ha : (s[pos]'h).toNat < 128
  · rw [decode_ascii s pos h ha]
    exact Nat.le_refl _
  · exact (decode_high s pos h (by omega)).2
theorem lowF_end (s : ByteArray) (fuel pos : Nat) (h : ¬ pos < s.size) : lowF s fuel pos = [] := by
  cases fuel with
  | zero => rfl
  | succ f => simp [lowF, h]
theorem bextra : Builder.Extra Tryz.prog Tryz.laysWR_ren where
  sizeBuilder := by kernel_rfl
  liesBuilder := by kernel_rfl
  t5 := Tryz.underlying5
  a5 := Tryz.isAgg5
  z5 := Tryz.sizeOf5
  v5 := Tryz.zeroValue5
  infoByte := by kernel_rfl
  cellsByte := by kernel_rfl
  sizeByte := by kernel_rfl
  neB5 := by decide
theorem bextra2 : Builder.Extra Tryz.prog Tryz.laysBS_ren where
  sizeBuilder := by kernel_rfl
  liesBuilder := by kernel_rfl
  t5 := Tryz.underlying5
  a5 := Tryz.isAgg5
  z5 := Tryz.sizeOf5
  v5 := Tryz.zeroValue5
  infoByte := by kernel_rfl
  cellsByte := by kernel_rfl
  sizeByte := by kernel_rfl
  neB5 := by decide
theorem writeRune_c (B b : Nat) (bs : List Value) (r : Int) (hr0 : -2147483648 ≤ r) (hr1 : r ≤ 2147483647) (w : World) (h : Lib.IsBuilderF 130 5 B b bs w) (hlen : bs.length + 4 ≤ 140737488355328) (hBw : B ≤ w.heap.size) :
    Calls Tryz.prog 96 #[.pointer (some ⟨b, 0, none⟩), .int .i32 r] w fun e w' => e = .returned (.tuple #[.int .i64 (Lib.runeCells r).length, .nilIface]) ∧ (Lib.BuilderAtF 130 5 B b (.pointer (some ⟨b, 0, none⟩)) (bs ++ Lib.runeCells r) w' ∧ Below B w w' ∧ Lib.OthersKept 5 (some b) w w') :=
  Any.Builder_WriteRune_k Tryz.laysWR bextra B b bs r hr0 hr1 w h hlen hBw
theorem string_c (B b : Nat) (l : List UInt8) (w : World) (h : Lib.IsBuilderF 130 5 B b (Lib.byteCells l) w) (hBw : B ≤ w.heap.size) :
    Calls Tryz.prog 97 #[.pointer (some ⟨b, 0, none⟩)] w fun e w' => e = .returned (.string ⟨l.toArray⟩) ∧ (Lib.IsBuilderF 130 5 B b (Lib.byteCells l) w' ∧ Below B w w') :=
  Any.Builder_String_any_f Tryz.laysBS bextra2 B b l w h hBw
theorem lower_c (r : Int) (w : World) (hV : Lib.CaseVar (Tryz.laysLower_ren.g 13) Lib.caseA w) :
    Calls Tryz.prog 90 #[.int .i32 r] w fun e w' => e = .returned (.int .i32 (Lib.toLowerU r)) ∧ ∃ q, w' = w.drewN q :=
  Any.unicode_ToLower_laid Tryz.laysLower r w hV
theorem caseVar_below {g : Nat} {T : Array Lib.CaseRow} {w w' : World} (h : Lib.CaseVar g T w) (hb : Below w.heap.size w w') : Lib.CaseVar g T w' := by
  have k : ∀ {a : Addr} {v : Value}, w.cell? a = some v → w'.cell? a = some v := fun {a v} hc => (hb.cell (World.block_lt_of_cell? w a hc)).trans hc
  obtain ⟨R, oR, cap, h1, h2⟩ := h
  exact ⟨R, oR, cap, k h1, fun i hi => ⟨k (h2 i hi).1, k (h2 i hi).2.1, k (h2 i hi).2.2.1, k (h2 i hi).2.2.2.1, k (h2 i hi).2.2.2.2⟩⟩
theorem valid_c (s : ByteArray) (w : World) (hs : s.size ≤ 9223372036854775807) (hT : Lib.Utf8Tabs (Tryz.laysValid_ren.g 3) (Tryz.laysValid_ren.g 4) w) :
    Calls Tryz.prog 87 #[.string s] w fun e w' => e = .returned (.bool (validS s)) ∧ Below w.heap.size w w' := Any.utf8_ValidString Tryz.laysValid s w hs hT
theorem low_range (r : Int) (h0 : -2147483648 ≤ r) (h1 : r ≤ 2147483647) : -2147483648 ≤ Lib.toLowerU r ∧ Lib.toLowerU r ≤ 2147483647 := by
  rw [← toLowerW_caseA]
  unfold Lib.toLowerW
  split
  · split <;> omega
  · unfold Lib.toW
    split
    · unfold RowKit.wrap32; omega
    · omega
set_option maxHeartbeats 4000000 in
set_option maxRecDepth 1000000 in
theorem norm_walk (s : ByteArray) (w : World) (hs : s.size ≤ 35184372088832) (hT : Lib.Utf8Tabs (Tryz.laysValid_ren.g 3) (Tryz.laysValid_ren.g 4) w) (hC : Lib.CaseVar (Tryz.laysLower_ren.g 13) Lib.caseA w) :
    Calls Tryz.prog 64 #[.string s] w fun e w' => e = .returned (.string (normB s)) ∧ Below w.heap.size w w' := by
  have cV := valid_c s w (by omega) hT
  cases hv : validS s with
  | false =>
    rw [hv] at cV
    have hn : normB s = ⟨#[]⟩ := by unfold normB; rw [hv]; rfl
    rw [hn]
    go_enter Tryz.func64, Tryz.ntmps64
    go_wp2_with (go_at_call 87; refine cV.mono ?_)
    rintro e W1 ⟨rfl, b1⟩
    go_wp2
    go_ret
    exact ⟨rfl, b1⟩
  | true =>
    rw [hv] at cV
    have hn : normB s = ⟨(lowF s s.size 0).toArray⟩ := by unfold normB; rw [hv]; rfl
    rw [hn]
    go_enter Tryz.func64, Tryz.ntmps64
    go_wp2_with (go_at_call 87; refine cV.mono ?_)
    rintro e W0 ⟨rfl, b0⟩
    have hC0 := caseVar_below hC b0
    go_wp2
    go_loopw [] (fun wr => ∃ (pos fuel : Nat) (acc : List UInt8), Lib.IsBuilderF 130 5 W0.heap.size W0.heap.size (Lib.byteCells acc) wr ∧ wr.heap[W0.heap.size + 1]? = some (.stringIter s pos) ∧ Below W0.heap.size W0 wr ∧ acc ++ lowF s fuel pos = lowF s s.size 0 ∧ s.size ≤ pos + fuel ∧ acc.length ≤ 4 * pos) (fun wr => s.size - wr.iterPos (W0.heap.size + 1))
    case atStart =>
      refine ⟨0, s.size, [], (Lib.IsBuilderF.of (Lib.fresh_isBuilder 130 5 W0)).alloc _, ?_, ((Below.refl _ W0).alloc (Nat.le_refl _) _).alloc (by simp) _, rfl, by omega, by simp⟩
      have := World.iter_heap (W0.alloc (.cells #[.pointer none, .slice none 0 0] 130)) s 0
      simpa using this
    case round =>
      obtain ⟨pos, fuel, acc, hI, hit, hbw, hacc, hfu, hal⟩ := hrel
      have hsz : W0.heap.size + 1 < wr.heap.size := (Array.getElem?_eq_some_iff.1 hit).1
      by_cases hp : pos < s.size
      · have hnx : ∀ ty, (Instr.next (.pointer (some ⟨W0.heap.size + 1, 0, none⟩)) true ty).run Tryz.prog wr = _ := fun ty => Lib.run_next_any_at wr (W0.heap.size + 1) s pos ty hit hp
        have hwd := width_pos s pos hp
        have hd1 := decode_le s pos
        have hI2 := hI.iterAt hit (pos + (Utf8.decode s pos).2)
        have hit2 := Lib.iterAt_heap wr (W0.heap.size + 1) s pos (pos + (Utf8.decode s pos).2) hit
        have hbw2 := Lib.below_iterAt hbw (k := W0.heap.size + 1) (by omega) s (pos + (Utf8.decode s pos).2)
        have hsz2 : W0.heap.size ≤ (wr.iterAt (W0.heap.size + 1) s (pos + (Utf8.decode s pos).2)).heap.size := by rw [Lib.iterAt_size]; omega
        have hCr := caseVar_below hC0 hbw2
        obtain ⟨f, rfl⟩ : ∃ f, fuel = f + 1 := ⟨fuel - 1, by omega⟩
        have cL := lower_c ((Utf8.decode s pos).1 : Int) _ hCr
        go_wp2_with (go_at_call 90; refine cL.mono ?_)
        rintro e W1 ⟨rfl, q, rfl⟩
        have hI3 : Lib.IsBuilderF 130 5 W0.heap.size W0.heap.size (Lib.byteCells acc) ((wr.iterAt (W0.heap.size + 1) s (pos + (Utf8.decode s pos).2)).drewN q) := hI2
        have hit3 : ((wr.iterAt (W0.heap.size + 1) s (pos + (Utf8.decode s pos).2)).drewN q).heap[W0.heap.size + 1]? = some (.stringIter s (pos + (Utf8.decode s pos).2)) := hit2
        have hbw3 : Below W0.heap.size W0 ((wr.iterAt (W0.heap.size + 1) s (pos + (Utf8.decode s pos).2)).drewN q) := ⟨hbw2.os, hbw2.tape, hbw2.output, hbw2.size, hbw2.block⟩
        have hlo := low_range ((Utf8.decode s pos).1 : Int) (by omega) (by omega)
        go_wp2_with (go_at_call 96; refine (writeRune_c W0.heap.size W0.heap.size _ _ hlo.1 hlo.2 _ hI3 (by rw [Lib.byteCells_length]; omega) hsz2).mono ?_)
        rintro e W2 ⟨rfl, h1, b1, k1⟩
        go_wp2
        go_roundw
        case rel =>
          have hl4 := Lib.runeCells_le (Lib.toLowerU ((Utf8.decode s pos).1 : Int))
          rw [Lib.runeCells_length] at hl4
          refine ⟨pos + (Utf8.decode s pos).2, f, acc ++ Lib.encodeRune (Lib.toLowerU (Utf8.decode s pos).1), ?_, k1.iter hit3 (by omega), hbw3.trans b1, ?_, by omega, by simp; omega⟩
          · rw [Lib.byteCells_append, Lib.byteCells_encodeRune]; exact Or.inr h1
          · rw [← hacc]; simp [lowF, hp]
        case measure =>
          simp only [World.iterPos, k1.iter hit3 (by omega), hit]
          omega
      · have hnx : ∀ ty, (Instr.next (.pointer (some ⟨W0.heap.size + 1, 0, none⟩)) true ty).run Tryz.prog wr = _ := fun ty => Lib.run_next_end_at wr (W0.heap.size + 1) s pos ty hit hp
        go_wp2_with (go_at_call 97; refine (string_c W0.heap.size W0.heap.size acc _ hI (by omega)).mono ?_)
        rintro e W1 ⟨rfl, _, b1⟩
        go_wp2
        go_ret
        rw [lowF_end s fuel pos hp, List.append_nil] at hacc
        subst hacc
        exact ⟨rfl, b0.trans ((hbw.trans b1).mono b0.size)⟩
end YtmbikfojljnnkaaGreatDoor
end Go.Proofs
