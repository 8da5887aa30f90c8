/- What the closing leans on: part 15. -/
import Derived.Test.YtflfhpokmidnmaaGreatDoorCards
import Derived.Test.YtflfhpokmidnmaaGreatDoorTie
import Derived.Test.YtflfhpokmidnmaaGreatDoorXc
import Derived.Test.YtflfhpokmidnmaaGreatDoorXn
import Derived.Great.CaseRows
import Derived.Carry
import Derived.Lib.LaidIn
import Derived.Lib.LaidRTab
import Derived.Lib.LaidCase
import Derived.Lib.LaidTab
import Derived.Lib.LaidU8T
import Derived.Deep.DeepHandedRow
import Derived.Deep.DeepWitnessRowRef
import Derived.ProofKit
import Derived.SizedLaws
import Derived.OpenShut
namespace Go.Proofs.YtflfhpokmidnmaaGreatDoor
open Go Go.Sl Go.ChangeShapes Go.WideShapes Go.ChangeAt Go.RowKit Go.Lib Go.Shelf Go.Gv
set_option maxRecDepth 100000
theorem own : ownKnob Tryz.prog.godebug = none := by kernel_rfl
theorem laidOut : laidOutB Tryz.prog = true := by kernel_rfl
abbrev laidList : List (String × DataW Unit) := [("math/bits.deBruijn32tab", Rows.laid_math_bits_deBruijn32tab)] ++ [("math/bits.deBruijn64tab", Rows.laid_math_bits_deBruijn64tab)] ++ [("internal/strconv.uint64pow10", Rows.laid_internal_strconv_uint64pow10)] ++ [("unicode/utf8.acceptRanges", acceptData)] ++ [("strconv.ErrRange", Rows.laid_strconv_ErrRange)] ++ [("strconv.ErrSyntax", Rows.laid_strconv_ErrSyntax)] ++ [("unicode.properties", Lib.tabData .u8 Lib.propertiesTab)] ++ [("unicode.CaseRanges", caseData)] ++ [("unicode.Digit", rtabData digitT)] ++ [("unicode.Letter", rtabData letterT)] ++ [("unicode/utf8.first", firstData)]
theorem xL : RExtra Tryz.prog Tryz.laysLetter_ren := ⟨by kernel_rfl, by kernel_rfl, by kernel_rfl, by kernel_rfl, by kernel_rfl, by kernel_rfl, by kernel_rfl, by kernel_rfl⟩
theorem xD : RExtra Tryz.prog Tryz.laysDigit_ren := ⟨by kernel_rfl, by kernel_rfl, by kernel_rfl, by kernel_rfl, by kernel_rfl, by kernel_rfl, by kernel_rfl, by kernel_rfl⟩
theorem xC : CaseExtra Tryz.prog Tryz.laysLower_ren := ⟨by kernel_rfl, by kernel_rfl, by kernel_rfl, by kernel_rfl, by kernel_rfl, by kernel_rfl⟩
theorem cT : Go.Great.CTypes Tryz.prog 334 357 355 268 21 := ⟨by kernel_rfl, by kernel_rfl, by kernel_rfl, by kernel_rfl, by kernel_rfl, by kernel_rfl, by kernel_rfl, by kernel_rfl, by kernel_rfl⟩
noncomputable abbrev N0 : Nat := (World.settled Tryz.prog default).heap.size
noncomputable def laidWorld (os : Os) : World :=
 let N := (World.settled Tryz.prog os).heap.size
 let ρ := Tryz.laysLetter_ren
 let w0 := World.holding Tryz.prog os ⟨#[
   .cells (rgCells .u16 letterT.r16) (ρ.t 198), .cells (rgCells .u32 letterT.r32) (ρ.t 201),
   .cells #[.slice (some ⟨N, 0, none⟩) letterT.r16.size letterT.r16.size, .slice (some ⟨N + 1, 0, none⟩) letterT.r32.size letterT.r32.size, .int .i64 letterT.off] (ρ.t 196),
   .cells (rgCells .u16 digitT.r16) (ρ.t 198), .cells (rgCells .u32 digitT.r32) (ρ.t 201),
   .cells #[.slice (some ⟨N + 3, 0, none⟩) digitT.r16.size digitT.r16.size, .slice (some ⟨N + 4, 0, none⟩) digitT.r32.size digitT.r32.size, .int .i64 digitT.off] (ρ.t 196),
   .cells (caseT.flatMap Lib.cells5).toArray 357,
   .cells #[.string ⟨#[105, 110, 118, 97, 108, 105, 100, 32, 115, 121, 110, 116, 97, 120]⟩] 308, .cells #[.string ⟨#[118, 97, 108, 117, 101, 32, 111, 117, 116, 32, 111, 102, 32, 114, 97, 110, 103, 101]⟩] 308], #[], []⟩
 let put (h : Array Obj) (g : Nat) (cs : Array Value) : Array Obj := h.modify g fun
   | .cells _ t frozen => .cells cs t frozen
   | o => o
 let h1 := put w0.heap 0 (Go.Pinned.utf8FirstZ.map fun (z : Nat) => Value.int .u8 z).toArray
 let h2 := put h1 1 ((List.range 16).flatMap fun i => [Value.int .u8 (Lib.accLo i), Value.int .u8 (Lib.accHi i)]).toArray
 let h3 := put h2 6 (Lib.propertiesTab.map fun z => Value.int .u8 z).toArray
 let h4 := put h3 7 #[.pointer (some ⟨N + 2, 0, none⟩)]
 let h5 := put h4 8 #[.pointer (some ⟨N + 5, 0, none⟩)]
 let h6 := put h5 9 #[.slice (some ⟨N + 6, 0, none⟩) caseT.length caseT.length]
 let h7 := put h6 10 (([0, 1, 28, 2, 29, 14, 24, 3, 30, 22, 20, 15, 25, 17, 4, 8, 31, 27, 13, 23, 21, 19, 16, 7, 26, 12, 18, 6, 11, 5, 10, 9] : List Int).map fun z => Value.int .u8 z).toArray
 let h8 := put h7 11 (([0, 1, 56, 2, 57, 49, 28, 3, 61, 58, 42, 50, 38, 29, 17, 4, 62, 47, 59, 36, 45, 43, 51, 22, 53, 39, 33, 30, 24, 18, 12, 5, 63, 55, 48, 27, 60, 41, 37, 16, 46, 35, 44, 21, 52, 32, 23, 11, 54, 26, 40, 15, 34, 20, 31, 10, 25, 14, 19, 9, 13, 8, 7, 6] : List Int).map fun z => Value.int .u8 z).toArray
 let h9 := put h8 4 (([1, 10, 100, 1000, 10000, 100000, 1000000, 10000000, 100000000, 1000000000, 10000000000, 100000000000, 1000000000000, 10000000000000, 100000000000000, 1000000000000000, 10000000000000000, 100000000000000000, 1000000000000000000, 10000000000000000000] : List Int).map fun z => Value.int .u64 z).toArray
 let h10 := put h9 2 #[.iface 306 (.pointer (some ⟨N + 7, 0, none⟩))]
 let h11 := put h10 3 #[.iface 306 (.pointer (some ⟨N + 8, 0, none⟩))]
 { w0 with heap := h11 }
noncomputable abbrev lw (os : Os) (args : Array Value) : World := ((laidWorld os).forCall (fun _ _ => 0) ⟨#[], args, []⟩).memory
theorem piece0 (os : Os) (args : Array Value) : LaidIn Tryz.prog (lw os args) [("math/bits.deBruijn32tab", Rows.laid_math_bits_deBruijn32tab)] [10] :=
 LaidIn.of_run _ 8 (by kernel_rfl) (by kernel_rfl) (by kernel_rfl) (by kernel_rfl)
theorem piece1 (os : Os) (args : Array Value) : LaidIn Tryz.prog (lw os args) [("math/bits.deBruijn64tab", Rows.laid_math_bits_deBruijn64tab)] [11] :=
 LaidIn.of_run _ 8 (by kernel_rfl) (by kernel_rfl) (by kernel_rfl) (by kernel_rfl)
theorem piece2 (os : Os) (args : Array Value) : LaidIn Tryz.prog (lw os args) [("internal/strconv.uint64pow10", Rows.laid_internal_strconv_uint64pow10)] [4] :=
 LaidIn.of_run _ 8 (by kernel_rfl) (by kernel_rfl) (by kernel_rfl) (by kernel_rfl)
theorem piece3 (os : Os) (args : Array Value) : LaidIn Tryz.prog (lw os args) [("unicode/utf8.acceptRanges", acceptData)] [1] :=
 LaidIn.of_run _ 8 (by kernel_rfl) (by kernel_rfl) (by kernel_rfl) (by kernel_rfl)
theorem piece4 (os : Os) (args : Array Value) : LaidIn Tryz.prog (lw os args) [("strconv.ErrRange", Rows.laid_strconv_ErrRange)] [3, N0 + 8] :=
 LaidIn.of_run _ 8 (by kernel_rfl) (by kernel_rfl) (by kernel_rfl) (by kernel_rfl)
theorem piece5 (os : Os) (args : Array Value) : LaidIn Tryz.prog (lw os args) [("strconv.ErrSyntax", Rows.laid_strconv_ErrSyntax)] [2, N0 + 7] :=
 LaidIn.of_run _ 8 (by kernel_rfl) (by kernel_rfl) (by kernel_rfl) (by kernel_rfl)
theorem piece6 (os : Os) (args : Array Value) : LaidIn Tryz.prog (lw os args) [("unicode.properties", Lib.tabData .u8 Lib.propertiesTab)] [6] :=
 LaidIn.of_run _ 8 (by kernel_rfl) (by kernel_rfl) (by kernel_rfl) (by kernel_rfl)
theorem piece7 (os : Os) (args : Array Value) : LaidIn Tryz.prog (lw os args) [("unicode.CaseRanges", caseData)] [9, N0 + 6] :=
 Go.Great.laidIn_case cT (g := 9) (B := N0 + 6) (tg := 334) (tb := 357) caseT (by kernel_rfl) (by kernel_rfl) (of_decide_eq_true (by kernel_rfl)) (by kernel_rfl) (by kernel_rfl) (by kernel_rfl) (of_decide_eq_true (by kernel_rfl))
theorem piece8 (os : Os) (args : Array Value) : LaidIn Tryz.prog (lw os args) [("unicode.Digit", rtabData digitT)] [8, N0 + 5, N0 + 3, N0 + 4] :=
 laidIn_rtab (ρ := Tryz.laysDigit_ren) { Tryz.laysDigit with } xD (by kernel_rfl) (by kernel_rfl) digitT (N0 + 5) (N0 + 3) (N0 + 4) (Tryz.laysDigit_ren.t 198) (Tryz.laysDigit_ren.t 201)
   (by kernel_rfl) (by kernel_rfl) (by kernel_rfl) (by kernel_rfl) (by kernel_rfl) (of_decide_eq_true (by kernel_rfl)) (of_decide_eq_true (by kernel_rfl)) (of_decide_eq_true (by kernel_rfl))
theorem piece9 (os : Os) (args : Array Value) : LaidIn Tryz.prog (lw os args) [("unicode.Letter", rtabData letterT)] [7, N0 + 2, N0, N0 + 1] :=
 laidIn_rtab (ρ := Tryz.laysLetter_ren) { Tryz.laysLetter with } xL (by kernel_rfl) (by kernel_rfl) letterT (N0 + 2) N0 (N0 + 1) (Tryz.laysLetter_ren.t 198) (Tryz.laysLetter_ren.t 201)
   (by kernel_rfl) (by kernel_rfl) (by kernel_rfl) (by kernel_rfl) (by kernel_rfl) (of_decide_eq_true (by kernel_rfl)) (of_decide_eq_true (by kernel_rfl)) (of_decide_eq_true (by kernel_rfl))
theorem piece10 (os : Os) (args : Array Value) : LaidIn Tryz.prog (lw os args) [("unicode/utf8.first", firstData)] [0] :=
 LaidIn.of_run _ 8 (by kernel_rfl) (by kernel_rfl) (by kernel_rfl) (by kernel_rfl)
theorem laid_all (os : Os) (args : Array Value) : laidMet Tryz.prog laidList (lw os args) :=
 (((((((((((piece0 os args).append (piece1 os args) (by kernel_rfl)).append (piece2 os args) (by kernel_rfl)).append (piece3 os args) (by kernel_rfl)).append (piece4 os args) (by kernel_rfl)).append (piece5 os args) (by kernel_rfl)).append (piece6 os args) (by kernel_rfl)).append (piece7 os args) (by kernel_rfl)).append (piece8 os args) (by kernel_rfl)).append (piece9 os args) (by kernel_rfl)).append (piece10 os args) (by kernel_rfl)).met
theorem cell_le {W w : World} (h : Hp.le (whole W) w) {a : Addr} {v : Value} (e : W.cell? a = some v) : w.cell? a = some v := by
 cases hb : W.heap[a.block]? with
 | none => simp [World.cell?, hb] at e
 | some o =>
   have : w.heap[a.block]? = some o := h a.block o (by simp [whole, hb])
   rw [← e]; simp [World.cell?, hb, this]
theorem var_le {W w : World} (h : Hp.le (whole W) w) {n : String} {cs : Array Value} (e : W.var? Tryz.prog n = some cs) : w.var? Tryz.prog n = some cs := by
 unfold World.var? at e ⊢
 cases hg : Tryz.prog.globalNamed n with
 | none => rw [hg] at e; cases e
 | some g =>
   rw [hg] at e
   simp only [Option.bind_some] at e ⊢
   cases hb : W.heap[g]? with
   | none => rw [hb] at e; cases e
   | some o =>
     rw [hb] at e
     rw [h g o (by simp [whole, hb])]; exact e
theorem rgTab_le {W w : World} (h : Hp.le (whole W) w) {k : IntKind} {R oR : Nat} {T : Array Rg} (e : RgTab k R oR T W) : RgTab k R oR T w := fun i hi => ⟨cell_le h (e i hi).1, cell_le h (e i hi).2.1, cell_le h (e i hi).2.2⟩
theorem rvar_le {W w : World} (h : Hp.le (whole W) w) {g : Nat} {T : RTab} (e : RVar g T W) : RVar g T w := by
 obtain ⟨Tb, oT, h0, a16, a32, R16, o16, c16, R32, o32, c32, h1, h2, h3, h4, h5, h6, h7, h8⟩ := e
 exact ⟨Tb, oT, cell_le h h0, a16, a32, R16, o16, c16, R32, o32, c32, cell_le h h1, cell_le h h2, cell_le h h3, h4, h5, rgTab_le h h6, rgTab_le h h7, h8⟩
theorem case_le {W w : World} (h : Hp.le (whole W) w) {g : Nat} {T : Array CaseRow} (e : CaseVar g T W) : CaseVar g T w := by
 obtain ⟨R, oR, cap, h1, h2⟩ := e
 exact ⟨R, oR, cap, cell_le h h1, fun i hi => ⟨cell_le h (h2 i hi).1, cell_le h (h2 i hi).2.1, cell_le h (h2 i hi).2.2.1, cell_le h (h2 i hi).2.2.2.1, cell_le h (h2 i hi).2.2.2.2⟩⟩
theorem tabs_of {W : World} (hL : laidMet Tryz.prog laidList W) : TabX (whole W) := by
 have h1 := Lib.laidMet.reads hL (.tail _ (.tail _ (.tail _ (.head _))))
 have h2 := Lib.laidMet.reads hL (.tail _ (.tail _ (.tail _ (.tail _ (.tail _ (.tail _ (.tail _ (.tail _ (.tail _ (.tail _ (.head _)))))))))))
 have hp := Lib.laidMet.reads hL (.tail _ (.tail _ (.tail _ (.tail _ (.tail _ (.tail _ (.head _)))))))
 have hc := Lib.laidMet.reads hL (.tail _ (.tail _ (.tail _ (.tail _ (.tail _ (.tail _ (.tail _ (.head _))))))))
 have hd := Lib.laidMet.reads hL (.tail _ (.tail _ (.tail _ (.tail _ (.tail _ (.tail _ (.tail _ (.tail _ (.head _)))))))))
 have hl := Lib.laidMet.reads hL (.tail _ (.tail _ (.tail _ (.tail _ (.tail _ (.tail _ (.tail _ (.tail _ (.tail _ (.head _))))))))))
 have h : Lib.Utf8Tabs (Tryz.laysValid_ren.g 3) (Tryz.laysValid_ren.g 4) W := utf8Tabs_of_readsT (U8Types.of196 Tryz.laysValid) ⟨by kernel_rfl, by kernel_rfl, by kernel_rfl, by kernel_rfl, by kernel_rfl, by kernel_rfl, by kernel_rfl⟩ h2 h1
 have hP : Lib.TabIs Tryz.prog W "unicode.properties" .u8 Lib.propertiesTab := by
   obtain ⟨g, t, cs, fuel, p, hg, hty, hvar, hdd⟩ := hp
   have eg : Tryz.prog.globalNamed "unicode.properties" = some 6 := by kernel_rfl
   have et : (Tryz.prog.globals[6]?).map (·.type) = some 176 := by kernel_rfl
   obtain rfl := Option.some.inj (eg.symm.trans hg)
   obtain rfl := Option.some.inj (et.symm.trans hty)
   unfold Lib.TabIs
   rw [hvar, ← cells_of_tab Tryz.underlying176 Tryz.underlying5 (by kernel_rfl) (by kernel_rfl) hdd]
 have hLt := rvar_of_reads { Tryz.laysLetter with } xL (g := Tryz.laysLetter_ren.g 8) (by kernel_rfl) (by kernel_rfl) hl
 have hDt := rvar_of_reads { Tryz.laysDigit with } xD (g := Tryz.laysDigit_ren.g 5) (by kernel_rfl) (by kernel_rfl) hd
 have hCt := caseVar_of_reads { Tryz.laysLower with } (by kernel_rfl) xC hc
 exact ⟨fun w hle => ⟨fun c hc => cell_le hle (h.1 c hc), fun i hi => ⟨cell_le hle (h.2 i hi).1, cell_le hle (h.2 i hi).2⟩⟩, fun w hle => ⟨var_le hle hP, rvar_le hle hLt, rvar_le hle hDt, case_le hle hCt⟩⟩
theorem calls_of {P : Program} {f : FuncId} {args : List Value} {W : World} (c : Ct P f args [ro (whole W)] (fun v hs => v = .bool true ∧ hs = [ro (whole W)])) :
   Calls P f args.toArray W fun e W' => e = .returned (.bool true) ∧ Below W.heap.size W W' :=
 (c.calls W W [] (Sat.start W)).mono fun e W' ⟨v, hs, he, ⟨hv, hhs⟩, hsat⟩ => by
   subst hv; subst hhs
   exact ⟨he, Sat.below hsat⟩
theorem opn_int (W : World) : Opn Tryz.prog W 3 intC (fun i => (Lit.int .i64 i).wf = true) := Opn.int Tryz.underlying3
theorem opn_ints (W : World) : Opn Tryz.prog W 30 slC (SlGood W 1 intC (fun i => (Lit.int .i64 i).wf = true)) := Opn.slice Tryz.underlying30 (by kernel_rfl) (by decide) (opn_int W)
end Go.Proofs.YtflfhpokmidnmaaGreatDoor
