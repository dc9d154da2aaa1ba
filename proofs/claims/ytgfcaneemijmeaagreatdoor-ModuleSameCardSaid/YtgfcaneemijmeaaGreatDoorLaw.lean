/- For every two reports the law armillarylaw17.ModuleSame returns true, and both arguments read behind the call as before it. Conditions: the seven listed package variables hold what the program's text lays (the card ties them to the text); none other. -/
import Derived.Test.YtgfcaneemijmeaaGreatDoorRows
import Derived.Test.YtgfcaneemijmeaaGreatDoorWit
import Derived.Test.YtgfcaneemijmeaaGreatDoorFactA
import Derived.Test.YtgfcaneemijmeaaGreatDoorFactB
import Derived.Test.YtgfcaneemijmeaaGreatDoorFactC
import Derived.Test.YtgfcaneemijmeaaGreatDoorCards
import Derived.Test.YtgfcaneemijmeaaGreatDoorPure
import Derived.WalkKit
import Derived.ProofKit
import Derived.OpenShut
import Derived.ShutString
import Derived.ChangeOld
import Derived.Below
import Derived.SizedLaws
import Derived.LaidLaws
import Derived.LaidMore
import Derived.Lay
import Derived.MakeChecks
import Derived.LaidHandle
import Derived.SevenTiedAt
import Derived.Lib.SmallJoins
import Derived.Deep.Slices
namespace Go.Proofs.YtgfcaneemijmeaaGreatDoor
open Go.ChangeShapes Go.WideShapes Go.ChangeAt Go.RowKit Go.Deep
open Go.ChangeMaps (open_string shut_string)
open Go.Proofs.YtgfcaneemijmeaaGreatDoor.PModuleSame Go.Proofs.YtgfcaneemijmeaaGreatDoorW.PrintWords
set_option linter.unusedVariables false

theorem own : ownKnob Tryz.prog.godebug = none := by kernel_rfl
theorem laidOut : laidOutB Tryz.prog = true := fact1

/-- A row of texts, out of what is listed of it. -/
theorem strs_of_laid {W : World} {t fuel : Nat} {cs : Array Value} {l : List (List UInt8)} {p : List MemPlace} (ht : Tryz.prog.underlying t = some (.array l.length 9)) (hct : Tryz.prog.cellsOf t = l.length)
    (hd : DataW.trod (fun _ => ()) Tryz.prog W 0 (fun _ => true) false fuel t cs.toList = some (.agg (l.map fun s => .lit (.string s)), p)) : cs = (l.map Go.Eng.strV).toArray := by
  obtain ⟨xs, m, _, ex, hcl, hl, hel⟩ := DataW.trod_array ht hd
  have c9 : Tryz.prog.cellsOf 9 = 1 := by kernel_rfl
  have e3 : xs.map (·.1) = l.map fun s => (DataW.lit (.string s) : DataW Unit) := (DataW.agg.inj (Prod.mk.inj ex).1).symm
  rw [hct] at hcl
  refine Array.ext' (List.ext_getElem? fun i => ?_)
  by_cases hi : i < l.length
  · have hE := hel i hi
    rw [c9, Nat.mul_one, List.getElem?_eq_getElem (by omega)] at hE
    obtain ⟨s, e1, e2, _⟩ := DataW.trod_string Tryz.underlying9 hE
    have e4 : (xs.map (·.1))[i]? = (l.map fun s => (DataW.lit (.string s) : DataW Unit))[i]? := by rw [e3]
    rw [List.getElem?_map, List.getElem?_map, List.getElem?_eq_getElem (by omega : i < xs.length), List.getElem?_eq_getElem hi, e2] at e4
    have hs : s.data.toList = l[i] := by simpa using e4
    have hc : cs.toList[i]? = some (.string s) := by
      have h0 : ((cs.toList.drop i).take 1)[0]? = some (.string s) := by rw [e1]; rfl
      simpa using h0
    rw [hc, List.getElem?_map, List.getElem?_eq_getElem hi, ← hs]
    simp [Go.Eng.strV]
  · rw [List.getElem?_eq_none (by omega), List.getElem?_eq_none (by simpa using hi)]

/-- What the listed variables give the walk. -/
theorem tables_of_laid {W : World} (h : laidMetH Tryz.prog Rows.moduleSameRow.laid W) : TablesIn W := by
  rw [MakeChecks.laidMetH_plain _ _ _ w_plain] at h
  obtain ⟨ps, ⟨g0, t0, cs0, fuel0, p0, q0, hg0, ht0, hv0, hd0, ⟨g2, t2, cs2, fuel2, p2, q2, hg2, ht2, hv2, hd2, ⟨_, _, _, _, _, _, _, _, _, _, ⟨_, _, _, _, _, _, _, _, _, _, ⟨_, _, _, _, _, _, _, _, _, _, ⟨_, _, _, _, _, _, _, _, _, _, ⟨g7, t7, cs7, fuel7, p7, q7, hg7, ht7, hv7, hd7, _, _⟩, _⟩, _⟩, _⟩, _⟩, _⟩, _⟩, _, _⟩ := h
  have k0 : Tryz.prog.globalNamed "armillary/lex.signs" = some 0 := by kernel_rfl
  have k2 : Tryz.prog.globalNamed "armillary/lex.keys" = some 2 := by kernel_rfl
  have k7 : Tryz.prog.globalNamed "math/bits.deBruijn64tab" = some 7 := by kernel_rfl
  obtain rfl := Option.some.inj (k0.symm.trans hg0)
  obtain rfl := Option.some.inj (k2.symm.trans hg2)
  obtain rfl := Option.some.inj ((show (Tryz.prog.globals[0]?).map (·.type) = some 290 by kernel_rfl).symm.trans ht0)
  obtain rfl := Option.some.inj ((show (Tryz.prog.globals[2]?).map (·.type) = some 383 by kernel_rfl).symm.trans ht2)
  have e0 := strs_of_laid (l := Go.Eng.signsL) Tryz.underlying290 (by kernel_rfl) hd0
  have e2 := strs_of_laid (l := Go.Eng.keysL) Tryz.underlying383 (by kernel_rfl) hd2
  have row : ∀ {n : String} {g : Nat} {cs : Array Value}, Tryz.prog.globalNamed n = some g → W.var? Tryz.prog n = some cs → ∃ t fr, W.heap[g]? = some (.cells cs t fr) := by
    intro n g cs hn hv
    unfold World.var? at hv
    rw [hn] at hv
    simp only [Option.bind_some] at hv
    split at hv
    · rename_i cs' t fr he
      cases hv
      exact ⟨t, fr, he⟩
    · cases hv
  obtain ⟨a0, b0, r0⟩ := row k0 hv0
  obtain ⟨a2, b2, r2⟩ := row k2 hv2
  obtain ⟨a7, b7, r7⟩ := row k7 hv7
  refine ⟨⟨a0, b0, by rw [r0, e0]⟩, ⟨a2, b2, by rw [r2, e2]⟩, ?_⟩
  have := (Array.getElem?_eq_some_iff.1 r7).1
  omega

/-- A slice of octets that is read. -/
theorem open_octets {H : Type} {enc : TypeId × Value → H} {W : World} {fuel : Nat} {v : Value} {x : DataW H × List MemPlace} (h : DataW.trod enc Tryz.prog W 0 (fun _ => true) true fuel 23 [v] = some x) :
    ∃ A c, ∃ l : List Int, v = .slice A l.length c ∧ Kd.C (Kd.int .u8) W A l.length l ∧ l.length ≤ c := by
  rcases open_ints Tryz.underlying23 Tryz.underlying5 (by kernel_rfl) h with ⟨hcs, _⟩ | ⟨a, len, cap, zs, hcs, _, hl, hm, hz, _, hcell, _⟩
  · cases hcs
    exact ⟨none, 0, [], rfl, ⟨rfl, by simp, fun hp => absurd hp (by simp)⟩, by simp⟩
  · cases hcs
    have hz' : zs.length = cap := by simpa using hz
    have hlen : (zs.take len).length = len := by rw [List.length_take]; omega
    refine ⟨some a, cap, zs.take len, by rw [hlen], ⟨rfl, ?_, fun _ => ⟨a, rfl, fun j p hj => ?_⟩⟩, by omega⟩
    · rw [hlen]; exact Nat.le_trans (Nat.le_trans hl hm) (by unfold maxLen; decide)
    · have hjl : j < len := by have := (List.getElem?_eq_some_iff.1 hj).1; omega
      have hp : zs.getD j 0 = p := by
        rw [List.getElem?_take_of_lt hjl] at hj
        rw [List.getD_eq_getElem?_getD, hj]; rfl
      refine ⟨[.int .u8 p], rfl, rfl, fun i u hu => ?_⟩
      cases i with
      | zero =>
        cases hu
        have := hcell j (by omega)
        rw [hp] at this
        have e1 : (Kd.int .u8).sz = 1 := rfl
        rw [e1, Nat.mul_one, Nat.add_zero]
        exact this
      | succ i => cases hu

/-- A slice of findings that is read. -/
theorem open_diags {H : Type} {enc : TypeId × Value → H} {W : World} {fuel : Nat} {v : Value} {x : DataW H × List MemPlace} (h : DataW.trod enc Tryz.prog W 0 (fun _ => true) true fuel 22 [v] = some x) :
    ∃ A c, ∃ l : List S32, v = .slice A l.length c ∧ Kd.C k32 W A l.length l ∧ l.length ≤ c := by
  rcases open_slice Tryz.underlying22 h with ⟨hcs, _⟩ | ⟨a, len, cap, m, n, D, Pl, hcs, _, hl, hm, hmm, _, hel⟩
  · cases hcs
    exact ⟨none, 0, [], rfl, ⟨rfl, by simp, fun hp => absurd hp (by simp)⟩, by simp⟩
  · cases hcs
    have hm' : m = cap := by simpa using hmm
    have c32 : Tryz.prog.cellsOf 32 = 3 := by kernel_rfl
    have each : ∀ i, i < len → ∃ s : S32, k32.K W s [.int .i64 s.f0, .int .i64 s.f1, .int .i64 s.f2] ∧ ∀ j u, ([.int .i64 s.f0, .int .i64 s.f1, .int .i64 s.f2] : List Value)[j]? = some u → W.cell? (a.add (i * 3 + j)) = some u := by
      intro i hi
      obtain ⟨cs', hcs, hd⟩ := hel i (by omega)
      rw [c32] at hcs
      obtain ⟨_, hlen, hcell⟩ := World.cells?_some hcs
      obtain ⟨y0, y1, y2, n', _, _, h0, h1, h2⟩ := trod_struct3 Tryz.underlying32 hd
      have c3 : Tryz.prog.cellsOf 3 = 1 := by kernel_rfl
      have c30 : Tryz.prog.cellsOf 30 = 1 := by kernel_rfl
      simp only [c3, c30, List.drop_zero] at h0 h1 h2
      obtain ⟨x0, e0, _, _⟩ := DataW.trod_int Tryz.underlying3 h0
      obtain ⟨x1, e1, _, _⟩ := DataW.trod_int Tryz.underlying3 h1
      obtain ⟨x2, e2, _, _⟩ := DataW.trod_int Tryz.underlying30 h2
      have g : ∀ (j : Nat) (z : Value), (cs'.drop j).take 1 = [z] → cs'[j]? = some z := fun j z hz => by
        have h0 : ((cs'.drop j).take 1)[0]? = some z := by rw [hz]; rfl
        simpa using h0
      refine ⟨⟨x0, x1, x2⟩, k32_mk W _, fun j u hu => ?_⟩
      have step : ∀ j, j < 3 → W.cell? (a.add (i * 3 + j)) = cs'[j]? := fun j hj => by rw [← hcell j hj, Addr.add_add]
      match j, hu with
      | 0, hu => cases hu; rw [step 0 (by omega)]; exact g 0 _ e0
      | 1, hu => cases hu; rw [step 1 (by omega)]; exact g 1 _ e1
      | 2, hu => cases hu; rw [step 2 (by omega)]; exact g 2 _ e2
    haveI : Inhabited S32 := ⟨z32⟩
    obtain ⟨f, hf⟩ := choose_lt (α := S32) each
    have hlen : ((List.range len).map f).length = len := by simp
    refine ⟨some a, cap, (List.range len).map f, by rw [hlen], ⟨rfl, ?_, fun _ => ⟨a, rfl, fun j p hj => ?_⟩⟩, by omega⟩
    · rw [hlen]; exact Nat.le_trans (Nat.le_trans hl hm) (by unfold maxLen; decide)
    · have hjl : j < len := by have := (List.getElem?_eq_some_iff.1 hj).1; omega
      have hp : f j = p := by simpa [hjl] using hj
      subst hp
      exact ⟨_, rfl, (hf j hjl).1, fun i u hu => (hf j hjl).2 i u hu⟩


set_option maxRecDepth 100000 in
/-- A report that is read. -/
theorem open_report {H : Type} {enc : TypeId × Value → H} {W : World} {r : Reach} {b0 : Nat} {v : Value} {d : DataW H} {p : List MemPlace} (hv : Value.okWide Tryz.prog W r b0 25 v) (h : DataW.Trod enc Tryz.prog W 0 (fun _ => true) true 25 v d p) :
    ∃ (s : ByteArray) (m : Int) (A : Option Addr) (c : Nat) (l : List S32) (B : Option Addr) (b : Nat) (z : List Int), v = .agg #[.string s, .int .i64 m, .slice A l.length c, .slice B z.length b] ∧ Kd.C k32 W A l.length l ∧ l.length ≤ c ∧ Kd.C (Kd.int .u8) W B z.length z ∧ z.length ≤ b := by
  obtain ⟨v0, v1, v2, v3, y0, y1, y2, y3, n, rfl, _, _, h0, h1, h2, h3⟩ := Go.Joins.open_agg4 Tryz.underlying25 (by kernel_rfl) (by kernel_rfl) hv h
  obtain ⟨s, e0, _, _⟩ := DataW.trod_string Tryz.underlying9 h0
  obtain ⟨m, e1, _, _⟩ := DataW.trod_int Tryz.underlying3 h1
  obtain ⟨A, c, l, rfl, q1, q2⟩ := open_diags h2
  obtain ⟨B, b, z, rfl, q3, q4⟩ := open_octets h3
  cases e0
  cases e1
  exact ⟨s, m, A, c, l, B, b, z, rfl, q1, q2, q3, q4⟩

set_option maxRecDepth 100000 in
theorem lifted (os : Os) (started : os.Started) (H : Type) (enc : TypeId × Value → H) :
    ReturnsInHanded {} Tryz.checked os 3 .any (fun w args => (Rows.moduleSameSpec.pre enc Tryz.prog Tryz.f3 Rows.moduleSameRow.domain false w args ∧ laidMetH Tryz.prog Rows.moduleSameRow.laid w) ∧ sizedMet enc Tryz.prog Tryz.f3 (OpenSpec.ofChange Rows.moduleSameSpec) false w args)
      (Rows.moduleSameSpec.post enc Tryz.prog Tryz.f3 false true false false) := by
  refine returnsInHanded_of_change_and (C := Tryz.checked) (X := fun w _ => laidMetH Tryz.prog Rows.moduleSameRow.laid w) (fun _ _ _ hh h => h.of_heap hh) own started (by kernel_rfl) Tryz.func3
    (ChangeSpec.witness_shaped (enc := enc) (C := Tryz.checked) (os := os) (X := fun w _ => laidMetH Tryz.prog Rows.moduleSameRow.laid w) false (laidW os) wArgs 8 (World.laidAll_os _ _ _)
      (World.shaped_of_ZipB (w_zip os) (w_rows os)) (w_ok os) (w_pre os enc) (w_sized os enc)
      (by rw [MakeChecks.laidMetH_plain _ _ _ w_plain]; exact laidMet_laidAll _ (w_fits os) (w_ifaces os))) ?_
  intro W base args ds gs before hval0 hW hc _ hL _
  have hval : ∀ (j : Nat) t v, Tryz.f3.params[j]? = some t → args[j]? = some v → Value.okWide Tryz.prog W .any base t v := hval0
  have hW' := hW
  obtain ⟨p, q, hA0, hV, rfl, hfz, hnd⟩ := hW
  have hA : DataW.TrodAll enc Tryz.prog W 0 (fun _ => true) true Tryz.f3.params.toList args.toList ds p := hA0
  rw [Tryz.params3] at hA hval
  obtain ⟨v0, v1, d0, d1, p0, p1, rfl, rfl, rfl, h0, h1⟩ := trodAll_two hA
  obtain ⟨rfl, rfl⟩ := trodVars_none hV
  obtain ⟨s, m, A, c, l, B, b, z, rfl, q1, q2, q3, q4⟩ := open_report (hval 0 25 v0 rfl rfl) h0
  obtain ⟨s', m', A', c', l', B', b', z', rfl, q1', q2', q3', q4'⟩ := open_report (hval 1 25 v1 rfl rfl) h1
  have lt0 : ∀ x ∈ p0, x.block < W.heap.size := by obtain ⟨n, hn⟩ := h0; exact DataW.trod_lt n _ _ _ hn
  have lt1 : ∀ x ∈ p1, x.block < W.heap.size := by obtain ⟨n, hn⟩ := h1; exact DataW.trod_lt n _ _ _ hn
  have hT := tables_of_laid hL
  clear hA0 hval0
  refine (armillarylaw17_ModuleSame.calls 100 s m A c l B b z s' m' A' c' l' B' b' z' true W hT q1 q2 q3 q4 q1' q2' q3' q4' (same_pure _ _ _ _ _ _ _ _)).mono fun e W' ⟨he, bel⟩ => ?_
  subst he
  exact ⟨_, rfl, _, _, _, [], _, [], hW', trodAll_mk1 (shut_bool Tryz.underlying4 _), trodAll_mk2 (Below.trod laidOut (by kernel_rfl) (of_decide_eq_true (by kernel_rfl)) h0 bel lt0) (Below.trod laidOut (by kernel_rfl) (of_decide_eq_true (by kernel_rfl)) h1 bel lt1), rfl, bel.frame _, fun h => by cases h⟩

theorem row_holds : Rows.ModuleSameSaid :=
  OpenClaim.holds_of_wide 3 Tryz.f3 rfl rfl rfl rfl rfl rfl rfl ⟨rfl, rfl, rfl, rfl, rfl⟩ rfl rfl rfl rfl rfl named3 Tryz.func3 closed
    (of_decide_eq_true (by kernel_rfl)) (by unfold Func.isWrapper; first | (rw [if_pos (by decide +kernel)]; kernel_rfl) | (rw [if_neg (by decide +kernel)]; exact ⟨rfl, rfl⟩))
    (fun os started H enc _ => lifted os started H enc)

/-- The tied card of the law. -/
theorem card_holds : Rows.ModuleSameCardSaid :=
  Claim7.holds_tied_plain_at .later [] [.data, .data, .sentinel, .sentinel, .data, .data, .data] true (true, "1b9a7ea7e9e0f5dca0937484c99634f9da6f501b54558e3123a9be663accec3a") true row_holds (fun _ h => by cases h) card_wf (fun _ h => by cases h) row_tied rfl ⟨rfl, rfl⟩ card_main rfl
    (fun f fn hf hfn => by
      obtain rfl : f = 3 := Option.some.inj (named3.symm.trans hf) |>.symm
      obtain rfl : fn = Tryz.f3 := (Option.some.inj (Tryz.func3.symm.trans hfn)).symm
      exact ⟨card_looks, fun j t ht => by
        rw [Tryz.params3] at ht
        have hm : t ∈ [25, 25] := by simpa using Array.mem_of_getElem? ht
        have h25 : t = 25 := by simpa using hm
        rw [h25]
        exact card_want⟩)
    card_goes
end Go.Proofs.YtgfcaneemijmeaaGreatDoor
