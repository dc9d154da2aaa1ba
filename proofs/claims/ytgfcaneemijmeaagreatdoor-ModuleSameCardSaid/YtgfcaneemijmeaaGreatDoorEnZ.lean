/- The chapter's examples, joined: their contract. -/
import Derived.Lib.Bytealg
import Derived.Laws.Externs
import Derived.Calls
import Derived.Below
import Derived.Test.YtgfcaneemijmeaaGreatDoorEnC
import Derived.Test.YtgfcaneemijmeaaGreatDoorPcX0
import Derived.Test.YtgfcaneemijmeaaGreatDoorPcX1
import Derived.Test.YtgfcaneemijmeaaGreatDoorPcX2
import Derived.Test.YtgfcaneemijmeaaGreatDoorPcX3
import Derived.Test.YtgfcaneemijmeaaGreatDoorPcX4
import Derived.Test.YtgfcaneemijmeaaGreatDoorPcX5
set_option linter.unusedVariables false
set_option linter.unusedSimpArgs false
section
namespace Go.Eng
variable {P : Program} {T : Tab} {φ : Phi} {w : World}
def extSem : Nat → Array Value → Sem Value
  | 0 => Extern.BytealgIndexByte.indexByte
  | 1 => Extern.BytealgCompare.compare
  | _ => Extern.AbiNoEscape.same
def ExtIs (P : Program) (f e : Nat) : Prop := ∃ fn, P.funcs[f]? = some fn ∧ (fn.name == "runtime.NumGoroutine") = false ∧ fn.body.isNone = true ∧ Extern.findNext fn = none ∧ Extern.find fn = some (extSem e)
theorem idxByte_eq (c : UInt8) : ∀ (l : List UInt8) (i : Nat), dI (idxByte c.toNat (l.map (·.toNat)) i) = if Lib.indexByte l c = -1 then -1 else Lib.indexByte l c + i
  | [], i => by simp [idxByte, Lib.indexByte, dI, off63]
  | b :: l, i => by
    have hge := Lib.indexByte_ge l c
    have e0 : Lib.indexByte (b :: l) c = if b == c then 0 else if Lib.indexByte l c == -1 then -1 else Lib.indexByte l c + 1 := rfl
    have ih := idxByte_eq c l (i + 1)
    generalize Lib.indexByte (b :: l) c = z at *
    generalize Lib.indexByte l c = y at *
    simp only [List.map_cons, idxByte]
    by_cases h : b = c
    · subst h
      rw [if_pos rfl]
      have : z = 0 := by rw [e0]; simp
      subst this
      simp [dI, off63]
    · have h1 : ¬ b.toNat = c.toNat := fun e => h (UInt8.toNat_inj.1 e)
      have h2 : (b == c) = false := by simpa using h
      rw [if_neg h1, ih]
      rw [h2] at e0
      simp only [Bool.false_eq_true, if_false] at e0
      by_cases h3 : y = -1
      · have : z = -1 := by rw [e0, h3]; rfl
        rw [if_pos h3, if_pos this]
      · have h4 : (y == -1) = false := by simpa using h3
        rw [h4] at e0
        simp only [Bool.false_eq_true, if_false] at e0
        rw [if_neg h3, if_neg (by omega)]
        omega
theorem compare_eq : ∀ (a b : List UInt8), Lib.compareBytes a b = if Op.bytesLess a b then -1 else if a = b then 0 else 1
  | [], [] => by simp [Lib.compareBytes, Op.bytesLess]
  | [], _ :: _ => by simp [Lib.compareBytes, Op.bytesLess]
  | _ :: _, [] => by simp [Lib.compareBytes, Op.bytesLess]
  | x :: a, y :: b => by
    simp only [Lib.compareBytes, Op.bytesLess, compare_eq a b]
    by_cases h1 : x < y
    · simp [h1]
    · by_cases h2 : y < x
      · have h3 : ¬ x = y := fun e => by subst e; exact absurd h2 h1
        simp [h1, h2, h3]
      · have h3 : x = y := by
          apply UInt8.toNat_inj.1
          have a1 : ¬ x.toNat < y.toNat := fun h => h1 (UInt8.lt_iff_toNat_lt.2 h)
          have a2 : ¬ y.toNat < x.toNat := fun h => h2 (UInt8.lt_iff_toNat_lt.2 h)
          omega
        subst h3
        simp [h1]
theorem ext0 {f : Nat} {hh : H} {s c : V} {as_ : List Value} (hrun : ∀ (args : Array Value), (callFunc f args).run P w = ((extSem 0 args).run P w).andThen fun v w' => .ok (.value v) w') (hv : VRL φ [s, c] as_) :
    match extA 0 [s, c] hh with
    | .ok v h' => h' = hh ∧ ∃ c, (callFunc f as_.toArray).run P w = .ok (.value c) w ∧ VR φ v c
    | .pan _ _ => False
    | .fail => True := by
  cases hv with
  | cons hs hv =>
    cases hv with
    | cons hc hv =>
      cases hv
      simp only [extA]
      cases hvs : s.view <;> cases hvc : c.view <;> try trivial
      rename_i l x k cc
      obtain ⟨str, rfl, e1, e2⟩ := hs.str_inv hvs
      obtain ⟨κ, n, e3, e4, rfl⟩ := hc.int_inv hvc
      subst e3
      cases κ <;> try trivial
      simp only [kTo]
      by_cases hb : off63 ≤ cc ∧ cc < off63 + 256
      · rw [if_pos hb]
        refine ⟨rfl, .int .i64 (Lib.indexByte str.data.toList n.toNat.toUInt8), ?_, ?_⟩
        · rw [hrun]
          simp only [extSem]
          show ((Extern.BytealgIndexByte.indexByte #[.string str, .int .u8 n]).run P w).andThen _ = _
          rw [Lib.run_indexByteString]; rfl
        · refine .int (view_int _ _) ?_
          have hn : n.toNat = cc - off63 := by
            rw [← e4]
            unfold dI
            generalize off63 = o at *
            omega
          have hc8 : (n.toNat.toUInt8).toNat = cc - off63 := by
            rw [hn]
            simp only [Nat.toUInt8, UInt8.toNat_ofNat']
            generalize off63 = o at *
            omega
          have hu : unpackN x l = str.data.toList.map (·.toNat) := by
            rw [← e2, ← e1, ← bytesL_length, unpackN_packL _ (bytesL_bytes str)]; rfl
          rw [hu, ← hc8, idxByte_eq]
          split
          · rename_i e; rw [e]
          · simp
      · rw [if_neg hb]; trivial
theorem ext1 {f : Nat} {hh : H} {s t : V} {as_ : List Value} (hrun : ∀ (args : Array Value), (callFunc f args).run P w = ((extSem 1 args).run P w).andThen fun v w' => .ok (.value v) w') (hv : VRL φ [s, t] as_) :
    match extA 1 [s, t] hh with
    | .ok v h' => h' = hh ∧ ∃ c, (callFunc f as_.toArray).run P w = .ok (.value c) w ∧ VR φ v c
    | .pan _ _ => False
    | .fail => True := by
  cases hv with
  | cons hs hv =>
    cases hv with
    | cons ht hv =>
      cases hv
      simp only [extA]
      cases hvs : s.view <;> cases hvt : t.view <;> try trivial
      rename_i l x m y
      obtain ⟨a, rfl, e1, e2⟩ := hs.str_inv hvs
      obtain ⟨b, rfl, e3, e4⟩ := ht.str_inv hvt
      refine ⟨rfl, .int .i64 (Lib.compareBytes a.data.toList b.data.toList), ?_, ?_⟩
      · rw [hrun]
        simp only [extSem]
        show ((Extern.BytealgCompare.compare #[.string a, .string b]).run P w).andThen _ = _
        rw [Lib.run_compareString]; rfl
      · refine .int (view_int _ _) ?_
        have hl := str_lt e1 e2 e3 e4
        have he := str_eq e1 e2 e3 e4
        rw [compare_eq, ← ByteArray.toList_eq, ← ByteArray.toList_eq, hl]
        cases strLt l x m y with
        | true => simp [dI, off63]
        | false =>
          simp only [Bool.false_eq_true, if_false]
          rw [← he]
          by_cases hab : a.toList = b.toList
          · simp [hab, dI, off63]
          · have : (a.toList == b.toList) = false := by simpa using hab
            simp [hab, this, dI, off63]
theorem ext2 {f : Nat} {hh : H} {v : V} {as_ : List Value} (hrun : ∀ (args : Array Value), (callFunc f args).run P w = ((extSem 2 args).run P w).andThen fun v w' => .ok (.value v) w') (hv : VRL φ [v] as_) :
    match extA 2 [v] hh with
    | .ok v h' => h' = hh ∧ ∃ c, (callFunc f as_.toArray).run P w = .ok (.value c) w ∧ VR φ v c
    | .pan _ _ => False
    | .fail => True := by
  cases hv with
  | cons hv hv2 =>
    cases hv2
    rename_i c
    refine And.intro rfl ⟨c, ?_, hv⟩
    rw [hrun]
    rfl
theorem extOK_of (h : ∀ f e, T.ext f = some e → ExtIs P f e) : ExtOK P T := by
  intro f e hfe cs φ hh w args as_ hr hv
  obtain ⟨fn, h1, h2, h3, h4, h5⟩ := h f e hfe
  have hrun := fun (args : Array Value) => run_callFunc_extern h1 h2 h3 h4 h5 args w
  rcases e with _ | _ | _ | e <;> rcases args with _ | ⟨s, _ | ⟨t, _ | ⟨u, r⟩⟩⟩ <;> first
    | trivial
    | exact ext0 hrun hv
    | exact ext1 hrun hv
    | exact ext2 hrun hv
end Go.Eng
end
section
namespace Go.Eng
theorem lenT : PP.types.toList.length < 4096 := of_decide_eq_true (by kernel_rfl)
theorem lenF' : PP.funcs.toList.length < 4096 := of_decide_eq_true (by kernel_rfl)
theorem mixedPP : PP.follows .mixedOrders = true := by kernel_rfl
theorem treesPP : RR.OK PP := treesOf_ok lenT lenF'
theorem tabPP : TabOK PP TT := tabT_ok treesPP glN unsN extN
theorem ext385 : ExtIs PP 385 0 := ⟨Go.Proofs.Tryz.f385, by kernel_rfl, by kernel_rfl, by kernel_rfl, by kernel_rfl, by kernel_rfl⟩
theorem ext206 : ExtIs PP 206 1 := ⟨Go.Proofs.Tryz.f206, by kernel_rfl, by kernel_rfl, by kernel_rfl, by kernel_rfl, by kernel_rfl⟩
theorem ext455 : ExtIs PP 455 2 := ⟨Go.Proofs.Tryz.f455, by kernel_rfl, by kernel_rfl, by kernel_rfl, by kernel_rfl, by kernel_rfl⟩
theorem extPP : ExtOK PP TT := extOK_of fun f e h => by
  have h : extN f = some e := h
  unfold extN at h
  cases h1 : Nat.beq f 385 with
  | true =>
    rw [h1] at h
    cases h
    rw [Nat.eq_of_beq_eq_true h1]
    exact ext385
  | false =>
    rw [h1] at h
    cases h2 : Nat.beq f 206 with
    | true =>
      rw [h2] at h
      cases h
      rw [Nat.eq_of_beq_eq_true h2]
      exact ext206
    | false =>
      rw [h2] at h
      cases h3 : Nat.beq f 455 with
      | true =>
        rw [h3] at h
        cases h
        rw [Nat.eq_of_beq_eq_true h3]
        exact ext455
      | false =>
        rw [h3] at h
        cases h
abbrev DD : Nat → Array Oper → List IOper → Prop := fun N ops ios => cDraw TT N ops = some ios
theorem envPP {l : List Piece} (hl : ∀ S ∈ l, FnIn PP S.f ∧ HookOK PP (sitesOf PP) TT S.f S.hook) : EnvOK PP (sitesOf PP) TT (EE l) DD := by
  unfold EE
  rw [envT_eq treesPP]
  exact envOf_ok tabPP extPP mixedPP fun h => hooksOf_ok hl h
theorem piecePP {l : List Piece} (hl : ∀ S ∈ l, FnIn PP S.f ∧ HookOK PP (sitesOf PP) TT S.f S.hook) {S : Piece} (hw : S.wf = true) (hr : okR (S.run (EE l) 201) = true) : FnIn PP S.f ∧ HookOK PP (sitesOf PP) TT S.f S.hook :=
  S.hook_ok (Piece.wf_ok hw) tabPP extPP (envPP hl) hr
theorem none_ok : ∀ S ∈ ([] : List Piece), FnIn PP S.f ∧ HookOK PP (sitesOf PP) TT S.f S.hook := fun _ h => absurd h List.not_mem_nil
theorem env1_ok : ∀ S ∈ env1, FnIn PP S.f ∧ HookOK PP (sitesOf PP) TT S.f S.hook := none_ok
theorem pc0_wf : pc0.wf = true := by kernel_rfl
theorem pc1_wf : pc1.wf = true := by kernel_rfl
theorem pc2_wf : pc2.wf = true := by kernel_rfl
theorem pc4_wf : pc4.wf = true := by kernel_rfl
theorem pc5_wf : pc5.wf = true := by kernel_rfl
theorem pc6_wf : pc6.wf = true := by kernel_rfl
theorem pc8_wf : pc8.wf = true := by kernel_rfl
theorem pc9_wf : pc9.wf = true := by kernel_rfl
theorem pc10_wf : pc10.wf = true := by kernel_rfl
theorem pc12_wf : pc12.wf = true := by kernel_rfl
theorem pc14_wf : pc14.wf = true := by kernel_rfl
theorem pc17_wf : pc17.wf = true := by kernel_rfl
theorem pc18_wf : pc18.wf = true := by kernel_rfl
theorem pc19_wf : pc19.wf = true := by kernel_rfl
theorem pc21_wf : pc21.wf = true := by kernel_rfl
theorem pc22_wf : pc22.wf = true := by kernel_rfl
theorem pc23_wf : pc23.wf = true := by kernel_rfl
theorem pc25_wf : pc25.wf = true := by kernel_rfl
theorem lev1_ok : ∀ S ∈ lev1, FnIn PP S.f ∧ HookOK PP (sitesOf PP) TT S.f S.hook := (List.forall_mem_cons.2 ⟨piecePP env1_ok pc0_wf pc0_run, (List.forall_mem_cons.2 ⟨piecePP env1_ok pc1_wf pc1_run, (List.forall_mem_cons.2 ⟨piecePP env1_ok pc2_wf pc2_run, (List.forall_mem_cons.2 ⟨piecePP env1_ok pc4_wf pc4_run, (List.forall_mem_cons.2 ⟨piecePP env1_ok pc5_wf pc5_run, (List.forall_mem_cons.2 ⟨piecePP env1_ok pc6_wf pc6_run, (List.forall_mem_cons.2 ⟨piecePP env1_ok pc8_wf pc8_run, (List.forall_mem_cons.2 ⟨piecePP env1_ok pc9_wf pc9_run, (List.forall_mem_cons.2 ⟨piecePP env1_ok pc10_wf pc10_run, (List.forall_mem_cons.2 ⟨piecePP env1_ok pc12_wf pc12_run, (List.forall_mem_cons.2 ⟨piecePP env1_ok pc14_wf pc14_run, (List.forall_mem_cons.2 ⟨piecePP env1_ok pc17_wf pc17_run, (List.forall_mem_cons.2 ⟨piecePP env1_ok pc18_wf pc18_run, (List.forall_mem_cons.2 ⟨piecePP env1_ok pc19_wf pc19_run, (List.forall_mem_cons.2 ⟨piecePP env1_ok pc21_wf pc21_run, (List.forall_mem_cons.2 ⟨piecePP env1_ok pc22_wf pc22_run, (List.forall_mem_cons.2 ⟨piecePP env1_ok pc23_wf pc23_run, (List.forall_mem_cons.2 ⟨piecePP env1_ok pc25_wf pc25_run, none_ok⟩)⟩)⟩)⟩)⟩)⟩)⟩)⟩)⟩)⟩)⟩)⟩)⟩)⟩)⟩)⟩)⟩)⟩)
theorem env2_ok : ∀ S ∈ env2, FnIn PP S.f ∧ HookOK PP (sitesOf PP) TT S.f S.hook := lev1_ok
theorem pc3_wf : pc3.wf = true := by kernel_rfl
theorem pc7_wf : pc7.wf = true := by kernel_rfl
theorem pc11_wf : pc11.wf = true := by kernel_rfl
theorem pc15_wf : pc15.wf = true := by kernel_rfl
theorem pc20_wf : pc20.wf = true := by kernel_rfl
theorem pc24_wf : pc24.wf = true := by kernel_rfl
theorem lev2_ok : ∀ S ∈ lev2, FnIn PP S.f ∧ HookOK PP (sitesOf PP) TT S.f S.hook := (List.forall_mem_cons.2 ⟨piecePP env2_ok pc3_wf pc3_run, (List.forall_mem_cons.2 ⟨piecePP env2_ok pc7_wf pc7_run, (List.forall_mem_cons.2 ⟨piecePP env2_ok pc11_wf pc11_run, (List.forall_mem_cons.2 ⟨piecePP env2_ok pc15_wf pc15_run, (List.forall_mem_cons.2 ⟨piecePP env2_ok pc20_wf pc20_run, (List.forall_mem_cons.2 ⟨piecePP env2_ok pc24_wf pc24_run, none_ok⟩)⟩)⟩)⟩)⟩)⟩)
theorem env3_ok : ∀ S ∈ env3, FnIn PP S.f ∧ HookOK PP (sitesOf PP) TT S.f S.hook := fun S hS => (List.mem_append.1 hS).elim (fun h => env2_ok S h) (fun h => lev2_ok S h)
theorem pc13_wf : pc13.wf = true := by kernel_rfl
theorem pc16_wf : pc16.wf = true := by kernel_rfl
theorem pc26_wf : pc26.wf = true := by kernel_rfl
theorem lev3_ok : ∀ S ∈ lev3, FnIn PP S.f ∧ HookOK PP (sitesOf PP) TT S.f S.hook := (List.forall_mem_cons.2 ⟨piecePP env3_ok pc13_wf pc13_run, (List.forall_mem_cons.2 ⟨piecePP env3_ok pc16_wf pc16_run, (List.forall_mem_cons.2 ⟨piecePP env3_ok pc26_wf pc26_run, none_ok⟩)⟩)⟩)
theorem env4_ok : ∀ S ∈ env4, FnIn PP S.f ∧ HookOK PP (sitesOf PP) TT S.f S.hook := fun S hS => (List.mem_append.1 hS).elim (fun h => env3_ok S h) (fun h => lev3_ok S h)
noncomputable def pcW : Piece where
  f := 7
  n := 8
  args := []
  ro := [(⟨.d0, .d0, .d0, .d0, .d0⟩, roB signsB), (⟨.d2, .d0, .d0, .d0, .d0⟩, roB keysB)]
  rw := []
  v := kB 1
  out := []
  next := 11873
theorem pcW_wf : pcW.wf = true := by kernel_rfl
theorem pcW_run : okR (pcW.run (EE env4) 201) = true := by kernel_rfl
theorem pcW_ok : FnIn PP pcW.f ∧ HookOK PP (sitesOf PP) TT pcW.f pcW.hook := piecePP (l := env4) (S := pcW) env4_ok pcW_wf pcW_run
theorem pcW_fits : pcW.fits pcW.hin [] = true := by kernel_rfl
end Go.Eng
end
section
namespace Go.Eng
open Go.RowKit
def strV (l : List UInt8) : Value := .string ⟨l.toArray⟩
def signsL : List (List UInt8) := [[58, 58], [61, 61], [60, 58], [124], [123], [125], [40], [41], [91], [93], [44], [58], [46], [61], [43], [60]]
def keysL : List (List UInt8) := [[109, 111, 100, 117, 108, 101], [105, 109, 112, 111, 114, 116], [116, 121, 112, 101], [102, 110], [108, 101, 116], [105, 110], [105, 102], [116, 104, 101, 110], [101, 108, 115, 101], [105, 115], [97, 115], [116, 114, 117, 101], [102, 97, 108, 115, 101], [110, 117, 108, 108], [100, 121, 110], [98, 111, 111, 108], [105, 110, 116], [114, 101, 99]]
structure TablesIn (w : World) : Prop where
  signs : ∃ t fr, w.heap[0]? = some (.cells (signsL.map strV).toArray t fr)
  keys : ∃ t fr, w.heap[2]? = some (.cells (keysL.map strV).toArray t fr)
  size : 8 ≤ w.heap.size
def phi8 : Phi := fun b => if b.nat < 8 then some ⟨b.nat, 0, 0⟩ else none
theorem glPhi : GL phi8 TT := by
  intro g b hb
  have hb : glN g = some b := hb
  unfold glN at hb
  cases h1 : Nat.blt g 8 with
  | false => rw [h1] at hb; cases hb
  | true =>
    rw [h1] at hb
    have e : fId g = b := by simpa using hb
    have hlt : g < 8 := blt_iff.1 h1
    have hn : b.nat = g := by rw [← e, fId_ok, Id.nat_of _ (by unfold Id.max; omega)]
    exact ⟨⟨b.nat, 0, 0⟩, by unfold phi8; rw [if_pos (by omega)], hn, rfl⟩
theorem strV_ok (φ : Phi) (s : List UInt8) : VR φ (kS s.length (packL (s.map (·.toNat)))) (strV s) := by
  refine .str (l := s.length) (x := packL (s.map (·.toNat))) rfl ?_ ?_
  · simp [ByteArray.size]
  · simp [bytesL]
theorem row_ok {cs : Nat → Option CSite} {φ : Phi} {w : World} {cb : CB} {l : List (List UInt8)} {t : TypeId} {fr : Nat × Nat} {vs : List V} {n e : Nat} (hw : w.heap[cb.blk]? = some (.cells (l.map strV).toArray t fr)) (ho : cb.off = 0)
    (hv : vs = l.map fun s => kS s.length (packL (s.map (·.toNat)))) (hl : vs.length ≤ 4164) (hn : n = l.length) : BR cs φ w cb (.tab n (mkCells vs) e) := by
  subst hn
  have hlen : vs.length = l.length := by rw [hv]; simp
  refine ⟨_, t, fr, hw, by simp [ho], fun i hi => ?_⟩
  have hg : (mkCells vs).get i = kS (l[i]).length (packL ((l[i]).map (·.toNat))) := by
    rw [mkCells_get hl i (by omega), hv, List.getD_eq_getElem?_getD, List.getElem?_map, List.getElem?_eq_getElem hi]
    rfl
  rw [hg, ho, Nat.zero_add]
  exact ⟨rfl, strV l[i], by simp [hi], strV_ok φ _⟩
theorem hin0 : pcW.hin.blk ⟨.d0, .d0, .d0, .d0, .d0⟩ = roB signsB := by
  rw [pcW.hin_blk]
  rfl
theorem hin2 : pcW.hin.blk ⟨.d2, .d0, .d0, .d0, .d0⟩ = roB keysB := by
  rw [pcW.hin_blk]
  rfl
theorem hin_else {i : Go.Eng.Id} (h0 : i ≠ ⟨.d0, .d0, .d0, .d0, .d0⟩) (h2 : i ≠ ⟨.d2, .d0, .d0, .d0, .d0⟩) : pcW.hin.blk i = if i.nat < 8 then bIce else bDead := by
  rw [pcW.hin_blk]
  have e1 : atL pcW.rw i = none := rfl
  have e2 : atL pcW.ro i = none := by
    show (match (match (none : Option B) with
      | some x => some x
      | none => if i = (⟨.d2, .d0, .d0, .d0, .d0⟩ : Id) then some (roB keysB) else none) with
      | some x => some x
      | none => if i = (⟨.d0, .d0, .d0, .d0, .d0⟩ : Id) then some (roB signsB) else none) = none
    simp only [if_neg h2, if_neg h0]
  rw [e1, e2]
  rfl
theorem view_ro (b : B) : (roB b).view = .tab b.n b.c b.elem := rfl
theorem hrW {w : World} (h : TablesIn w) : HR (sitesOf PP) phi8 pcW.hin w := by
  obtain ⟨⟨t, fr, h1⟩, ⟨t', fr', h2⟩, h3⟩ := h
  have hphi : ∀ b cb, phi8 b = some cb → b.nat < 8 ∧ cb = ⟨b.nat, 0, 0⟩ := by
    intro b cb hb
    unfold phi8 at hb
    split at hb
    · cases hb; exact ⟨‹_›, rfl⟩
    · cases hb
  refine ⟨fun b cb hb => (hphi b cb hb).1, fun b cb hb => ?_, fun b1 b2 c1 c2 k1 k2 d1 d2 hc => ?_, ?_, fun b hb => ?_⟩
  · obtain ⟨hlt, rfl⟩ := hphi b cb hb
    by_cases e0 : b = ⟨.d0, .d0, .d0, .d0, .d0⟩
    · subst e0
      rw [hin0, view_ro]
      exact row_ok (l := signsL) (t := t) (fr := fr) h1 rfl (by kernel_rfl) (by decide) (by kernel_rfl)
    · by_cases e2 : b = ⟨.d2, .d0, .d0, .d0, .d0⟩
      · subst e2
        rw [hin2, view_ro]
        exact row_ok (l := keysL) (t := t') (fr := fr') h2 rfl (by kernel_rfl) (by decide) (by kernel_rfl)
      · rw [hin_else e0 e2, if_pos hlt]
        trivial
  · obtain ⟨_, rfl⟩ := hphi b1 c1 k1
    obtain ⟨_, rfl⟩ := hphi b2 c2 k2
    exact Id.nat_inj hc
  · show (8 : Nat) ≤ Id.max
    decide
  · have hb : 8 ≤ b.nat := hb
    rw [hin_else (fun e => by rw [e] at hb; exact absurd hb (by decide)) (fun e => by rw [e] at hb; exact absurd hb (by decide)), if_neg (by omega)]
    rfl
theorem hin_tab {b : Go.Eng.Id} (hb : b.nat < 8) : (pcW.hin.blk b).view.isTab = true := by
  by_cases e0 : b = ⟨.d0, .d0, .d0, .d0, .d0⟩
  · rw [e0, hin0]; rfl
  · by_cases e2 : b = ⟨.d2, .d0, .d0, .d0, .d0⟩
    · rw [e2, hin2]; rfl
    · rw [hin_else e0 e2, if_pos hb]; rfl
theorem works_calls {w : World} (h : TablesIn w) : Calls PP 7 #[] w fun e w' => e = .returned (.bool true) ∧ Below w.heap.size w w' := by
  intro cl
  have hends := pcW_ok.2 (κ := .normal) (cl := cl) (hrW h) glPhi .nil (.inl rfl) (.none rfl rfl (by cases cl <;> rfl))
  have hk : pcW.hook pcW.hin pcW.args = .ok pcW.v (pcW.hout pcW.hin) := by
    have := pcW_fits
    unfold Piece.hook
    rw [show pcW.args = [] from rfl, this]
    rfl
  rw [show pcW.args = [] from rfl] at hk
  rw [hk] at hends
  obtain ⟨c, w', fr, cl', ψ, e1, e2, e3, e4, e5, e6, e7⟩ := hends
  have hcl : cl' = cl := (e7.same_of (by show (0 : Nat) ≠ 13; decide)).1
  subst hcl
  have hc : c = .bool true := e6.bool_inv (b := true) rfl
  subst hc
  refine ⟨.returned (.bool true), w', fr, ⟨rfl, e5.os, e5.tape, e5.output, e5.size, fun k hk => ?_⟩, e1, e3, ?_⟩
  · exact (e5.frame k hk fun b cb hb _ => hin_tab (by
      unfold phi8 at hb
      split at hb
      · assumption
      · cases hb)).1
  · obtain ⟨q1, q2, q3, fn, q4, q5⟩ := e2
    exact ⟨q1, q2, q3, fn, q4, q5⟩
end Go.Eng
end
