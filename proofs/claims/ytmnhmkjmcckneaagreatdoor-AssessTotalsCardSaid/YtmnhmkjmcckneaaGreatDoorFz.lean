/- The contract of feerule's why (walk). The contract of feerule's Apply (walk). -/
import Derived.Test.YtmnhmkjmcckneaaGreatDoorFx
import Derived.Test.YtmnhmkjmcckneaaGreatDoorEh
import Derived.Test.YtmnhmkjmcckneaaGreatDoorEi
import Derived.Lib.ItoaLen
import Derived.Deep.RegionHeld3
namespace Go.Proofs.YtmnhmkjmcckneaaGreatDoor
open Go.RowKit
theorem Ext.growO {a b : World} (h : Ext a b) (os : Array Obj) : Ext a (Go.«Sort».grow b os) := by
 refine ⟨h.os, h.tape, h.output, ?_, fun k hk => ?_⟩
 · have := h.size; simp [Go.«Sort».grow]; omega
 · have := h.size
   rw [← h.block k hk]
   simp only [Go.«Sort».grow]
   rw [Array.getElem?_append_left (by omega)]
/-- The table of powers of ten, as the program's text lays it. -/
def Gw (w : World) : Prop := Lib.TabIs Tryz.prog w "internal/strconv.uint64pow10" .u64 Lib.pow10Tab
theorem gPowE : Tryz.prog.globalNamed "internal/strconv.uint64pow10" = some 0 := by kernel_rfl
theorem var_lt {P : Program} {w : World} {n : String} {g : Nat} {cs : Array Value} (hg : P.globalNamed n = some g) (h : w.var? P n = some cs) : g < w.heap.size := by
 simp only [World.var?, hg, Option.bind_some] at h
 split at h
 · rename_i c t fr hb
   exact (Array.getElem?_eq_some_iff.1 hb).1
 · cases h
theorem Gw.ext {a b : World} (g : Gw a) (h : Ext a b) : Gw b := var?_below (B := a.heap.size) h gPowE (var_lt gPowE g) g
theorem fmt_any (n : Int) (h0 : -9223372036854775808 ≤ n) (h1 : n ≤ 9223372036854775807) (w : World) (g : Gw w) : Calls Tryz.prog 44 #[.int .i64 n, .int .i64 10] w (OneV (.string ⟨(Lib.itoa n).toArray⟩) w) := by
 refine (Tryz.strconv_FormatInt_10 n h0 h1 w g).mono ?_
 rintro e w' ⟨rfl, k, os, rfl⟩
 exact ⟨rfl, ((Ext.refl w).drewN k).growO os⟩
/-- A feature's value as text. -/
def valS (f : Feat) : ByteArray := if f.kind = 2 then f.text else ⟨(Lib.itoa f.n).toArray⟩
/-- What why says of a name. -/
def whyW (fs : List Feat) (nm : List UInt8) : List (List UInt8) := match idxN ⟨nm.toArray⟩ 0 fs with
 | none => []
 | some i => [bts (((⟨nm.toArray⟩ : ByteArray) ++ ⟨#[61]⟩) ++ valS (fs.getD i fD))]
def whyL (fs : List Feat) (ns : List (List UInt8)) : List (List UInt8) := ns.flatMap (whyW fs)
def whyV (fs : List Feat) (ns : List (List UInt8)) : ByteArray := ⟨(Lib.join (whyL fs ns) [32]).toArray⟩
theorem join_len (sep : List UInt8) : ∀ xs : List (List UInt8), (Lib.join xs sep).length ≤ Lib.lens xs + sep.length * xs.length
 | [] => by simp [Lib.join_nil]
 | x :: r => by
  rw [Lib.join_cons, List.length_append, Lib.joinTail_length]
  simp only [Lib.lens, List.map_cons, List.sum_cons, List.length_cons, Nat.mul_succ]
  omega
theorem lens_le (M : Nat) : ∀ xs : List (List UInt8), (∀ a ∈ xs, a.length ≤ M) → Lib.lens xs ≤ M * xs.length
 | [], _ => by simp [Lib.lens]
 | x :: r, h => by
  have h1 := h x (List.mem_cons_self ..)
  have h2 := lens_le M r (fun a ha => h a (List.mem_cons_of_mem _ ha))
  simp only [Lib.lens, List.map_cons, List.sum_cons, List.length_cons, Nat.mul_succ] at h2 ⊢
  omega
/-- What bounds the texts that why joins. -/
structure WhyOk (fs : List Feat) (ns : List (List UInt8)) : Prop where
 few : ns.length ≤ 1000000
 nm : ∀ a ∈ ns, a.length ≤ 100000
 tx : ∀ f ∈ fs, f.text.size ≤ 100000 ∧ -9223372036854775808 ≤ f.n ∧ f.n ≤ 9223372036854775807
theorem idxN_lt (nm : ByteArray) : ∀ (l : List Feat) (k i : Nat), idxN nm k l = some i → k ≤ i ∧ i < k + l.length
 | [], k, i, h => by cases h
 | f :: l, k, i, h => by
  rw [idxN] at h
  by_cases hp : f.name = nm
  · rw [if_pos hp] at h; injection h with h; subst h; simp
  · rw [if_neg hp] at h
    have := idxN_lt nm l (k + 1) i h
    simp only [List.length_cons]; omega
theorem valS_size {f : Feat} (h : f.text.size ≤ 100000 ∧ -9223372036854775808 ≤ f.n ∧ f.n ≤ 9223372036854775807) : (valS f).size ≤ 100000 := by
 unfold valS
 split
 · exact h.1
 · have := Lib.itoa_length_le f.n h.2.1 h.2.2
   show (Lib.itoa f.n).toArray.size ≤ 100000
   simp only [List.size_toArray]; omega
theorem whyW_le {fs : List Feat} {ns : List (List UInt8)} (h : WhyOk fs ns) {a : List UInt8} (ha : a ∈ ns) : (whyW fs a).length ≤ 1 ∧ ∀ b ∈ whyW fs a, b.length ≤ 200001 := by
 unfold whyW
 cases hi : idxN ⟨a.toArray⟩ 0 fs with
 | none => simp
 | some i =>
  have hlt := (idxN_lt _ fs 0 i hi).2
  have hm : fs.getD i fD ∈ fs := by
   rw [List.getD_eq_getElem?_getD, List.getElem?_eq_getElem (by omega), Option.getD_some]
   exact List.getElem_mem (by omega)
  have hv := valS_size (h.tx _ hm)
  have hn := h.nm a ha
  refine ⟨by simp, fun b hb => ?_⟩
  simp only [List.mem_singleton] at hb
  subst hb
  have e : (bts (((⟨a.toArray⟩ : ByteArray) ++ ⟨#[61]⟩) ++ valS (fs.getD i fD))).length = (((⟨a.toArray⟩ : ByteArray) ++ ⟨#[61]⟩) ++ valS (fs.getD i fD)).size := rfl
  rw [e, ByteArray.size_append, ByteArray.size_append]
  have e1 : (⟨a.toArray⟩ : ByteArray).size = a.length := by show a.toArray.size = _; simp
  have e2 : (⟨#[61]⟩ : ByteArray).size = 1 := rfl
  omega
theorem whyL_le {fs : List Feat} {ns : List (List UInt8)} (h : WhyOk fs ns) : ∀ r : List (List UInt8), (∀ a ∈ r, a ∈ ns) → (whyL fs r).length ≤ r.length ∧ ∀ b ∈ whyL fs r, b.length ≤ 200001
 | [], _ => by simp [whyL]
 | a :: r, hr => by
  obtain ⟨h1, h2⟩ := whyW_le h (hr a (List.mem_cons_self ..))
  obtain ⟨h3, h4⟩ := whyL_le h r (fun b hb => hr b (List.mem_cons_of_mem _ hb))
  unfold whyL at h3 h4 ⊢
  rw [List.flatMap_cons]
  refine ⟨by rw [List.length_append, List.length_cons]; omega, fun b hb => ?_⟩
  rcases List.mem_append.1 hb with hb | hb
  · exact h2 b hb
  · exact h4 b hb
theorem why_join {fs : List Feat} {ns : List (List UInt8)} (h : WhyOk fs ns) : (Lib.join (whyL fs ns) [32]).length ≤ 140737488355328 := by
 obtain ⟨h1, h2⟩ := whyL_le h ns (fun _ h => h)
 have h3 := join_len [32] (whyL fs ns)
 have h4 := lens_le 200001 _ h2
 have h5 := h.few
 have h6 : 200001 * (whyL fs ns).length ≤ 200001 * 1000000 := Nat.mul_le_mul_left _ (by omega)
 have h7 : ([32] : List UInt8).length = 1 := rfl
 rw [h7, Nat.one_mul] at h3
 omega
theorem whyL_snoc (fs : List Feat) (ns : List (List UInt8)) (k : Nat) (h : k < ns.length) : whyL fs (ns.take (k + 1)) = whyL fs (ns.take k) ++ whyW fs (ns.getD k []) := by
 unfold whyL
 rw [take_snocD ns [] k h, List.flatMap_append]
 simp
def WhyP (s : ByteArray) (w : World) (e : Ending) (w' : World) : Prop := e = .returned (.string s) ∧ Ext w w'
theorem join_own {w : World} {B : Nat} {vp : Option Addr} {vc : Nat} {acc : List (List UInt8)} (hown : w.ownsRow B 9 1 (.slice vp acc.length vc) acc.length (acc.map encStr)) (hl : acc.length ≤ 1000000) (hj : (Lib.join acc [32]).length ≤ 140737488355328) : Calls Tryz.prog 88 #[.slice vp acc.length vc, .string ⟨#[32]⟩] w (WhyP ⟨(Lib.join acc [32]).toArray⟩ w) := by
 by_cases h0 : acc = []
 · subst h0
   refine (Tryz.strings_Join_none vp vc ⟨#[32]⟩ w).mono ?_
   rintro e w' ⟨rfl, rfl⟩
   exact ⟨rfl, Ext.refl _⟩
 · have hpos : 0 < acc.length := List.length_pos_iff.2 h0
   obtain ⟨hx, ⟨hv, hn⟩ | ⟨g, cap, cur, hv, hb, hg, hn, -, hcs, ht⟩⟩ := hown
   · omega
   · injection hv with e1 e2 e3
     subst e1 e3
     have hm : (acc.map fun a => (⟨a.toArray⟩ : ByteArray)).map (fun s : ByteArray => s.data.toList) = acc := by
      rw [List.map_map]
      conv => rhs; rw [← List.map_id acc]
      exact List.map_congr_left fun a _ => by simp
     have k := Tryz.strings_Join g 0 vc (acc.map fun a => (⟨a.toArray⟩ : ByteArray)) ⟨#[32]⟩ w (fun j x hjx => by
      rw [List.getElem?_map, Option.map_eq_some_iff] at hjx
      obtain ⟨a, ha, rfl⟩ := hjx
      have hjl : j < acc.length := (List.getElem?_eq_some_iff.1 ha).1
      have hc : w.cell? ⟨g, 0 + j, none⟩ = cur[0 + j]? := Blk.cell hg (0 + j)
      rw [hc, Nat.zero_add, ← Array.getElem?_toList]
      have h2 : (cur.toList.take (acc.length * 1))[j]? = cur.toList[j]? := List.getElem?_take_of_lt (by omega)
      rw [← h2, ht, List.getElem?_map, ha]
      rfl) (Blk.lt hg) (by simp; omega) (by simpa using hn) (by rw [hm]; exact hj)
     rw [hm, List.length_map] at k
     refine k.mono ?_
     rintro e w' ⟨rfl, hE⟩
     exact ⟨rfl, hE⟩
set_option maxRecDepth 8000 in
set_option maxHeartbeats 4000000 in
theorem why_any (x : Ex) (q : Option Addr) (cp : Nat) (fsv : Value) (fs : List Feat) (w : World) (g : Gw w) (hF : Feats w fsv fs) (hX : ExS w (.slice q x.args.length cp) x.args) (hp : x.parts.length ≤ 1000000) (hok : WhyOk fs (uniL x.occ)) : Calls Tryz.prog 61 #[exAgg x (.slice q x.args.length cp), fsv] w (WhyP (whyV fs (uniL x.occ)) w) := by
 obtain ⟨i0, hi, hz0, hz1, hz2⟩ := info_partsE infoStrE
 replace hi := Lib.hid hi
 replace hz0 := Lib.hid hz0
 replace hz1 := Lib.hid hz1
 replace hz2 := Lib.hid hz2
 obtain ⟨fp, fc, rfl⟩ := hF.form
 have kN := Lib.hid (fun w1 h => names_fn (w := w1) (v := .slice q x.args.length cp) x h hp)
 have hj := Lib.hid (why_join hok)
 have hwl := Lib.hid (fun r h => whyL_le hok r h)
 have hRdef : whyV fs (uniL x.occ) = ⟨(Lib.join (whyL fs (uniL x.occ)) [32]).toArray⟩ := rfl
 generalize whyV fs (uniL x.occ) = R at *
 replace hRdef := Lib.hid hRdef
 generalize uniL x.occ = ns at *
 have hns := hok.few
 unfold exAgg
 go_enter Tryz.func61, Tryz.ntmps61
 go_wp2_with fail
 refine (kN.out _ (hX.ext xt)).mono ?_
 rintro e w0 ⟨vN, rfl, hN, hE1⟩
 have hE0 : Ext w w0 := Ext.trans xt hE1
 have g0 := Lib.hid (g.ext hE0)
 have hF0 := Lib.hid (hF.ext hE0)
 obtain ⟨pN, cN, rfl, hlN, hcN⟩ := hN
 replace hcN := Lib.hid hcN
 replace hE0 := Lib.hid hE0
 clear hE1 kN hX hF g
 go_wp2_with fail
 go_loopw [5, 13] (fun v i wr => ∃ k : Nat, k ≤ ns.length ∧ i = .int .i64 k ∧ wr.ownsRow w0.heap.size 9 1 v (whyL fs (ns.take k)).length ((whyL fs (ns.take k)).map encStr) ∧ Ext w0 wr) (fun _ i _ => ns.length - (intOf i).toNat)
 case atStart => exact ⟨0, Nat.zero_le _, rfl, ⟨rfl, Or.inl ⟨rfl, rfl⟩⟩, Ext.refl _⟩
 case round =>
  obtain ⟨k, hk, rfl, hown, hE⟩ := hrel
  obtain ⟨vp, vc, rfl⟩ := owns_formE hown
  replace hown := Lib.hid hown
  by_cases hlt : k < ns.length
  · obtain ⟨bN, oN, rfl, hc⟩ := hcN.out (by omega)
    have c0 := hE.get (hc k hlt)
    clear hc
    have hS := Lib.hid (whyL_snoc fs ns k hlt)
    have hwk := (hwl.out (ns.take k) (fun a ha => List.mem_of_mem_take ha)).1
    have hnk : ns.getD k [] ∈ ns := by
     rw [List.getD_eq_getElem?_getD, List.getElem?_eq_getElem hlt, Option.getD_some]
     exact List.getElem_mem hlt
    have hnl := hok.nm _ hnk
    have hw1 := (whyW_le hok hnk).2
    rw [List.length_take] at hwk
    generalize ns.getD k [] = nm at *
    unfold encStr at c0
    have hsz : (⟨nm.toArray⟩ : ByteArray).size ≤ 100000 := by show nm.toArray.size ≤ _; simp; omega
    have hL := (Blk.new wr #[.string ⟨nm.toArray⟩] 9)
    have kI := Lib.hid (index_name wr.heap.size ⟨nm.toArray⟩ (.slice fp fs.length fc) fs _ ((hF0.out.ext hE).ext ((Ext.refl wr).alloc (.cells #[.string ⟨nm.toArray⟩] 9))) ((hL.cell 0).trans rfl))
    have hWdef : whyW fs nm = match idxN ⟨nm.toArray⟩ 0 fs with | none => [] | some i => [bts (((⟨nm.toArray⟩ : ByteArray) ++ ⟨#[61]⟩) ++ valS (fs.getD i fD))] := rfl
    have hidx := idxN_lt ⟨nm.toArray⟩ fs 0
    generalize (⟨nm.toArray⟩ : ByteArray) = s at *
    generalize idxN s 0 fs = I at *
    replace hL := Lib.hid hL
    replace hWdef := Lib.hid hWdef
    go_wp2_with fail
    refine kI.out.mono ?_
    rintro e w2 ⟨rfl, hE2⟩
    have hL2 := hL.out.ext hE2
    have hE12 : Ext wr w2 := ((Ext.refl wr).alloc _).trans hE2
    replace hE := hE.trans hE12
    have hown2 := Lib.hid (ownsRow_extE hown.out hE12)
    have l0 : w2.cell? ⟨wr.heap.size, 0, none⟩ = some (.string s) := (hL2.cell 0).trans rfl
    have hs2 := hL2.lt
    clear hE2 hL kI hown c0 hE12
    cases I with
    | none =>
     have d : decide (idxI none < (0 : Int)) = true := by decide
     simp only [idxI] at d ⊢
     have hW : whyW fs nm = [] := hWdef.out
     go_wp2
     go_roundw
     case rel => exact ⟨k + 1, by omega, by go_num, by rw [hS.out, hW, List.append_nil]; exact hown2.out, hE⟩
     case measure => simp [intOf]; omega
    | some i =>
     have d : decide ((i : Int) < (0 : Int)) = false := by simp
     simp only [idxI]
     have hilt := (hidx i rfl).2
     have hil : i < fs.length := by omega
     have hW : whyW fs nm = [bts ((s ++ ⟨#[61]⟩) ++ valS (fs.getD i fD))] := hWdef.out
     have hm : fs.getD i fD ∈ fs := by
      rw [List.getD_eq_getElem?_getD, List.getElem?_eq_getElem hil, Option.getD_some]
      exact List.getElem_mem hil
     have hfx := hok.tx _ hm
     obtain ⟨bF, oF, rfl, hat⟩ := hF0.out.at (by omega)
     obtain ⟨f0, f1, f2, f3⟩ := hat i hil
     have hvs := valS_size hfx
     unfold valS at hvs hW
     generalize fs.getD i fD = f at *
     replace f1 := hE.get f1
     replace f2 := hE.get f2
     replace f3 := hE.get f3
     have kf := Lib.hid (fmt_any f.n hfx.2.1 hfx.2.2 w2 (g0.out.ext hE))
     clear hat f0 hidx hWdef
     replace hW := Lib.hid hW
     have t2 : (⟨#[61]⟩ : ByteArray).size = 1 := rfl
     have hsum : (s ++ ⟨#[61]⟩).size = s.size + 1 := by rw [ByteArray.size_append]; rfl
     go_wp2_with fail
     refine kf.out.mono ?_
     rintro e w3 ⟨rfl, hE3⟩
     replace l0 := hE3.get l0
     replace f1 := hE3.get f1
     replace f2 := hE3.get f2
     replace f3 := hE3.get f3
     have hown3 := Lib.hid (ownsRow_extE hown2.out hE3)
     replace hE := hE.trans hE3
     have hs3 := hE3.size
     clear hE3 kf hown2
     by_cases hk2 : f.kind = 2
     · have d2 : (f.kind == 2) = true := by simp [hk2]
       rw [if_pos hk2] at hvs
       have hW2 := Lib.hid (show whyW fs nm = [bts ((s ++ ⟨#[61]⟩) ++ f.text)] by rw [hW.out, if_pos hk2])
       clear hW hk2
       go_wp2_with (at_builtin; refine wpList_append_own _ rfl _ _ 125 rfl w0.heap.size 9 i0 (.string ⟨#[]⟩) 1 16 Tryz.underlying125 hi.out hz0.out hz1.out hz2.out rfl (by decide) _ _ _ rfl (ownsRow_extE hown3.out ((Ext.refl w3).alloc _)) ⟨w3.heap.size, 0, none⟩ 1 1 [.string ((s ++ ⟨#[61]⟩) ++ f.text)] rfl rfl ?_ ?_ ?_ ?_ ?_ ?_)
       · intro j u hj
         cases j with
         | zero => simp at hj; subst hj; simp [go_sem, Addr.add]
         | succ j => simp at hj
       · intro u hu; simp at hu; subst hu; rfl
       · unfold maxLen; omega
       · omega
       · have := hE.size; simp; omega
       intro v5 w5 hown5 hgrow5 _
       have hE5 : Ext w0 w5 := Below.grown (hE.alloc _) hgrow5 (by have := hE.size; simp; omega) (fun k hk => (hown3.out.lt k hk).1)
       clear hgrow5 hown3 hE
       go_wp2
       go_roundw
       case rel => exact ⟨k + 1, by omega, by go_num, by rw [hS.out, hW2.out]; simpa [enc_bts] using hown5, hE5⟩
       case measure => simp [intOf]; omega
     · have d2 : (f.kind == 2) = false := by simp [hk2]
       rw [if_neg hk2] at hvs
       have hW2 := Lib.hid (show whyW fs nm = [bts ((s ++ ⟨#[61]⟩) ++ ⟨(Lib.itoa f.n).toArray⟩)] by rw [hW.out, if_neg hk2])
       clear hW hk2
       generalize (⟨(Lib.itoa f.n).toArray⟩ : ByteArray) = it at *
       go_wp2_with (at_builtin; refine wpList_append_own _ rfl _ _ 125 rfl w0.heap.size 9 i0 (.string ⟨#[]⟩) 1 16 Tryz.underlying125 hi.out hz0.out hz1.out hz2.out rfl (by decide) _ _ _ rfl (ownsRow_extE hown3.out ((Ext.refl w3).alloc _)) ⟨w3.heap.size, 0, none⟩ 1 1 [.string ((s ++ ⟨#[61]⟩) ++ it)] rfl rfl ?_ ?_ ?_ ?_ ?_ ?_)
       · intro j u hj
         cases j with
         | zero => simp at hj; subst hj; simp [go_sem, Addr.add]
         | succ j => simp at hj
       · intro u hu; simp at hu; subst hu; rfl
       · unfold maxLen; omega
       · omega
       · have := hE.size; simp; omega
       intro v5 w5 hown5 hgrow5 _
       have hE5 : Ext w0 w5 := Below.grown (hE.alloc _) hgrow5 (by have := hE.size; simp; omega) (fun k hk => (hown3.out.lt k hk).1)
       clear hgrow5 hown3 hE
       go_wp2
       go_roundw
       case rel => exact ⟨k + 1, by omega, by go_num, by rw [hS.out, hW2.out]; simpa [enc_bts] using hown5, hE5⟩
       case measure => simp [intOf]; omega
  · have hkk : ns.take k = ns := List.take_of_length_le (by omega)
    have hj2 : (Lib.join (whyL fs (ns.take k)) [32]).length ≤ 140737488355328 := by rw [hkk]; exact hj.out
    have hl2 : (whyL fs (ns.take k)).length ≤ 1000000 := by rw [hkk]; have := (hwl.out ns (fun _ h => h)).1; omega
    have hR2 : R = ⟨(Lib.join (whyL fs (ns.take k)) [32]).toArray⟩ := by rw [hkk]; exact hRdef.out
    clear hkk hj hRdef hwl
    generalize whyL fs (ns.take k) = acc at *
    have kJ := Lib.hid (join_own hown.out hl2 hj2)
    subst hR2
    generalize (⟨(Lib.join acc [32]).toArray⟩ : ByteArray) = R at *
    clear hown hj2
    go_wp2_with fail
    refine kJ.out.mono ?_
    rintro e w2 ⟨rfl, hE2⟩
    have hE9 := hE0.out.trans (hE.trans hE2)
    clear kJ
    go_wp2
    go_ret
    exact ⟨rfl, hE9⟩
end Go.Proofs.YtmnhmkjmcckneaaGreatDoor
namespace Go.Proofs.YtmnhmkjmcckneaaGreatDoor
open Go.RowKit
theorem Ext.undrew {a b : World} (h : Ext a.drew b) : Ext a b := ⟨h.os, h.tape, h.output, h.size, h.block⟩
theorem ext_at {w z u : World} (_ : Ext w z) (h : Ext z u) : Ext z u := h
structure LineD where
 rule : ByteArray
 amt : Int
 why : ByteArray
def lineD : LineD := ⟨⟨#[]⟩, 0, ⟨#[]⟩⟩
/-- What Apply returns. -/
def applyV (l : List RuleD) (fs : List Feat) (n : Int) : LineD × Int := match idxF (holdsB fs) 0 l with
 | none => (lineD, 6)
 | some i => if (feeV (l.getD i rD) n).2 ≠ 0 then (lineD, (feeV (l.getD i rD) n).2) else (⟨(l.getD i rD).name, (feeV (l.getD i rD) n).1, whyV fs (uniL (l.getD i rD).when.occ)⟩, 0)
def LineP (r : LineD × Int) (w : World) (e : Ending) (w' : World) : Prop := e = .returned (.tuple #[.agg #[.string r.1.rule, .int .i64 r.1.amt, .string r.1.why], .int .i64 r.2]) ∧ Ext w w'
theorem lineP {R : LineD × Int} {a c : ByteArray} {b k : Int} {w w' : World} (h : R = (⟨a, b, c⟩, k)) (hE : Ext w w') : LineP R w (.returned (.tuple #[.agg #[.string a, .int .i64 b, .string c], .int .i64 k])) w' := by subst h; exact ⟨rfl, hE⟩
/-- What bounds a table and features, so that why's texts are of a bearable length. -/
structure TabOk (l : List RuleD) (fs : List Feat) : Prop where
 parts : ∀ i, i < l.length → (l.getD i rD).when.parts.length ≤ 1000000
 why : ∀ i, i < l.length → WhyOk fs (uniL (l.getD i rD).when.occ)
set_option maxRecDepth 8000 in
set_option maxHeartbeats 4000000 in
theorem apply_any (lv fsv : Value) (l : List RuleD) (fs : List Feat) (n : Int) (w : World) (g : Gw w) (hR : RulesM w lv l) (hF : Feats w fsv fs) (hok : TabOk l fs) : Calls Tryz.prog 29 #[lv, fsv, .int .i64 n] w (LineP (applyV l fs n) w) := by
 have kP := Lib.hid (fun w1 (h : Ext w w1) => pick_any lv fsv l fs w1 (hR.ext h) (hF.ext h))
 obtain ⟨lp, lc, rfl⟩ := hR.form
 obtain ⟨fp, fc, rfl⟩ := hF.form
 unfold pickV at kP
 have hidx := idx_some (holdsB fs) l 0
 obtain ⟨R, hRR⟩ : ∃ R, R = applyV l fs n := ⟨_, rfl⟩
 rw [← hRR]
 unfold applyV at hRR
 generalize idxF (holdsB fs) 0 l = I at *
 replace hRR := Lib.hid hRR
 replace hidx := Lib.hid hidx
 replace hR := Lib.hid hR
 replace hF := Lib.hid hF
 replace g := Lib.hid g
 go_enter Tryz.func29, Tryz.ntmps29
 go_wp2_with fail
 refine (kP.out _ xt).mono ?_
 rintro e w1 ⟨rfl, hE1⟩
 have hb := Blk.ext (Blk.new w #[.string ⟨#[]⟩, .int .i64 0, .string ⟨#[]⟩] 33) hE1
 have hE : Ext w w1 := Ext.trans xt hE1
 clear hE1 kP
 replace hb := Lib.hid hb
 cases I with
 | none =>
  replace hRR : Hid (R = (lineD, 6)) := Lib.hid hRR.out
  have x0 := hb.out.cell 0
  have x1 := hb.out.cell 1
  have x2 := hb.out.cell 2
  have f0 := hb.out.fz 0
  have f1 := hb.out.fz 1
  have f2 := hb.out.fz 2
  simp at x0 x1 x2
  go_wp2
  exact bodyPost_ret (v := .tuple #[.agg #[.string ⟨#[]⟩, .int .i64 0, .string ⟨#[]⟩], .int .i64 6]) (by first | (simp [results, Tryz.results29, go_sem, x0, x1, x2]; done) | simp [results, Tryz.results29, go_sem]) rfl (lineP (a := ⟨#[]⟩) (b := 0) (c := ⟨#[]⟩) hRR.out xt)
 | some i =>
  have hRR2 := hRR.out
  clear hRR
  simp only at hRR2
  obtain ⟨-, hi, -, -⟩ := hidx.out i rfl
  have hil : i < l.length := by omega
  obtain ⟨b, off, rfl, sv, hkid⟩ := hR.out.at (by omega)
  obtain ⟨hc, hsu⟩ := hkid i hil
  have bw : b < w.heap.size := cell_lt hc.1
  replace hsu := hsu.ext hE
  obtain ⟨h0, h1, h2, h3, h4, h5, h6, h7, h8, h9⟩ := hc.ext hE
  have hpl := hok.parts i hil
  have hwo := hok.why i hil
  obtain ⟨uq, uc, huv⟩ := hsu.form
  clear hc hkid hidx
  generalize l.getD i rD = r at *
  rw [huv] at hsu h5
  clear huv
  have kF := Lib.hid (fun w2 => fee_any r uq r.when.args.length uc n w2)
  unfold FeePost at kF
  replace hsu := Lib.hid hsu
  generalize hfv : feeV r n = V at *
  obtain ⟨fee, fe⟩ := V
  simp only at kF hRR2
  replace hRR2 := Lib.hid hRR2
  unfold ruleAgg at kF
  have bl : b < w1.heap.size := cell_lt h0
  go_wp2_with fail
  refine (kF.out _).mono ?_
  rintro e w2 ⟨rfl, hE2⟩
  replace hsu := Lib.hid (hsu.out.ext hE2)
  replace hb := Lib.hid (hb.out.ext hE2)
  replace hE := hE.trans hE2
  replace h0 := hE2.get h0
  replace h1 := hE2.get h1
  replace h2 := hE2.get h2
  replace h3 := hE2.get h3
  replace h4 := hE2.get h4
  replace h5 := hE2.get h5
  clear hE2 kF h6 h7 h8 h9 bl
  have x0 := hb.out.cell 0
  have x1 := hb.out.cell 1
  have x2 := hb.out.cell 2
  have f0 := hb.out.fz 0
  have f1 := hb.out.fz 1
  have f2 := hb.out.fz 2
  simp at x0 x1 x2
  by_cases hfe : fe ≠ 0
  · have d : (fe != 0) = true := by simpa using hfe
    have hRR := Lib.hid (hRR2.out.trans (if_pos hfe))
    clear hRR2
    go_wp2
    exact bodyPost_ret (v := .tuple #[.agg #[.string ⟨#[]⟩, .int .i64 0, .string ⟨#[]⟩], .int .i64 fe]) (by first | (simp [results, Tryz.results29, go_sem, x0, x1, x2]; done) | simp [results, Tryz.results29, go_sem]) rfl (lineP (a := ⟨#[]⟩) (b := 0) (c := ⟨#[]⟩) hRR.out xt)
  · obtain rfl : fe = 0 := by omega
    have hRR := Lib.hid (hRR2.out.trans (if_neg hfe))
    clear hRR2
    have kW := Lib.hid (fun w3 g3 h3 h4 => why_any r.when uq uc (.slice fp fs.length fc) fs w3 g3 h3 h4 hpl hwo)
    generalize whyV fs (uniL r.when.occ) = ws at *
    unfold exAgg at kW
    go_wp2_with fail
    have g2 := Lib.hid (g.out.ext hE)
    have hF2 := Lib.hid (hF.out.ext hE)
    have hE0 := hE
    have xs : w.heap.size < w2.heap.size := cell_lt x0
    clear hE
    go_region_held3 (fun w' => w'.cell? ⟨b, off + i * 10, none⟩ = some (.string r.name) ∧ w'.cell? ⟨b, off + i * 10 + 1, none⟩ = some (.int .i64 r.when.op) ∧ w'.cell? ⟨b, off + i * 10 + 1 + 1, none⟩ = some (.string r.when.name) ∧ w'.cell? ⟨b, off + i * 10 + 1 + 1 + 1, none⟩ = some (.string r.when.text) ∧ w'.cell? ⟨b, off + i * 10 + 1 + 1 + 1 + 1, none⟩ = some (.int .i64 r.when.n) ∧ w'.cell? ⟨b, off + i * 10 + 1 + 1 + 1 + 1 + 1, none⟩ = some (.slice uq r.when.args.length uc)) (first | exact ⟨h0, h1, h2, h3, h4, h5⟩ | exact ⟨(World.cell?_setCell_far _ _ _ _ (by first | (simp; done) | (simp; omega))).trans ((World.cell?_setCell_far _ _ _ _ (by first | (simp; done) | (simp; omega))).trans ((World.cell?_setCell_far _ _ _ _ (by first | (simp; done) | (simp; omega))).trans h0)), (World.cell?_setCell_far _ _ _ _ (by first | (simp; done) | (simp; omega))).trans ((World.cell?_setCell_far _ _ _ _ (by first | (simp; done) | (simp; omega))).trans ((World.cell?_setCell_far _ _ _ _ (by first | (simp; done) | (simp; omega))).trans h1)), (World.cell?_setCell_far _ _ _ _ (by first | (simp; done) | (simp; omega))).trans ((World.cell?_setCell_far _ _ _ _ (by first | (simp; done) | (simp; omega))).trans ((World.cell?_setCell_far _ _ _ _ (by first | (simp; done) | (simp; omega))).trans h2)), (World.cell?_setCell_far _ _ _ _ (by first | (simp; done) | (simp; omega))).trans ((World.cell?_setCell_far _ _ _ _ (by first | (simp; done) | (simp; omega))).trans ((World.cell?_setCell_far _ _ _ _ (by first | (simp; done) | (simp; omega))).trans h3)), (World.cell?_setCell_far _ _ _ _ (by first | (simp; done) | (simp; omega))).trans ((World.cell?_setCell_far _ _ _ _ (by first | (simp; done) | (simp; omega))).trans ((World.cell?_setCell_far _ _ _ _ (by first | (simp; done) | (simp; omega))).trans h4)), (World.cell?_setCell_far _ _ _ _ (by first | (simp; done) | (simp; omega))).trans ((World.cell?_setCell_far _ _ _ _ (by first | (simp; done) | (simp; omega))).trans ((World.cell?_setCell_far _ _ _ _ (by first | (simp; done) | (simp; omega))).trans h5))⟩) ((go_at_call 61; ((refine (kW.out _ (by first | exact g2.out | exact g2.out.ext (Ext.refl _).drew) (by first | exact hF2.out | exact hF2.out.ext (Ext.refl _).drew) (by first | exact hsu.out | exact hsu.out.ext (Ext.refl _).drew)).mono ?_); rintro e w6 ⟨rfl, hE6⟩; have hS := ext_at hE0 (by first | exact hE6 | exact Ext.undrew hE6); have hE0 := hE0.trans hS; have h0 := hS.get h0; have h1 := hS.get h1; have h2 := hS.get h2; have h3 := hS.get h3; have h4 := hS.get h4; have h5 := hS.get h5; have f0 := hS.fz xs f0; have f1 := hS.fz xs f1; have f2 := hS.fz xs f2; have x0 := hS.get x0; have x1 := hS.get x1; have x2 := hS.get x2; have xs := cell_lt x0; clear hE6 hS)))
    all_goals go_wp2
    all_goals exact bodyPost_ret (v := .tuple #[.agg #[.string r.name, .int .i64 fee, .string ws], .int .i64 0]) (by first | (simp [results, Tryz.results29, go_sem, x0, x1, x2]; done) | simp [results, Tryz.results29, go_sem]) rfl (lineP hRR.out xt)
end Go.Proofs.YtmnhmkjmcckneaaGreatDoor
