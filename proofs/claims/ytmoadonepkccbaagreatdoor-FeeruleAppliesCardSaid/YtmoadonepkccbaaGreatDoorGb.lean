/- The contract of the reference's why (walk; printed by gen/g10.py). -/
import Derived.Test.YtmoadonepkccbaaGreatDoorG9
import Derived.Test.YtmoadonepkccbaaGreatDoorFz
import Derived.Deep.QuietTactic
namespace Go.Proofs.YtmoadonepkccbaaGreatDoor
open Go.RowKit
theorem bts_app (a b : ByteArray) : bts (a ++ b) = bts a ++ bts b := by unfold bts; simp
theorem bts_of (l : List UInt8) : bts ⟨l.toArray⟩ = l := by unfold bts; simp
theorem join_more (acc : List (List UInt8)) (x : List UInt8) : Lib.join (acc ++ [x]) [32] = if acc = [] then x else Lib.join acc [32] ++ [32] ++ x := by
  cases acc with
  | nil => simp [Lib.join_one]
  | cons a r =>
    rw [if_neg (by simp), List.cons_append, Lib.join_cons, Lib.join_cons]
    simp [Lib.joinTail]
theorem why_more (acc : List (List UInt8)) (nm v : ByteArray) :
    (acc = [] → ((⟨(Lib.join acc [32]).toArray⟩ : ByteArray) ++ (nm ++ ⟨#[61]⟩)) ++ v = ⟨(Lib.join (acc ++ [bts ((nm ++ ⟨#[61]⟩) ++ v)]) [32]).toArray⟩) ∧
    (¬ acc = [] → (((⟨(Lib.join acc [32]).toArray⟩ : ByteArray) ++ ⟨#[32]⟩) ++ (nm ++ ⟨#[61]⟩)) ++ v = ⟨(Lib.join (acc ++ [bts ((nm ++ ⟨#[61]⟩) ++ v)]) [32]).toArray⟩) := by
  refine ⟨fun h => ?_, fun h => ?_⟩
  · refine bts_inj (show bts _ = bts _ from ?_)
    rw [bts_of (Lib.join (acc ++ [bts ((nm ++ ⟨#[61]⟩) ++ v)]) [32]), join_more, if_pos h]
    subst h
    simp only [bts_app]
    rw [bts_of (Lib.join [] [32])]
    simp only [Lib.join_nil, List.nil_append, List.append_assoc]
  · refine bts_inj (show bts _ = bts _ from ?_)
    rw [bts_of (Lib.join (acc ++ [bts ((nm ++ ⟨#[61]⟩) ++ v)]) [32]), join_more, if_neg h]
    simp only [bts_app]
    rw [bts_of (Lib.join acc [32])]
    simp only [List.append_assoc]
    rfl
theorem WhyOk.take {fs : List Feat} {ns : List (List UInt8)} (h : WhyOk fs ns) (k : Nat) : WhyOk fs (ns.take k) :=
  ⟨by have := h.few; rw [List.length_take]; omega, fun a ha => h.nm a (List.mem_of_mem_take ha), h.tx⟩
theorem whyL_ne {fs : List Feat} {ns : List (List UInt8)} (h : ¬ whyL fs ns = []) : ¬ Lib.join (whyL fs ns) [32] = [] := by
  have hw : ∀ x ∈ whyL fs ns, x ≠ [] := by
    intro x hx
    obtain ⟨a, -, hxa⟩ := List.mem_flatMap.1 hx
    unfold whyW at hxa
    split at hxa
    · cases hxa
    · obtain rfl := List.mem_singleton.1 hxa
      simp [bts_app, bts_of]
  intro hj
  cases hl : whyL fs ns with
  | nil => exact h hl
  | cons a r =>
    rw [hl, Lib.join_cons] at hj
    have : a = [] := (List.append_eq_nil_iff.1 hj).1
    exact hw a (by rw [hl]; exact List.mem_cons_self) this
theorem size_of (l : List UInt8) : (⟨l.toArray⟩ : ByteArray).size = l.length := by simp [ByteArray.size]
set_option maxRecDepth 8000 in
set_option maxHeartbeats 8000000 in
theorem rwhy_any (x : Ex) (q : Option Addr) (cp : Nat) (fsv : Value) (fs : List Feat) (w : World) (g : Gw w) (hF : Feats w fsv fs) (hX : ExS w (.slice q x.args.length cp) x.args) (hp : x.parts.length ≤ 999999) (hok : WhyOk fs (uniL x.occ)) : Calls Tryz.prog 51 #[exAgg x (.slice q x.args.length cp), fsv] w (WhyP (whyV fs (uniL x.occ)) w) := by
  obtain ⟨fp, fc, rfl⟩ := hF.form
  have hfl := hF.1
  have kN := Lib.hid (fun w1 (h : Ext w w1) => rNames_any x (hX.ext h) hp)
  unfold NamesP at kN
  unfold whyV
  generalize uniL x.occ = ns at *
  have hnl := hok.few
  obtain ⟨op, nm, tx, n, args⟩ := x
  simp only [exAgg_mk, Ex.args] at kN ⊢
  clear hX hp
  replace hF := Lib.hid hF
  replace g := Lib.hid g
  replace hok := Lib.hid hok
  go_enter Tryz.func51, Tryz.ntmps51
  go_wp2_with fail
  refine (kN.out _ ((Ext.refl _).alloc _)).mono ?_
  rintro e w0 ⟨nv, rfl, hnv, hE1⟩
  obtain ⟨np, nc, rfl, -, hnat⟩ := hnv
  have hE0 : Ext w w0 := Ext.trans ((Ext.refl _).alloc _) hE1
  clear hE1 kN
  replace hnat := Lib.hid hnat
  go_wp2_with fail
  go_loopw [5, 7] (fun sv i wr => ∃ k : Nat, k ≤ ns.length ∧ i = .int .i64 k ∧ sv = .string ⟨(Lib.join (whyL fs (ns.take k)) [32]).toArray⟩ ∧ Ext w0 wr) (fun _ i _ => ns.length - (intOf i).toNat)
  case atStart => exact ⟨0, Nat.zero_le _, rfl, rfl, Ext.refl _⟩
  case round =>
    obtain ⟨k, hk, rfl, rfl, hE⟩ := hrel
    by_cases hlt : k < ns.length
    · obtain ⟨bn, on, rfl, hcn⟩ := hnat.out (by omega)
      have n0 := hcn k hlt
      have hsn := whyL_snoc fs ns k hlt
      have hsz := why_join (hok.out.take k)
      have hne := whyL_ne (fs := fs) (ns := ns.take k)
      have hmn : ns.getD k [] ∈ ns := by
        rw [List.getD_eq_getElem?_getD, List.getElem?_eq_getElem hlt, Option.getD_some]
        exact List.getElem_mem hlt
      have hns := hok.out.nm _ hmn
      have hW : whyW fs (ns.getD k []) = match idxN ⟨(ns.getD k []).toArray⟩ 0 fs with | none => [] | some i => [bts (((⟨(ns.getD k []).toArray⟩ : ByteArray) ++ ⟨#[61]⟩) ++ valS (fs.getD i fD))] := rfl
      unfold encStr at n0
      rw [← size_of] at hns
      clear hcn hmn
      generalize (⟨(ns.getD k []).toArray⟩ : ByteArray) = nmk at *
      rw [hW] at hsn
      clear hW
      generalize whyL fs (ns.take k) = acc at *
      rw [← size_of] at hsz
      have hSe : acc = [] → (⟨(Lib.join acc [32]).toArray⟩ : ByteArray).size = 0 := fun h => by rw [h]; rfl
      have hSn : ¬ acc = [] → ¬ (⟨(Lib.join acc [32]).toArray⟩ : ByteArray).size = 0 := fun h h2 => by
        rw [size_of] at h2
        exact hne h (List.length_eq_zero_iff.1 h2)
      have hwm := why_more acc nmk
      have hsame := Lib.hid (fun (h : idxN nmk 0 fs = none) => show (⟨(Lib.join acc [32]).toArray⟩ : ByteArray) = ⟨(Lib.join (whyL fs (ns.take (k + 1))) [32]).toArray⟩ by rw [hsn, h, List.append_nil])
      have hnew := Lib.hid (fun (i : Nat) (h : idxN nmk 0 fs = some i) => show whyL fs (ns.take (k + 1)) = acc ++ [bts ((nmk ++ ⟨#[61]⟩) ++ valS (fs.getD i fD))] by rw [hsn, h])
      clear hsn hne
      generalize (⟨(Lib.join acc [32]).toArray⟩ : ByteArray) = S at *
      replace hwm := Lib.hid hwm
      replace hSe := Lib.hid hSe
      replace hSn := Lib.hid hSn
      have hE00 := hE0.trans hE
      replace n0 := hE.get n0
      go_wp2_with fail
      go_loopw [5, 8] (fun sv i wi => ∃ j : Nat, j ≤ fs.length ∧ i = .int .i64 j ∧ sv = .string S ∧ idxN nmk 0 fs = idxN nmk j (fs.drop j) ∧ Ext wr wi) (fun _ i _ => fs.length - (intOf i).toNat)
      case atStart => exact ⟨0, Nat.zero_le _, rfl, rfl, rfl, Ext.refl _⟩
      case round =>
        obtain ⟨j, hj, rfl, rfl, hix, hEi⟩ := hrel
        by_cases hjl : j < fs.length
        · rw [idxN_step nmk fs j hjl] at hix
          obtain ⟨bf, off, rfl, hat⟩ := hF.out.at (by omega)
          obtain ⟨c0, c1, c2, c3⟩ := hat j hjl
          replace c0 := (hE00.trans hEi).get c0
          replace c1 := (hE00.trans hEi).get c1
          replace c2 := (hE00.trans hEi).get c2
          replace c3 := (hE00.trans hEi).get c3
          have m0 := hEi.get n0
          have hfm : fs.getD j fD ∈ fs := by
            rw [List.getD_eq_getElem?_getD, List.getElem?_eq_getElem hjl, Option.getD_some]
            exact List.getElem_mem hjl
          have hfx := hok.out.tx _ hfm
          have hnj := Lib.hid (fun h => hnew.out j h)
          have hvs : valS (fs.getD j fD) = if (fs.getD j fD).kind = 2 then (fs.getD j fD).text else ⟨(Lib.itoa (fs.getD j fD).n).toArray⟩ := rfl
          have hvz := valS_size hfx
          clear hat hfm
          generalize fs.getD j fD = f at *
          by_cases he : f.name = nmk
          · have hix2 := Lib.hid (show idxN nmk 0 fs = some j by rw [hix, if_pos he])
            have dn := strEq he
            have hfin := Lib.hid (hnj.out hix2.out)
            have hE9 := hE.trans (hEi.drewN 0)
            obtain ⟨V, hV⟩ : ∃ V, V = valS f := ⟨_, rfl⟩
            rw [← hV] at hvs hvz
            have kf := Lib.hid (fun w2 (h : Ext w w2) => fmt_any f.n hfx.2.1 hfx.2.2 w2 (g.out.ext h))
            have z1 : (nmk ++ ⟨#[61]⟩).size = nmk.size + 1 := by rw [ByteArray.size_append]; rfl
            have z2 : (S ++ ⟨#[32]⟩).size = S.size + 1 := by rw [ByteArray.size_append]; rfl
            have z3 : (S ++ (nmk ++ ⟨#[61]⟩)).size = S.size + (nmk.size + 1) := by rw [ByteArray.size_append, z1]
            have z4 : ((S ++ ⟨#[32]⟩) ++ (nmk ++ ⟨#[61]⟩)).size = S.size + 1 + (nmk.size + 1) := by rw [ByteArray.size_append, z1, z2]
            have t1 : (⟨#[61]⟩ : ByteArray).size = 1 := rfl
            have t2 : (⟨#[32]⟩ : ByteArray).size = 1 := rfl
            have rel : ∀ (h : acc = []), (S ++ (nmk ++ ⟨#[61]⟩)) ++ V = ⟨(Lib.join (whyL fs (ns.take (k + 1))) [32]).toArray⟩ := fun h => by rw [hfin.out, ← hV]; exact (hwm.out V).1 h
            have rel2 : ∀ (h : ¬ acc = []), ((S ++ ⟨#[32]⟩) ++ (nmk ++ ⟨#[61]⟩)) ++ V = ⟨(Lib.join (whyL fs (ns.take (k + 1))) [32]).toArray⟩ := fun h => by rw [hfin.out, ← hV]; exact (hwm.out V).2 h
            replace rel := Lib.hid rel
            replace rel2 := Lib.hid rel2
            subst he
            clear hix hix2 hnj hfin hV hE9
            have hEw := Lib.hid (hE00.trans hEi)
            by_cases ha : acc = []
            · have dS := emp_list (hSe.out ha)
              have hrel := Lib.hid (rel.out ha)
              clear ha rel rel2 hSe hSn hwm hsame hnew
              by_cases hk2 : f.kind = 2
              · have dk : (f.kind == 2) = true := by simpa using hk2
                rw [if_pos hk2] at hvs
                subst hvs
                clear hk2
                go_wp2_with fail
                go_quiet (fail)
                go_wp2
                go_roundw
                case rel => exact ⟨k + 1, by omega, by go_num, by rw [← hrel.out], hE.trans (hEi.drewN _)⟩
                case measure => simp [intOf]; omega
              · have dk : (f.kind == 2) = false := by simpa using hk2
                rw [if_neg hk2] at hvs
                subst hvs
                clear hk2
                generalize (⟨(Lib.itoa f.n).toArray⟩ : ByteArray) = it at *
                go_wp2_with fail
                go_quiet (fail)
                go_wp2_with fail
                refine (kf.out _ (hEw.out.drewN _)).mono ?_
                rintro e w5 ⟨rfl, hE5⟩
                have hE6 : Ext w0 w5 := (hE.trans (hEi.drewN _)).trans hE5
                clear hE5 kf
                go_wp2
                go_roundw
                case rel => exact ⟨k + 1, by omega, by go_num, by rw [← hrel.out], hE6⟩
                case measure => simp [intOf]; omega
            · have dS := ne_list (hSn.out ha)
              have dS2 := ne_isE (hSn.out ha)
              have hrel := Lib.hid (rel2.out ha)
              clear ha rel rel2 hSe hSn hwm hsame hnew
              by_cases hk2 : f.kind = 2
              · have dk : (f.kind == 2) = true := by simpa using hk2
                rw [if_pos hk2] at hvs
                subst hvs
                clear hk2
                go_wp2_with fail
                go_quiet (fail)
                go_wp2
                go_roundw
                case rel => exact ⟨k + 1, by omega, by go_num, by rw [← hrel.out], hE.trans (hEi.drewN _)⟩
                case measure => simp [intOf]; omega
              · have dk : (f.kind == 2) = false := by simpa using hk2
                rw [if_neg hk2] at hvs
                subst hvs
                clear hk2
                generalize (⟨(Lib.itoa f.n).toArray⟩ : ByteArray) = it at *
                go_wp2_with fail
                go_quiet (fail)
                go_wp2_with fail
                refine (kf.out _ (hEw.out.drewN _)).mono ?_
                rintro e w5 ⟨rfl, hE5⟩
                have hE6 : Ext w0 w5 := (hE.trans (hEi.drewN _)).trans hE5
                clear hE5 kf
                go_wp2
                go_roundw
                case rel => exact ⟨k + 1, by omega, by go_num, by rw [← hrel.out], hE6⟩
                case measure => simp [intOf]; omega
          · have hix2 := Lib.hid (show idxN nmk 0 fs = idxN nmk (j + 1) (fs.drop (j + 1)) by rw [hix, if_neg he])
            have dn := strNe he
            have dn2 := bytes_ne he
            clear hix he hnj hvs hvz hfx hwm hSe hSn
            go_wp2_with fail
            go_quiet (fail)
            go_wp2
            go_roundw
            case rel => exact ⟨j + 1, by omega, by go_num, rfl, hix2.out, hEi.drewN _⟩
            case measure => simp [intOf]; omega
        · have hj2 : j = fs.length := by omega
          have hd : fs.drop j = [] := by rw [hj2]; exact List.drop_length
          rw [hd] at hix
          have hs2 := Lib.hid (hsame.out hix)
          clear hd hj2 hix hsame hnew hwm hSe hSn
          go_wp2
          go_roundw
          case rel => exact ⟨k + 1, by omega, by go_num, by rw [← hs2.out], hE.trans hEi⟩
          case measure => simp [intOf]; omega
    · have hkk : ns.take k = ns := List.take_of_length_le (by omega)
      rw [hkk]
      have hE9 := hE0.trans hE
      clear hkk
      generalize (⟨(Lib.join (whyL fs ns) [32]).toArray⟩ : ByteArray) = S at *
      go_wp2
      go_ret
      exact ⟨rfl, hE9⟩
end Go.Proofs.YtmoadonepkccbaaGreatDoor
