/- The law FraudWindows (walk; printed by gen/h58.py). -/
import Derived.Test.YtangdoidkcelfaaGreatDoorNi
import Derived.Test.YtangdoidkcelfaaGreatDoorNr
import Derived.Test.YtangdoidkcelfaaGreatDoorNl
import Derived.StillTailTactics
namespace Go.Proofs.YtangdoidkcelfaaGreatDoor
open Go.RowKit Go.Sort
structure LUse where
 gap : Nat
 card : Nat
 amt : Nat
def luD : LUse := ⟨0, 0, 0⟩
/-- The slice v reads as the law's purchases. -/
def LUsM (w : World) (v : Value) (l : List LUse) : Prop :=
 ∃ p c, v = .slice p l.length c ∧ (∀ i, (l.getD i luD).gap ≤ 255 ∧ (l.getD i luD).card ≤ 255 ∧ (l.getD i luD).amt ≤ 65535) ∧ (0 < l.length → ∃ b off, p = some ⟨b, off, none⟩ ∧ ∀ i, i < l.length → w.cell? ⟨b, off + i * 3, none⟩ = some (.int .u8 (l.getD i luD).gap) ∧ w.cell? ⟨b, off + i * 3 + 1, none⟩ = some (.int .u8 (l.getD i luD).card) ∧ w.cell? ⟨b, off + i * 3 + 2, none⟩ = some (.int .u16 (l.getD i luD).amt))
/-- The time behind k gaps; the purchases so far; how many of them count. -/
def tmL (l : List LUse) : Nat → Int
 | 0 => 0
 | k + 1 => tmL l k + ((l.getD k luD).gap : Int)
def hisL (l : List LUse) : Nat → List UseV
 | 0 => []
 | k + 1 => hisL l k ++ [⟨keyC ((l.getD k luD).card % 3), tmL l (k + 1), ((l.getD k luD).amt : Int)⟩]
def cntJ (l : List LUse) (c : Nat) (lo : Int) : Nat → Nat
 | 0 => 0
 | m + 1 => if (l.getD m luD).card % 3 = c ∧ lo < tmL l (m + 1) then cntJ l c lo m + 1 else cntJ l c lo m
def timV (l : List LUse) (k : Nat) : List Value := (List.range k).map fun j => Value.int .i64 (tmL l (j + 1))
theorem tmL_bd {l : List LUse} (h : ∀ i, (l.getD i luD).gap ≤ 255 ∧ (l.getD i luD).card ≤ 255 ∧ (l.getD i luD).amt ≤ 65535) : ∀ k, 0 ≤ tmL l k ∧ tmL l k ≤ (k : Int) * 255
 | 0 => ⟨Int.le_refl _, Int.le_refl _⟩
 | k + 1 => by
  have h1 := tmL_bd h k
  have h2 := (h k).1
  unfold tmL
  push_cast
  omega
theorem hisL_len (l : List LUse) : ∀ k, (hisL l k).length = k
 | 0 => rfl
 | k + 1 => by unfold hisL; rw [List.length_append, hisL_len l k]; rfl
theorem cntJ_le (l : List LUse) (c : Nat) (lo : Int) : ∀ m, cntJ l c lo m ≤ m
 | 0 => Nat.le_refl _
 | m + 1 => by
  have h := cntJ_le l c lo m
  unfold cntJ
  split <;> omega
theorem cntJ_eq (l : List LUse) (c : Nat) (hc : c < 3) (lo : Int) : ∀ m, cntH (keyC c) lo (hisL l m) = cntJ l c lo m
 | 0 => rfl
 | m + 1 => by
  have ih := cntJ_eq l c hc lo m
  have e1 : hisL l (m + 1) = hisL l m ++ [⟨keyC ((l.getD m luD).card % 3), tmL l (m + 1), ((l.getD m luD).amt : Int)⟩] := rfl
  have e2 : cntJ l c lo (m + 1) = if (l.getD m luD).card % 3 = c ∧ lo < tmL l (m + 1) then cntJ l c lo m + 1 else cntJ l c lo m := rfl
  unfold cntH at *
  rw [e1, e2, List.filter_append, List.length_append, ih]
  by_cases h : (l.getD m luD).card % 3 = c ∧ lo < tmL l (m + 1)
  · rw [if_pos h, List.filter_cons_of_pos (by rw [h.1, decide_eq_true rfl, decide_eq_true h.2]; rfl)]
    rfl
  · rw [if_neg h, List.filter_cons_of_neg (by
     simp only [Bool.and_eq_true, decide_eq_true_eq]
     rintro ⟨h1, h2⟩
     exact h ⟨keyC_inj (by omega) (by omega) h1, h2⟩)]
    rfl
theorem EngM.chgI {F : Nat → Prop} {w w' : World} {X V : Nat} {uv vv rv tv : Value} {d : EngD} (h : EngM w X V uv vv rv tv d) (k : Chg F w w') (hF : ∀ j, F j → V < j) (hT : ∀ j, F j → ∃ cs, Blk w j cs 3) : EngM w' X V uv vv rv tv d := by
 have hlt := h.lt
 have hn : ∀ {v : Value} {T : TypeId} {B : Nat} {l : List UseV}, UsesR T w B v l → T ≠ 3 → ∀ b, v.ownBlock = some b → ¬ F b := fun hu hne b hb hf => by
  obtain ⟨cs, h1⟩ := hT b hf
  exact hu.sepB h1 hne hb
 exact ⟨hlt, h.x.chg k fun hf => by have := hF _ hf; omega, ⟨h.v.1.chg k fun hf => by have := hF _ hf; omega, h.v.2.chg k (hn h.v.2 (by decide))⟩, h.u.chg k (hn h.u (by decide)), h.r.chg k fun j hj hf => by have := hF _ hf; omega, h.t.chg k fun j hj hf => by have := hF _ hf; omega⟩
theorem timV_snoc (l : List LUse) (k : Nat) : timV l (k + 1) = timV l k ++ [.int .i64 (tmL l (k + 1))] := by
 unfold timV
 rw [List.range_succ, List.map_append]
 rfl
theorem timV_get (l : List LUse) (k j : Nat) (h : j < k) : (timV l k)[j]? = some (.int .i64 (tmL l (j + 1))) := by
 unfold timV
 rw [List.getElem?_map, List.getElem?_range h]
 rfl
theorem int_one (n : Int) : ∀ u ∈ [Value.int .i64 n], u.oneCell' = true := by
 intro u hu
 simp only [List.mem_cons, List.not_mem_nil, or_false] at hu
 subst hu
 rfl
/-- The times' row grows: the engine stays, and the world only gains. -/
theorem win_push {w0 w w' : World} {X V B n : Nat} {uv vv rv tv v : Value} {d : EngD} {xs : List Value} (hM : EngM w X V uv vv rv tv d) (hE : Ext w0 w) (hB : V < B) (hw : w0.heap.size ≤ B) (ho : w.ownsRow B 3 1 v n xs) (hg : w.grownBy w' v.ownBlock) : EngM w' X V uv vv rv tv d ∧ Ext w0 w' ∧ w.heap.size ≤ w'.heap.size :=
 ⟨hM.chgI (Chg.ofGrown hg) (fun j hj => by have := (ho.lt j hj.symm).1; omega) (fun j hj => ownsRow_blk ho hj.symm), Chg.toExt hE (Chg.ofGrown hg) (fun j hj => by have := (ho.lt j hj.symm).1; omega), hg.size⟩
set_option maxRecDepth 8000 in
set_option maxHeartbeats 16000000 in
theorem law_windows (lv : Value) (l : List LUse) (W L : Nat) (w : World) (g : Gw w) (hl : LUsM w lv l) (hW : W ≤ 65535) (hL : L ≤ 255) : Calls Tryz.prog 4 #[lv, .int .u16 W, .int .u8 L] w (TrueP w) := by
 have hend := Lib.hid (fun w' (h : Ext w w') => show TrueP w (.returned (.bool true)) w' from ⟨rfl, h⟩)
 generalize TrueP w = PP at *
 obtain ⟨lp, lc, rfl, hbd, hlc⟩ := hl
 replace hlc := Lib.hid hlc
 replace g := Lib.hid g
 by_cases h40 : 40 < l.length
 · have q0 : decide (40 < (l.length : Int)) = true := decide_eq_true (by omega)
   clear hbd h40
   go_enter Tryz.func4, Tryz.ntmps4
   go_wp2_with fail
   refine (awake_any _ g.out).mono ?_
   rintro e w9 ⟨rfl, hE9⟩
   go_wp2
   try go_ret
   exact hend.out _ hE9
 have q0 : decide (40 < (l.length : Int)) = false := decide_eq_false (by omega)
 obtain ⟨m, hm⟩ : ∃ m : Nat, m = W % 1000 := ⟨_, rfl⟩
 obtain ⟨q, hq⟩ : ∃ q : Nat, q = L % 8 := ⟨_, rfl⟩
 have hm9 : m ≤ 999 := by omega
 have hq7 : q ≤ 7 := by omega
 have e1 : ((W : Int)).tmod 1000 = (m : Int) := by rw [Int.tmod_eq_emod_of_nonneg (by omega)]; omega
 have e2 : ((L : Int)).tmod 8 = (q : Int) := by rw [Int.tmod_eq_emod_of_nonneg (by omega)]; omega
 clear hm hq
 replace hbd := Lib.hid hbd
 go_enter Tryz.func4, Tryz.ntmps4
 go_wp2_with fail
 have hE3 : Ext w (((w.alloc (.cells #[.int .i64 1, .string ⟨#[]⟩, .string ⟨#[]⟩, .int .i64 q, .slice none 0 0, .int .i64 16, .string ⟨#[99, 97, 114, 100]⟩, .string ⟨#[]⟩, .int .i64 (1 + (m : Int)), .slice none 0 0] 40)).alloc (.cells #[.int .i64 11, .string ⟨#[]⟩, .string ⟨#[]⟩, .int .i64 0, .slice (some ⟨w.heap.size, 0, none⟩) 2 2] 40)).alloc (.cells #[.string ⟨#[109, 97, 110, 121]⟩, .int .i64 11, .string ⟨#[]⟩, .string ⟨#[]⟩, .int .i64 0, .slice (some ⟨w.heap.size, 0, none⟩) 2 2, .int .i64 2, .int .i64 0] 46)) := xt
 have hR : FrsM (((w.alloc (.cells #[.int .i64 1, .string ⟨#[]⟩, .string ⟨#[]⟩, .int .i64 q, .slice none 0 0, .int .i64 16, .string ⟨#[99, 97, 114, 100]⟩, .string ⟨#[]⟩, .int .i64 (1 + (m : Int)), .slice none 0 0] 40)).alloc (.cells #[.int .i64 11, .string ⟨#[]⟩, .string ⟨#[]⟩, .int .i64 0, .slice (some ⟨w.heap.size, 0, none⟩) 2 2] 40)).alloc (.cells #[.string ⟨#[109, 97, 110, 121]⟩, .int .i64 11, .string ⟨#[]⟩, .string ⟨#[]⟩, .int .i64 0, .slice (some ⟨w.heap.size, 0, none⟩) 2 2, .int .i64 2, .int .i64 0] 46)) (.slice (some ⟨w.heap.size + 1 + 1, 0, none⟩) 1 1) [winR q (1 + (m : Int))] := frs1_of (r := winR q (1 + (m : Int))) (Blk.new' _ _ _ _ (by simp)) (exb_two (ok := fun _ => True) (x := .mk 1 ⟨#[]⟩ ⟨#[]⟩ q []) (y := .mk 16 carN ⟨#[]⟩ (1 + (m : Int)) []) (((Blk.new w _ _).alloc _).alloc _) trivial (.nil none 0) (.nil none 0) (by omega)).toS
 generalize (((w.alloc (.cells #[.int .i64 1, .string ⟨#[]⟩, .string ⟨#[]⟩, .int .i64 q, .slice none 0 0, .int .i64 16, .string ⟨#[99, 97, 114, 100]⟩, .string ⟨#[]⟩, .int .i64 (1 + (m : Int)), .slice none 0 0] 40)).alloc (.cells #[.int .i64 11, .string ⟨#[]⟩, .string ⟨#[]⟩, .int .i64 0, .slice (some ⟨w.heap.size, 0, none⟩) 2 2] 40)).alloc (.cells #[.string ⟨#[109, 97, 110, 121]⟩, .int .i64 11, .string ⟨#[]⟩, .string ⟨#[]⟩, .int .i64 0, .slice (some ⟨w.heap.size, 0, none⟩) 2 2, .int .i64 2, .int .i64 0] 46)) = w3 at *
 have hws := Lib.hid (WinSt.new q (1 + (m : Int)) (by omega) (by omega) (by omega) (by omega))
 refine (new_any _ [winR q (1 + (m : Int))] 1 1 w3 hR (by show (3 : Nat) ≤ 1000000; decide)).mono ?_
 rintro e w4 (⟨h, -⟩ | ⟨-, X, V, uv, vv, rv, tv, rfl, hX, hM, hE4⟩)
 · exact absurd (winR_ok q (1 + (m : Int)) (by omega) (by omega) (by omega) (by omega)) h
 have hwX : w.heap.size ≤ X := Nat.le_trans hE3.size hX
 have hXV := hM.lt
 have hEw := hE3.trans hE4
 have hVl := hM.v.1.lt
 clear hR hE3 hE4 hX e1 e2 q0
 obtain ⟨B1, hB1⟩ : ∃ B, B = w4.heap.size := ⟨_, rfl⟩
 have hBV : V < B1 := by omega
 have hwB : w.heap.size ≤ B1 := by have := hEw.size; omega
 replace hM := Lib.hid hM
 obtain ⟨i0, hI, hz0, hz1, hz2⟩ := info_partsE infoIntE
 replace hI := Lib.hid hI
 replace hz0 := Lib.hid hz0
 replace hz1 := Lib.hid hz1
 replace hz2 := Lib.hid hz2
 go_wp2_with fail
 go_loopw [12, 13, 14] (fun now ts i wr => ∃ (k : Nat) (d : EngD) (uv vv : Value), k ≤ l.length ∧ now = .int .i64 (tmL l k) ∧ i = .int .i64 k ∧ wr.ownsRow B1 3 1 ts k (timV l k) ∧ EngM wr X V uv vv rv tv d ∧ WinSt d (hisL l k) q (1 + (m : Int)) (tmL l k) ∧ B1 ≤ wr.heap.size ∧ Ext w wr) (fun _ _ i _ => l.length - (intOf i).toNat)
 case atStart => exact ⟨0, _, _, _, Nat.zero_le _, rfl, rfl, ⟨rfl, Or.inl ⟨rfl, rfl⟩⟩, hM.out, hws.out, by rw [hB1]; exact Nat.le_refl _, hEw⟩
 case round =>
  clear hM hws hB1 hEw
  obtain ⟨k, d, uv, vv, hk, rfl, rfl, hO, hM, hS, hsz, hEw⟩ := hrel
  rename World => wo
  obtain ⟨op, oc, rfl⟩ := own_form hO
  replace hO := Lib.hid hO
  replace hM := Lib.hid hM
  by_cases hlt : k < l.length
  · obtain ⟨hb1, hb2, hb3⟩ := hbd.out k
    have hTa : 0 ≤ tmL l k ∧ tmL l k + ((l.getD k luD).gap : Int) ≤ 10455 := by
     have := tmL_bd hbd.out k
     omega
    obtain ⟨b, off, rfl, hcs⟩ := hlc.out (by omega)
    obtain ⟨c0, c1, c2⟩ := hcs k hlt
    replace c0 := hEw.get c0
    replace c1 := hEw.get c1
    replace c2 := hEw.get c2
    replace hcs := Lib.hid hcs
    have hT := Lib.hid (show tmL l k + ((l.getD k luD).gap : Int) = tmL l (k + 1) from rfl)
    have hH := Lib.hid (show hisL l k ++ [⟨keyC ((l.getD k luD).card % 3), tmL l k + ((l.getD k luD).gap : Int), ((l.getD k luD).amt : Int)⟩] = hisL l (k + 1) from rfl)
    have hS1 := hS.later (t := tmL l k + ((l.getD k luD).gap : Int)) (by omega)
    have hHl := hisL_len l k
    have hCQ := Lib.hid (fun (c : Nat) (h : c < 3) (lo : Int) => cntJ_eq l c h lo k)
    clear hS hlc
    generalize hisL l k = HK at *
    generalize tmL l k = T0 at *
    generalize (l.getD k luD).gap = G at *
    generalize (l.getD k luD).card = C at *
    generalize (l.getD k luD).amt = A at *
    have htb : timeB (T0 + (G : Int)) = true := by
     unfold timeB
     rw [decide_eq_true (by omega), decide_eq_true (by omega)]
     rfl
    obtain ⟨c3, hc3⟩ : ∃ c, c = C % 3 := ⟨_, rfl⟩
    have hc33 : c3 < 3 := by omega
    have e4 : ((C : Int)).tmod 3 = (c3 : Int) := by rw [Int.tmod_eq_emod_of_nonneg (by omega)]; omega
    rw [← hc3] at hH
    have hJ := Lib.hid (hS1.judge (by omega) (by omega) (by omega) (by omega) htb c3 (A : Int) (by omega))
    have hR := Lib.hid (hS1.record (by omega) htb c3 (A : Int) (by omega) (by omega))
    have hkV := Lib.hid (show keysV d.names (purF c3 (A : Int)) = [keyC c3] by rw [hS1.names]; exact keys_pur c3 _)
    have hok := Lib.hid hS1.ok
    have hhor : 1 ≤ d.hor ∧ d.hor ≤ 10000000 := by rw [hS1.hor]; omega
    replace htb := Lib.hid htb
    clear hc3 hS1
    have kP := Lib.hid (fun w1 => purchase_any c3 (A : Int) w1 (by omega))
    unfold PurP at kP
    go_wp2_with fail
    go_still_tail 12, (by kernel_rfl)
    change wpList _ _ _ _ _ wo.drew
    have hEd : Ext wo wo.drew := (Ext.refl wo).drew
    generalize wo.drew = wd at *
    replace hEw := hEw.trans hEd
    replace c1 := hEd.get c1
    replace c2 := hEd.get c2
    replace hM := Lib.hid (hM.out.ext hEd)
    replace hO := Lib.hid (ownsRow_extE hO.out hEd)
    have hsd := hEd.size
    replace hsz : B1 ≤ wd.heap.size := by omega
    clear hEd hsd c0
    go_wp2_with fail
    refine (kP.out _).mono ?_
    rintro e w6 ⟨fv, rfl, hF, hE6⟩
    obtain ⟨BF, hF⟩ : ∃ B, FtO w6 B fv (purF c3 (A : Int)) := ⟨_, hF⟩
    obtain ⟨fp, fc, rfl⟩ : ∃ p c, fv = .slice p 9 c := hF.form
    replace hF := Lib.hid hF
    replace hEw := hEw.trans hE6
    replace c1 := hE6.get c1
    replace c2 := hE6.get c2
    replace hM := Lib.hid (hM.out.ext hE6)
    replace hO := Lib.hid (ownsRow_extE hO.out hE6)
    have hsd := hE6.size
    replace hsz : B1 ≤ w6.heap.size := by omega
    clear hE6 hsd kP
    go_wp2_with fail
    go_loopw [16, 17] (fun c i wr => ∃ j : Nat, j ≤ k ∧ c = .int .i64 ((cntJ l c3 (T0 + (G : Int) - (1 + (m : Int))) j : Nat) : Int) ∧ i = .int .i64 j ∧ Ext w6 wr) (fun _ i _ => k - (intOf i).toNat)
    case atStart => exact ⟨0, Nat.zero_le _, rfl, rfl, Ext.refl _⟩
    case round =>
     obtain ⟨j, hj, rfl, rfl, hE⟩ := hrel
     rename World => wj
     have hcl := cntJ_le l c3 (T0 + (G : Int) - (1 + (m : Int))) j
     by_cases hlj : j < k
     · obtain ⟨-, d1, -⟩ := hcs.out j (by omega)
       obtain ⟨-, db, -⟩ := hbd.out j
       replace d1 := (hEw.trans hE).get d1
       have e1 := hE.get c1
       have hst := Lib.hid (show cntJ l c3 (T0 + (G : Int) - (1 + (m : Int))) (j + 1) = if (l.getD j luD).card % 3 = c3 ∧ (T0 + (G : Int) - (1 + (m : Int))) < tmL l (j + 1) then cntJ l c3 (T0 + (G : Int) - (1 + (m : Int))) j + 1 else cntJ l c3 (T0 + (G : Int) - (1 + (m : Int))) j from rfl)
       have htj := tmL_bd hbd.out (j + 1)
       have hpt : ∃ g, op = some ⟨g, 0, none⟩ := by
        obtain ⟨-, ⟨h1, h2⟩ | ⟨g, cap, cur, h1, -⟩⟩ := hO.out
        · omega
        · injection h1 with h1
          exact ⟨g, h1⟩
       obtain ⟨og, rfl⟩ := hpt
       have tc := hE.get ((hO.out.cellAt j (by omega)).trans (timV_get l k j hlj))
       generalize (l.getD j luD).card = D at *
       generalize tmL l (j + 1) = TJ at *
       obtain ⟨d3, hd3⟩ : ∃ c, c = D % 3 := ⟨_, rfl⟩
       have e5 : ((D : Int)).tmod 3 = (d3 : Int) := by rw [Int.tmod_eq_emod_of_nonneg (by omega)]; omega
       rw [← hd3] at hst
       have hd33 : d3 < 3 := by omega
       by_cases hcd : d3 = c3
       · clear hd3
         subst hcd
         by_cases htm : T0 + (G : Int) - (1 + (m : Int)) < TJ
         · have q0 : decide (T0 + (G : Int) - (1 + (m : Int)) < TJ) = true := decide_eq_true htm
           have hN2 := Lib.hid (hst.out.trans (if_pos ⟨rfl, htm⟩))
           clear hst
           go_wp2_with fail
           go_quiet (fail)
           go_wp2
           go_roundw
           case rel => exact ⟨j + 1, by omega, by rw [hN2.out]; go_num, by go_num, hE.trans xt⟩
           case measure => simp [intOf]; omega
         · have q0 : decide (T0 + (G : Int) - (1 + (m : Int)) < TJ) = false := decide_eq_false htm
           have hN2 := Lib.hid (hst.out.trans (if_neg (fun h => htm h.2)))
           clear hst
           go_wp2_with fail
           go_quiet (fail)
           go_wp2
           go_roundw
           case rel => exact ⟨j + 1, by omega, by rw [hN2.out], by go_num, hE.trans xt⟩
           case measure => simp [intOf]; omega
       · have q1 : ((d3 : Int) == (c3 : Int)) = false := by simpa using (fun h => hcd (by omega))
         have hN2 := Lib.hid (hst.out.trans (if_neg (fun h => hcd h.1)))
         clear hst hd3
         go_wp2_with fail
         go_quiet (fail)
         go_wp2
         go_roundw
         case rel => exact ⟨j + 1, by omega, by rw [hN2.out], by go_num, hE.trans xt⟩
         case measure => simp [intOf]; omega
     · obtain rfl : k = j := by omega
       have hCK := hCQ.out c3 hc33 (T0 + (G : Int) - (1 + (m : Int)))
       replace hEw := hEw.trans hE
       replace c2 := hE.get c2
       replace hM := Lib.hid (hM.out.ext hE)
       replace hF := Lib.hid (hF.out.ext hE)
       replace hO := Lib.hid (ownsRow_extE hO.out hE)
       have hsd := hE.size
       replace hsz : B1 ≤ wj.heap.size := by omega
       replace hJ := hJ.out
       rw [hCK] at hJ
       clear hcs hCQ hCK e4 c1 hE hsd hlj
       generalize cntJ l c3 (T0 + (G : Int) - (1 + (m : Int))) k = cn at *
       go_wp2_with fail
       refine (judge_any X V uv vv rv tv d (T0 + (G : Int)) _ (purF c3 (A : Int)) wj hM.out hok.out hF.out.feats (purF_txt _ _)).mono ?_
       rintro e w7 ⟨hE7, ⟨ht, -⟩ | ⟨-, fa, rfl, hKa, hTa2⟩⟩
       · rw [htb.out] at ht
         cases ht
       rw [hJ] at hKa ⊢
       replace hEw := hEw.trans hE7
       replace c2 := hE7.get c2
       replace hM := Lib.hid (hM.out.ext hE7)
       replace hF := Lib.hid (hF.out.ext hE7)
       replace hO := Lib.hid (ownsRow_extE hO.out hE7)
       have hsd := hE7.size
       replace hsz : B1 ≤ w7.heap.size := by omega
       clear hJ hE7 hsd
       by_cases hqc : (q : Int) ≤ (cn : Int)
       · have q0 : decide ((q : Int) ≤ (cn : Int)) = true := decide_eq_true hqc
         have q1 : decide (q ≤ cn) = true := decide_eq_true (by omega)
         rw [if_pos hqc] at hKa ⊢
         obtain ⟨ap, ac, rfl⟩ : ∃ p c, fa = .slice p 1 c := by
          obtain ⟨p, c, h, -⟩ := hKa
          exact ⟨p, c, h⟩
         unfold verAgg
         clear hKa hTa2
         have hE8 : Ext w7 (w7.alloc (.cells #[.int .i64 2, .int .i64 0, .slice ap 1 ac] 24)) := xt
         replace hEw := hEw.trans hE8
         replace c2 := hE8.get c2
         go_wp2_with fail
         replace hM := Lib.hid (hM.out.ext hE8)
         replace hF := Lib.hid (hF.out.ext hE8)
         replace hO := Lib.hid (ownsRow_extE hO.out hE8)
         have hsd := hE8.size
         replace hsz : B1 ≤ (w7.alloc (.cells #[.int .i64 2, .int .i64 0, .slice ap 1 ac] 24)).heap.size := by omega
         generalize w7.alloc (.cells #[.int .i64 2, .int .i64 0, .slice ap 1 ac] 24) = w8 at *
         clear hE8 hsd
         refine (frecord_any X V uv vv rv tv d (T0 + (G : Int)) _ (purF c3 (A : Int)) (A : Int) w8 hM.out hok.out.vo hhor hok.out.ns hF.out.feats (purF_txt _ _)).mono ?_
         rintro e w9 ⟨he, uv1, vv1, hM2, hC2⟩
         rw [hkV.out] at he hM2
         rw [hR.out.1] at he
         subst he
         have hS2 := hR.out.2
         rw [hH.out, hT.out] at hS2
         rw [hT.out] at hM2
         replace hM := Lib.hid hM2
         replace hEw := engF_ext hEw hC2 hwX hXV
         replace hO := Lib.hid (ownsRow_chg hO.out hC2 (fun b hb => by
          obtain ⟨cs, h1⟩ := ownsRow_blk hO.out hb
          exact not_engF h1 (by decide) (by decide) (by decide) (by decide)))
         have hsd := hC2.size
         replace hsz : B1 ≤ w9.heap.size := by omega
         replace hS2 := Lib.hid hS2
         generalize (addV d (tmL l (k + 1)) [keyC c3] (A : Int)).1 = dn at *
         clear hC2 hM2 hsd hR hkV hok hF c2 hH
         have hWP := Lib.hid (fun (w' : World) (hg : (w9.alloc (.cells #[.int .i64 (T0 + (G : Int))] 3)).grownBy w' (Value.slice op k oc).ownBlock) => win_push (hM.out.ext ((Ext.refl _).alloc _)) (hEw.alloc _) hBV hwB (ownsRow_extE hO.out ((Ext.refl _).alloc _)) hg)
         go_wp2_with (at_builtin; refine wpList_append_lies _ rfl _ _ 48 rfl B1 3 i0 (.int .i64 0) 1 8 Tryz.underlying48 hI.out hz0.out hz1.out hz2.out rfl (by decide) _ k (timV l k) rfl (ownsRow_extE hO.out ((Ext.refl _).alloc _)) ⟨w9.heap.size, 0, none⟩ 1 1 [.int .i64 (T0 + (G : Int))] rfl rfl (World.news_of_block (Blk.new' w9 #[.int .i64 (T0 + (G : Int))] 3 _ (by simp))) (int_one _) (by decide) (by unfold maxLen; omega) (by omega) (by simp; omega) (w9.heap.size + 1) (by simp) ?_; intro gg cap w12 hown12 hgrow12 hat12 hgl12; have hP := hWP.out _ hgrow12; clear hgrow12 hat12 hgl12; replace hown12 := Lib.hid hown12; replace hP := Lib.hid hP)
         go_wp2
         go_roundw
         case rel => exact ⟨k + 1, dn, uv1, vv1, by omega, by rw [hT.out], by go_num, by rw [timV_snoc, ← hT.out]; exact hown12.out, hP.out.1, hS2.out, Nat.le_trans hsz (Nat.le_trans (by simp) hP.out.2.2), hP.out.2.1⟩
         case measure => simp [intOf]; omega
       · have q0 : decide ((q : Int) ≤ (cn : Int)) = false := decide_eq_false hqc
         have q1 : decide (q ≤ cn) = false := decide_eq_false (by omega)
         rw [if_neg hqc] at hKa ⊢
         obtain ⟨ap, ac, rfl⟩ : ∃ p c, fa = .slice p 0 c := by
          obtain ⟨p, c, h, -⟩ := hKa
          exact ⟨p, c, h⟩
         unfold verAgg
         clear hKa hTa2
         have hE8 : Ext w7 (w7.alloc (.cells #[.int .i64 0, .int .i64 0, .slice ap 0 ac] 24)) := xt
         replace hEw := hEw.trans hE8
         replace c2 := hE8.get c2
         go_wp2_with fail
         replace hM := Lib.hid (hM.out.ext hE8)
         replace hF := Lib.hid (hF.out.ext hE8)
         replace hO := Lib.hid (ownsRow_extE hO.out hE8)
         have hsd := hE8.size
         replace hsz : B1 ≤ (w7.alloc (.cells #[.int .i64 0, .int .i64 0, .slice ap 0 ac] 24)).heap.size := by omega
         generalize w7.alloc (.cells #[.int .i64 0, .int .i64 0, .slice ap 0 ac] 24) = w8 at *
         clear hE8 hsd
         refine (frecord_any X V uv vv rv tv d (T0 + (G : Int)) _ (purF c3 (A : Int)) (A : Int) w8 hM.out hok.out.vo hhor hok.out.ns hF.out.feats (purF_txt _ _)).mono ?_
         rintro e w9 ⟨he, uv1, vv1, hM2, hC2⟩
         rw [hkV.out] at he hM2
         rw [hR.out.1] at he
         subst he
         have hS2 := hR.out.2
         rw [hH.out, hT.out] at hS2
         rw [hT.out] at hM2
         replace hM := Lib.hid hM2
         replace hEw := engF_ext hEw hC2 hwX hXV
         replace hO := Lib.hid (ownsRow_chg hO.out hC2 (fun b hb => by
          obtain ⟨cs, h1⟩ := ownsRow_blk hO.out hb
          exact not_engF h1 (by decide) (by decide) (by decide) (by decide)))
         have hsd := hC2.size
         replace hsz : B1 ≤ w9.heap.size := by omega
         replace hS2 := Lib.hid hS2
         generalize (addV d (tmL l (k + 1)) [keyC c3] (A : Int)).1 = dn at *
         clear hC2 hM2 hsd hR hkV hok hF c2 hH
         have hWP := Lib.hid (fun (w' : World) (hg : (w9.alloc (.cells #[.int .i64 (T0 + (G : Int))] 3)).grownBy w' (Value.slice op k oc).ownBlock) => win_push (hM.out.ext ((Ext.refl _).alloc _)) (hEw.alloc _) hBV hwB (ownsRow_extE hO.out ((Ext.refl _).alloc _)) hg)
         go_wp2_with (at_builtin; refine wpList_append_lies _ rfl _ _ 48 rfl B1 3 i0 (.int .i64 0) 1 8 Tryz.underlying48 hI.out hz0.out hz1.out hz2.out rfl (by decide) _ k (timV l k) rfl (ownsRow_extE hO.out ((Ext.refl _).alloc _)) ⟨w9.heap.size, 0, none⟩ 1 1 [.int .i64 (T0 + (G : Int))] rfl rfl (World.news_of_block (Blk.new' w9 #[.int .i64 (T0 + (G : Int))] 3 _ (by simp))) (int_one _) (by decide) (by unfold maxLen; omega) (by omega) (by simp; omega) (w9.heap.size + 1) (by simp) ?_; intro gg cap w12 hown12 hgrow12 hat12 hgl12; have hP := hWP.out _ hgrow12; clear hgrow12 hat12 hgl12; replace hown12 := Lib.hid hown12; replace hP := Lib.hid hP)
         go_wp2
         go_roundw
         case rel => exact ⟨k + 1, dn, uv1, vv1, by omega, by rw [hT.out], by go_num, by rw [timV_snoc, ← hT.out]; exact hown12.out, hP.out.1, hS2.out, Nat.le_trans hsz (Nat.le_trans (by simp) hP.out.2.2), hP.out.2.1⟩
         case measure => simp [intOf]; omega
  · obtain rfl : k = l.length := by omega
    clear hO hM hS
    go_wp2_with fail
    refine (awake_any _ (g.out.ext hEw)).mono ?_
    rintro e w9 ⟨rfl, hE9⟩
    go_wp2
    try go_ret
    exact hend.out _ (hEw.trans hE9)
end Go.Proofs.YtangdoidkcelfaaGreatDoor
