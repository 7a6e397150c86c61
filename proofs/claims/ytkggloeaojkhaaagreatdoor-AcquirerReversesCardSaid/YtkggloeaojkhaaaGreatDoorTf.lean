/- A sale that times out: the contracts of the law's calls (printed by gen/h95.py). -/
import Derived.Test.YtkggloeaojkhaaaGreatDoorTe
import Derived.Test.YtkggloeaojkhaaaGreatDoorTr
namespace Go.Proofs.YtkggloeaojkhaaaGreatDoor
open Go.RowKit
theorem rv_small {r1 r2 : ByteArray} (h1 : r1.size = 12) (h2 : r2.size = 12) : SmallV (rvEs r1 r2) ∧ SmallV (rvRe r1 r2) := by
 have a1 := digS_size 12 1000
 have a2 := digS_size 6 2
 constructor
 · intro j hj
   have hj7 : j < 7 := hj
   rcases (by omega : j = 0 ∨ j = 1 ∨ j = 2 ∨ j = 3 ∨ j = 4 ∨ j = 5 ∨ j = 6) with rfl | rfl | rfl | rfl | rfl | rfl | rfl
   · show awP.car.size ≤ 1000000; decide
   · show (digS 12 1000).size ≤ 1000000; omega
   · show (digS 6 2).size ≤ 1000000; omega
   · show awN.size ≤ 1000000; decide
   · show r2.size ≤ 1000000; omega
   · show awP.cur.size ≤ 1000000; decide
   · show r1.size ≤ 1000000; omega
 · intro j hj
   have hj7 : j < 8 := hj
   rcases (by omega : j = 0 ∨ j = 1 ∨ j = 2 ∨ j = 3 ∨ j = 4 ∨ j = 5 ∨ j = 6 ∨ j = 7) with rfl | rfl | rfl | rfl | rfl | rfl | rfl | rfl
   · show awP.car.size ≤ 1000000; decide
   · show (digS 12 1000).size ≤ 1000000; omega
   · show (digS 6 2).size ≤ 1000000; omega
   · show awN.size ≤ 1000000; decide
   · show r2.size ≤ 1000000; omega
   · show (⟨#[48, 48]⟩ : ByteArray).size ≤ 1000000; decide
   · show awP.cur.size ≤ 1000000; decide
   · show r1.size ≤ 1000000; omega
section
variable (B : Nat) (I : HostI) (w : World)
theorem rvPur_any (A T R : Int) (hA : 0 ≤ A ∧ A < 8640000000) (g : Gl w) (hGB : GB B) (hB : B ≤ w.heap.size) (h : HostM w B I (hostNew awN 3 T R)) : Calls Tryz.prog 6 #[.pointer (some ⟨I.X, 0, none⟩), .int .i64 A, .agg #[.string ⟨#[109, 45, 49]⟩, .string ⟨#[116, 49]⟩, .string ⟨#[52, 48, 48, 48, 48, 48, 48, 48, 48, 48, 48, 48, 48, 48, 48, 50]⟩, .int .i64 1000, .int .i64 0, .string ⟨#[69, 85, 82]⟩, .int .i64 5411]] w fun e w' => ∃ q n c, e = .returned (.tuple #[.string (rR1 A), .agg #[.int .i64 100, .slice q n c], .int .i64 0]) ∧ HostM w' B I (rD1 A T R A) ∧ Chg (HF B I w) w w' := by
 refine (hPur_any B I (hostNew awN 3 T R) A awP w g hGB hB h (fun x hx => by cases hx)).mono ?_
 intro e w' hp
 obtain ⟨es, hq⟩ := pur_eq A T R hA
 unfold HPurP at hp
 rw [hq] at hp
 obtain ⟨v, he, hv, hM, hF⟩ := hp
 obtain ⟨q, c, rfl⟩ := elems_form hv
 exact ⟨q, _, c, he, hM, hF⟩
theorem rvNext_any (A T R now : Int) (h : HostM w B I (rD1 A T R now)) : Calls Tryz.prog 7 #[.pointer (some ⟨I.X, 0, none⟩)] w (OneQ (.tuple #[.int .i64 (A + T), .bool true]) w) := by
 have k := hNext_any B I (rD1 A T R now) w h
 rw [next1] at k
 exact k
theorem rvNextF_any (A T R n now : Int) (h : HostM w B I (rF A T R n now)) : Calls Tryz.prog 7 #[.pointer (some ⟨I.X, 0, none⟩)] w fun e w' => ∃ t, e = .returned (.tuple #[.int .i64 t, .bool false]) ∧ Ext w w' := by
 have k := hNext_any B I (rF A T R n now) w h
 rw [nextF] at k
 exact k.mono fun e w' ⟨he, hE⟩ => ⟨_, he, hE⟩
/-- Poll returns nothing. -/
theorem rvPollN_any (d d' : HostD) (n : Int) (hq : pollV d n = (d', [])) (g : Gl w) (hGB : GB B) (hB : B ≤ w.heap.size) (h : HostM w B I d) (hkn : d.q.known.length < 900000) (htx : ∀ e ∈ d.q.items, e.text.size ≤ 4000) : Calls Tryz.prog 8 #[.pointer (some ⟨I.X, 0, none⟩), .int .i64 n] w fun e w' => ∃ q c, e = .returned (.slice q 0 c) ∧ HostM w' B I d' ∧ Chg (HF B I w) w w' := by
 refine (hPoll_any B I d n w g hGB hB h hkn htx).mono ?_
 intro e w' hp
 unfold HPollP at hp
 rw [hq] at hp
 obtain ⟨v, he, hv, hM, hF⟩ := hp
 obtain ⟨q, c, rfl⟩ := hv.form
 exact ⟨q, c, he, hM, hF⟩
/-- Poll returns one message. -/
theorem rvPollO_any (d d' : HostD) (n ty : Int) (es : List El) (hq : pollV d n = (d', [(ty, es)])) (g : Gl w) (hGB : GB B) (hB : B ≤ w.heap.size) (h : HostM w B I d) (hkn : d.q.known.length < 900000) (htx : ∀ e ∈ d.q.items, e.text.size ≤ 4000) : Calls Tryz.prog 8 #[.pointer (some ⟨I.X, 0, none⟩), .int .i64 n] w fun e w' => ∃ gb ob c ev, e = .returned (.slice (some ⟨gb, ob, none⟩) 1 c) ∧ w'.cell? ⟨gb, ob, none⟩ = some (.int .i64 ty) ∧ w'.cell? ⟨gb, ob + 1, none⟩ = some ev ∧ ElsT w' ev es ∧ (∃ cs, Blk w' gb cs 29) ∧ HostM w' B I d' ∧ Chg (HF B I w) w w' := by
 refine (hPoll_any B I d n w g hGB hB h hkn htx).mono ?_
 intro e w' hp
 unfold HPollP at hp
 rw [hq] at hp
 obtain ⟨v, he, ⟨r, hr, hrl, hre⟩, hM, hF⟩ := hp
 obtain ⟨y, rfl⟩ : ∃ y, r = [y] := by
  cases r with
  | nil => simp at hrl
  | cons y r => cases r with
   | nil => exact ⟨y, rfl⟩
   | cons z r => simp at hrl
 obtain ⟨h1, h2⟩ := hre 0 (ty, es) y rfl rfl
 have hbk := fun k (hk : v.ownBlock = some k) => hr.blk hk
 rcases hr.lie with ⟨-, h0⟩ | ⟨gb, ob, c, rfl, -, -, -, -, -, hcell⟩
 · cases h0
 · have c0 := hcell 0 y rfl 0 _ rfl
   have c1 := hcell 0 y rfl 1 _ rfl
   rw [h1] at c0
   rw [Nat.zero_mul, Nat.add_zero] at c0 c1
   exact ⟨gb, ob, c, y.2, he, c0, c1, h2, (hbk gb rfl).2.2, hM, hF⟩
end
theorem rvGet_any (r1 r2 : ByteArray) (v : Value) (w : World) (hv : Elems w v (rvEs r1 r2)) : Calls Tryz.prog 9 #[msgAgg 420 v, .int .i64 56] w (OneQ (.tuple #[.string r1, .bool true]) w) := rGet_any 420 56 v (rvEs r1 r2) w hv (by show 7 ≤ 1000000; decide)
theorem rvChk_any (A n : Int) (v : Value) (w : World) (hv : Elems w v (rvEs (rR1 A) (rR2 n))) : Calls Tryz.prog 10 #[msgAgg 420 v] w (OneQ (.int .i64 0) w) := by
 have k := rmcheck_any 420 v (rvEs (rR1 A) (rR2 n)) w hv (by show 7 ≤ 1000000; decide) (rv_small (refS_size _ _ _) (refS_size _ _ _)).1
 rw [(rv_chk (r1 := rR1 A) (r2 := rR2 n) (chk_ref _ _ _).2 (chk_ref _ _ _).1).1] at k
 exact k
theorem rvRep_any (r1 r2 : ByteArray) (v : Value) (w : World) (hv : Elems w v (rvEs r1 r2)) : Calls Tryz.prog 11 #[msgAgg 420 v, .string ⟨#[48, 48]⟩] w fun e w' => ∃ v', e = .returned (.tuple #[msgAgg 430 v', .int .i64 0]) ∧ ElsT w' v' (rvRe r1 r2) ∧ Ext w w' := by
 refine (rreplyT_any 420 v (rvEs r1 r2) ⟨#[48, 48]⟩ w hv (by show 7 ≤ 1000000; decide) (by decide)).mono ?_
 rintro e w' ⟨v', he, hv', hE⟩
 rw [(rv_rep r1 r2).2.1, (rv_rep r1 r2).2.2] at he
 rw [(rv_rep r1 r2).1] at hv'
 exact ⟨v', he, hv', hE⟩
section
variable (B : Nat) (I : HostI) (w : World)
theorem rvSale_any (A T R n due tries now : Int) (h : HostM w B I (rE A T R n due tries now)) : Calls Tryz.prog 12 #[.pointer (some ⟨I.X, 0, none⟩), .string (rR1 A)] w fun e w' => ∃ x : SaleD, e = .returned (.tuple #[salAgg x, .bool true]) ∧ x.st = 4 ∧ Ext w w' := by
 refine (hSale_any B I _ (rR1 A) w h (by rw [show (rR1 A).size = 12 from refS_size _ _ _]; decide)).mono ?_
 rintro e w' ⟨hE, ⟨h1, -⟩ | ⟨i, x, h1, hx, he⟩⟩
 · rw [saleE] at h1; cases h1
 · rw [saleE] at h1
   injection h1 with h1
   subst h1
   have h2 : some (revSale (rS A T)) = some x := hx
   injection h2 with h2
   exact ⟨x, he, by rw [← h2]; rfl, hE⟩
theorem rvRecE_any (A T R n due tries now at' : Int) (v : Value) (h1 : 0 ≤ at' ∧ at' < 8640000000) (h2 : now ≤ at') (g : Gl w) (hB : B ≤ w.heap.size) (h : HostM w B I (rE A T R n due tries now)) (hv : Elems w v (rvRe (rR1 A) (rR2 n))) : Calls Tryz.prog 13 #[.pointer (some ⟨I.X, 0, none⟩), .int .i64 at', msgAgg 430 v] w fun e w' => e = .returned (.int .i64 0) ∧ HostM w' B I (rF A T R n at') ∧ Chg (HF B I w) w w' := by
 refine (hRec_any B I _ at' 430 v _ w g hB h hv (by show 8 ≤ 1000000; decide) (rv_small (refS_size _ _ _) (refS_size _ _ _)).2).mono ?_
 intro e w' hp
 unfold HRecP at hp
 rw [recE A T R n due tries now at' h1 h2] at hp
 exact hp
theorem rvRecF_any (A T R n now at' : Int) (v : Value) (h1 : 0 ≤ at' ∧ at' < 8640000000) (h2 : now ≤ at') (g : Gl w) (hB : B ≤ w.heap.size) (h : HostM w B I (rF A T R n now)) (hv : Elems w v (rvRe (rR1 A) (rR2 n))) : Calls Tryz.prog 13 #[.pointer (some ⟨I.X, 0, none⟩), .int .i64 at', msgAgg 430 v] w fun e w' => e = .returned (.int .i64 0) ∧ HostM w' B I (rF A T R n at') ∧ Chg (HF B I w) w w' := by
 refine (hRec_any B I _ at' 430 v _ w g hB h hv (by show 8 ≤ 1000000; decide) (rv_small (refS_size _ _ _) (refS_size _ _ _)).2).mono ?_
 intro e w' hp
 unfold HRecP at hp
 rw [recF A T R n now at' h1 h2] at hp
 exact hp
end
end Go.Proofs.YtkggloeaojkhaaaGreatDoor
