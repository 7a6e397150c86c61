/- Frames by the types of blocks; forward's queue: data, memory, contracts of New, isTime, Known, find, Next (walks; printed by gen/h73.py). -/
import Derived.Test.YtkggloeaojkhaaaGreatDoorPc
import Derived.Test.YtkggloeaojkhaaaGreatDoorPm
import Derived.Carry
namespace Go.Proofs.YtkggloeaojkhaaaGreatDoor
open Go.RowKit
/-- Block k lies from B on and is a row of one of the types, or one of the maps ms. -/
def Typ (ts : List TypeId) (ms : List Nat) (B : Nat) (w : World) (k : Nat) : Prop := B ≤ k ∧ ((∃ cs T z, w.heap[k]? = some (.cells cs T z) ∧ T ∈ ts) ∨ (k ∈ ms ∧ ∃ es c, w.heap[k]? = some (.map es c)))
theorem Typ.of {ts : List TypeId} {ms : List Nat} {B : Nat} {w : World} {k : Nat} {cs : Array Value} {T : TypeId} (h : Blk w k cs T) (hB : B ≤ k) (hT : T ∈ ts) : Typ ts ms B w k := ⟨hB, Or.inl ⟨cs, T, _, h, hT⟩⟩
theorem Typ.map {ts : List TypeId} {ms : List Nat} {B : Nat} {w : World} {k : Nat} (h : ∃ es c, w.heap[k]? = some (.map es c)) (hB : B ≤ k) (hm : k ∈ ms) : Typ ts ms B w k := ⟨hB, Or.inr ⟨hm, h⟩⟩
theorem Typ.not {ts : List TypeId} {ms : List Nat} {B : Nat} {w : World} {k : Nat} {cs : Array Value} {T : TypeId} (h : Blk w k cs T) (hT : T ∉ ts) : ¬ Typ ts ms B w k := by
 rintro ⟨-, ⟨cs', T', z, e, ht⟩ | ⟨-, es, c, e⟩⟩
 · unfold Blk at h
   rw [h] at e
   injection e with e
   injection e with _ e
   exact hT (e ▸ ht)
 · unfold Blk at h
   rw [h] at e
   injection e with e
   cases e
theorem Typ.notMap {ts : List TypeId} {ms : List Nat} {B : Nat} {w : World} {k : Nat} (h : ∃ es c, w.heap[k]? = some (.map es c)) (hm : k ∉ ms) : ¬ Typ ts ms B w k := by
 obtain ⟨es, c, h⟩ := h
 rintro ⟨-, ⟨cs', T', z, e, ht⟩ | ⟨h2, -⟩⟩
 · rw [h] at e
   injection e with e
   cases e
 · exact hm h2
/-- A row is no map. -/
theorem blk_map {w : World} {k : Nat} {cs : Array Value} {T : TypeId} (h : Blk w k cs T) (h2 : ∃ es c, w.heap[k]? = some (.map es c)) : False := by
 obtain ⟨es, c, h2⟩ := h2
 unfold Blk at h
 rw [h] at h2
 injection h2 with h2
 cases h2
theorem Typ.at {ts : List TypeId} {ms : List Nat} {B : Nat} {w w' : World} {k : Nat} (h : Typ ts ms B w k) (e : w'.heap[k]? = w.heap[k]?) : Typ ts ms B w' k := by
 obtain ⟨h1, h2 | h2⟩ := h
 · exact ⟨h1, Or.inl (by rw [e]; exact h2)⟩
 · exact ⟨h1, Or.inr ⟨h2.1, by rw [e]; exact h2.2⟩⟩
theorem Typ.wide {ts ts' : List TypeId} {ms ms' : List Nat} {B B' : Nat} {w : World} {k : Nat} (h : Typ ts ms B w k) (hs : ∀ t ∈ ts, t ∈ ts') (hm : ∀ m ∈ ms, m ∈ ms') (hB : B' ≤ B) : Typ ts' ms' B' w k := by
 obtain ⟨h1, ⟨cs, T, z, h2, h3⟩ | h2⟩ := h
 · exact ⟨Nat.le_trans hB h1, Or.inl ⟨cs, T, z, h2, hs T h3⟩⟩
 · exact ⟨Nat.le_trans hB h1, Or.inr ⟨hm _ h2.1, h2.2⟩⟩
theorem Typ.trans {ts : List TypeId} {ms : List Nat} {B : Nat} {a b c : World} (h : Chg (Typ ts ms B a) a b) (k : Chg (Typ ts ms B b) b c) : Chg (Typ ts ms B a) a c := by
 refine ⟨k.os.trans h.os, k.tape.trans h.tape, k.output.trans h.output, Nat.le_trans h.size k.size, fun i hi hf => ?_⟩
 have e := h.block i hi hf
 rw [k.block i (Nat.lt_of_lt_of_le hi h.size) (fun hF => hf (hF.at e.symm)), e]
theorem Typ.step {ts : List TypeId} {ms : List Nat} {B : Nat} {a b c : World} {G : Nat → Prop} (h : Chg (Typ ts ms B a) a b) (k : Chg G b c) (hG : ∀ i, i < b.heap.size → G i → Typ ts ms B b i) : Chg (Typ ts ms B a) a c := Typ.trans h (k.mono hG)
/-- What changes such blocks alone, seen from a frame that allows more. -/
theorem Typ.mono {ts ts' : List TypeId} {ms ms' : List Nat} {B B' : Nat} {a b : World} (h : Chg (Typ ts ms B a) a b) (hs : ∀ t ∈ ts, t ∈ ts') (hm : ∀ m ∈ ms, m ∈ ms') (hB : B' ≤ B) : Chg (Typ ts' ms' B' a) a b := h.mono fun _ _ hk => hk.wide hs hm hB
theorem Typ.blk {ts : List TypeId} {ms : List Nat} {B : Nat} {w w' : World} {k : Nat} {cs : Array Value} {T : TypeId} (h : Blk w k cs T) (c : Chg (Typ ts ms B w) w w') (hT : T ∉ ts) : Blk w' k cs T := h.chg c (Typ.not h hT)
theorem Typ.toExt {ts : List TypeId} {ms : List Nat} {w a b : World} (hE : Ext w a) (h : Chg (Typ ts ms w.heap.size a) a b) : Ext w b := Chg.toExt hE h fun _ hk => hk.1
theorem Typ.row {α : Type} {L : Lay α} {ts : List TypeId} {ms : List Nat} {B B' : Nat} {w w' : World} {v : Value} {l : List α} {T : TypeId} (h : RowR L T w B' v l) (c : Chg (Typ ts ms B w) w w') (hT : T ∉ ts) : RowR L T w' B' v l := h.chg c fun b hb => by
 obtain ⟨-, -, cs, hcs⟩ := h.blk hb
 exact Typ.not hcs hT
theorem Typ.smap {ts : List TypeId} {ms : List Nat} {B : Nat} {w w' : World} {k : TypeId} {m n : Nat} {f : KeyF} (h : SMap k w m n f) (c : Chg (Typ ts ms B w) w w') (hm : m ∉ ms) : SMap k w' m n f := h.at (c.block m h.lt (Typ.notMap h.isMap hm))
/-- An item that waits. -/
structure FwE where
 key : ByteArray
 text : ByteArray
 due : Int
 tries : Int
def fwD : FwE := ⟨⟨#[]⟩, ⟨#[]⟩, 0, 0⟩
def fwCells (e : FwE) : List Value := [.string e.key, .string e.text, .int .i64 e.due, .int .i64 e.tries]
def fwL : Lay FwE := ⟨fwCells, 4, by decide, fun _ => rfl⟩
def fwAgg (e : FwE) : Value := .agg #[.string e.key, .string e.text, .int .i64 e.due, .int .i64 e.tries]
structure QueD where
 retry : Int
 known : List (List UInt8)
 items : List FwE
def knownF (ks : List (List UInt8)) : KeyF := fun x => if x ∈ ks then some (.bool true) else none
theorem knownF_cons (ks : List (List UInt8)) (s : List UInt8) : updF (knownF ks) s (.bool true) = knownF (s :: ks) := by
 funext x
 unfold updF knownF
 by_cases h : x = s
 · rw [if_pos h, if_pos (by rw [h]; exact List.mem_cons_self)]
 · rw [if_neg h]
   by_cases h2 : x ∈ ks
   · rw [if_pos h2, if_pos (List.mem_cons_of_mem _ h2)]
   · rw [if_neg h2, if_neg (by rintro hc; rcases List.mem_cons.1 hc with hc | hc; exact h hc; exact h2 hc)]
theorem knownF_get (ks : List (List UInt8)) (s : List UInt8) : (knownF ks s).getD (.bool false) = .bool (decide (s ∈ ks)) := by
 unfold knownF
 by_cases h : s ∈ ks
 · rw [if_pos h, decide_eq_true h]; rfl
 · rw [if_neg h, decide_eq_false h]; rfl
/-- The queue in memory; Q its block, M the map of the keys, qv the row. -/
structure QueX (w : World) (B Q M : Nat) (qv : Value) (d : QueD) : Prop where
 q : Blk w Q #[.int .i64 d.retry, .map (some M), qv] 127
 m : SMap 9 w M d.known.length (knownF d.known)
 r : RowR fwL 134 w B qv d.items
 bq : B ≤ Q
 bm : B ≤ M
 few : d.known.length ≤ 1000000
 re : 1 ≤ d.retry ∧ d.retry ≤ 100000
theorem QueX.ext {w w' : World} {B Q M : Nat} {qv : Value} {d : QueD} (h : QueX w B Q M qv d) (k : Ext w w') : QueX w' B Q M qv d := ⟨h.q.ext k, h.m.ext k, h.r.ext k, h.bq, h.bm, h.few, h.re⟩
def QueM (w : World) (B Q M : Nat) (d : QueD) : Prop := ∃ qv, QueX w B Q M qv d
theorem QueM.ext {w w' : World} {B Q M : Nat} {d : QueD} (h : QueM w B Q M d) (k : Ext w w') : QueM w' B Q M d := by
 obtain ⟨qv, h⟩ := h
 exact ⟨qv, h.ext k⟩
/-- The types of the queue's blocks. -/
def qTs : List TypeId := [127, 134]
/-- A frame that does not touch the queue's blocks. -/
theorem QueX.chg {ts : List TypeId} {ms : List Nat} {w w' : World} {B B' Q M : Nat} {qv : Value} {d : QueD} (h : QueX w B Q M qv d) (k : Chg (Typ ts ms B' w) w w') (h1 : 127 ∉ ts) (h2 : 134 ∉ ts) (hm : M ∉ ms) : QueX w' B Q M qv d :=
 ⟨Typ.blk h.q k h1, Typ.smap h.m k hm, Typ.row h.r k h2, h.bq, h.bm, h.few, h.re⟩
theorem QueM.chg {ts : List TypeId} {ms : List Nat} {w w' : World} {B B' Q M : Nat} {d : QueD} (h : QueM w B Q M d) (k : Chg (Typ ts ms B' w) w w') (h1 : 127 ∉ ts) (h2 : 134 ∉ ts) (hm : M ∉ ms) : QueM w' B Q M d := by
 obtain ⟨qv, h⟩ := h
 exact ⟨qv, h.chg k h1 h2 hm⟩
set_option maxHeartbeats 1000000 in
theorem fwNew_any (retry : Int) (w : World) (h : 1 ≤ retry ∧ retry ≤ 100000) : Calls Tryz.prog 21 #[.int .i64 retry] w fun e w' => ∃ Q M, e = .returned (.tuple #[.pointer (some ⟨Q, 0, none⟩), .int .i64 0]) ∧ QueM w' w.heap.size Q M ⟨retry, [], []⟩ ∧ Ext w w' := by
 have q0 : decide (retry < 1) = false := decide_eq_false (by omega)
 have q1 : decide ((100000 : Int) < retry) = false := decide_eq_false (by omega)
 have hmm := @run_makeMap Tryz.prog
 go_enter Tryz.func21, Tryz.ntmps21
 go_wp2_with fail
 try go_ret2
 refine ⟨_, w.heap.size, rfl, ⟨.slice none 0 0, ?_, ?_, RowR.nil _ _ _ _, by simp, Nat.le_refl _, by simp, h⟩, xt⟩
 · exact Blk.new' _ _ _ _ (by simp)
 · exact (SMap.made _ w).ext ((Ext.refl _).alloc _)
/-- Whether a number is a time. -/
def timeB (n : Int) : Bool := decide (0 ≤ n) && decide (n ≤ 1099511627776)
set_option maxHeartbeats 1000000 in
theorem fwTime_any (n : Int) (w : World) : Calls Tryz.prog 63 #[.int .i64 n] w (OneQ (.bool (timeB n)) w) := by
 unfold timeB
 by_cases h0 : 0 ≤ n
 · by_cases h1 : n ≤ 1099511627776
   · have q0 : decide (0 ≤ n) = true := decide_eq_true h0
     have q1 : decide (n ≤ 1099511627776) = true := decide_eq_true h1
     rw [q0, q1]
     go_enter Tryz.func63, Tryz.ntmps63
     go_wp2
     try go_ret
     exact ⟨rfl, xt⟩
   · have q0 : decide (0 ≤ n) = true := decide_eq_true h0
     have q1 : decide (n ≤ 1099511627776) = false := decide_eq_false h1
     rw [q0, q1]
     go_enter Tryz.func63, Tryz.ntmps63
     go_wp2
     try go_ret
     exact ⟨rfl, xt⟩
 · have q0 : decide (0 ≤ n) = false := decide_eq_false h0
   rw [q0]
   go_enter Tryz.func63, Tryz.ntmps63
   go_wp2
   try go_ret
   exact ⟨rfl, xt⟩
theorem zBool (w : World) : (zeroValue 4).run Tryz.prog w = .ok (.bool false) w := by kernel_rfl
theorem QueX.look {w : World} {B Q M : Nat} {qv : Value} {d : QueD} (h : QueX w B Q M qv d) {s : ByteArray} (hs : s.size ≤ maxLen) : (Instr.lookup 124 (.map (some M)) (.string s) false).run Tryz.prog w = .ok (.bool (decide (s.data.toList ∈ d.known))) w := by
 rw [h.m.look (e := 4) Tryz.underlying9 Tryz.underlying124 (zBool w) hs, knownF_get]
set_option maxHeartbeats 1000000 in
theorem fwKnown_any (B Q M : Nat) (d : QueD) (s : ByteArray) (w : World) (h : QueM w B Q M d) (hs : s.size ≤ maxLen) : Calls Tryz.prog 74 #[.pointer (some ⟨Q, 0, none⟩), .string s] w (OneQ (.bool (decide (s.data.toList ∈ d.known))) w) := by
 obtain ⟨qv, h⟩ := h
 have y1 := (h.q.cell 1).trans rfl
 have hl := h.look hs
 generalize decide (s.data.toList ∈ d.known) = R at *
 clear h hs
 go_enter Tryz.func74, Tryz.ntmps74
 go_wp2_with fail
 try go_ret
 exact ⟨rfl, xt⟩
set_option maxRecDepth 8000 in
set_option maxHeartbeats 1000000 in
theorem find1_any (P : Nat) (key : ByteArray) (u : FwE) (w : World) (h : w.cell? ⟨P, 0, none⟩ = some (.string key)) : Calls Tryz.prog 160 #[fwAgg u, .pointer (some ⟨P, 0, none⟩)] w (OneQ (.bool (decide (u.key = key))) w) := by
 have l0 := cell_lt h
 simp only at l0
 obtain ⟨k, t, du, tr⟩ := u
 unfold fwAgg
 simp only
 by_cases hk : k = key
 · rw [decide_eq_true hk]
   have q := strEq hk
   go_enter Tryz.func160, Tryz.ntmps160
   go_wp2_with fail
   try go_ret
   exact ⟨rfl, xt⟩
 · rw [decide_eq_false hk]
   have q := strNe hk
   go_enter Tryz.func160, Tryz.ntmps160
   go_wp2_with fail
   try go_ret
   exact ⟨rfl, xt⟩
end Go.Proofs.YtkggloeaojkhaaaGreatDoor
