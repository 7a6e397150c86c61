/- The example of the chapter on data: acquirer (plain). -/
import Derived.Test.YtkggloeaojkhaaaGreatDoorTa
namespace Go.Proofs.YtkggloeaojkhaaaGreatDoor
open Go.RowKit
def awN : ByteArray := ⟨#[115, 104, 111, 112, 98, 97, 110, 107]⟩
def awP : PurD := ⟨⟨#[109, 45, 49]⟩, ⟨#[116, 49]⟩, ⟨#[52, 48, 48, 48, 48, 48, 48, 48, 48, 48, 48, 48, 48, 48, 48, 50]⟩, 1000, 0, ⟨#[69, 85, 82]⟩, 5411⟩
def awR : ByteArray := ⟨#[48, 48, 48, 50, 48, 51, 48, 48, 48, 48, 48, 49]⟩
def aw0 : HostD := hostNew awN 3 60 30
def aw1 : HostD := (purV aw0 1728000 awP).1
def awEs : List El := (purV aw0 1728000 awP).2.2.2.1
def awRe : List El := repL 100 awEs ⟨#[48, 48]⟩
def aw2 : HostD := (recV aw1 1728005 110 awRe).1
def aw3 : HostD := (capV aw2 1728006 awR 400 false).1
def aw4 : HostD := batH aw3
theorem awPur : (purV aw0 1728000 awP).2.2.2.2 = 0 ∧ (purV aw0 1728000 awP).2.1 = awR ∧ (purV aw0 1728000 awP).2.2.1 = 100 := ⟨by kernel_rfl, by kernel_rfl, by kernel_rfl⟩
theorem awRep : repE 100 ⟨#[48, 48]⟩ = 0 ∧ repT 100 ⟨#[48, 48]⟩ = 110 := ⟨by kernel_rfl, by kernel_rfl⟩
theorem awLen : awEs.length ≤ 30 ∧ awRe.length ≤ 30 := by decide +kernel
theorem awSm : ∀ j, j < awRe.length → (awRe.getD j elD).2.size ≤ 1000000 := by decide +kernel
theorem awRec : (recV aw1 1728005 110 awRe).2 = 0 := by kernel_rfl
theorem awCap1 : (capV aw2 1728006 awR 1201 true).2 = 22 := by kernel_rfl
theorem awCap1d : (capV aw2 1728006 awR 1201 true).1 = aw2 := by kernel_rfl
theorem awCap2 : (capV aw2 1728006 awR 400 false).2 = 0 := by kernel_rfl
theorem awWt2 : aw2.wt.length = 0 := by kernel_rfl
theorem awBat : batE aw3 20 = 0 ∧ batId aw3 20 = ⟨#[70, 50, 48, 45, 49]⟩ ∧ (aw3.wt.take (batN aw3)).map EntD.id = [⟨#[48, 48, 48, 50, 48, 51, 48, 48, 48, 48, 48, 49, 45, 49]⟩] := ⟨by kernel_rfl, by kernel_rfl, by kernel_rfl⟩
theorem awSal : (aw4.sales.map fun s => (s.st, s.appr, s.capt)) = [(2, 1000, 400)] := by kernel_rfl
theorem awIx : sIx awR.data.toList (refsOf aw4) = some 0 := by kernel_rfl
theorem awCan : (canV aw4 1728007 awR).2 = 8 := by kernel_rfl
end Go.Proofs.YtkggloeaojkhaaaGreatDoor
