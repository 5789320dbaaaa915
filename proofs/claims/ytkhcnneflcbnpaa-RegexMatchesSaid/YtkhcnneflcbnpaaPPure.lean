/-
  How an expression's text is read, in plain terms: what each reading function answers, and where it leaves the reader. Conditions: none.
-/
import Derived.Test.YtkhcnneflcbnpaaRMat
import Derived.Test.YtkhcnneflcbnpaaShelf
namespace Go.Proofs.Ytkhcnneflcbnpaa
open Go.RowKit

def bt (s : ByteArray) (k : Nat) : Nat := if h : k < s.size then s[k].toNat else 0
theorem bt_in {s : ByteArray} {k : Nat} (h : k < s.size) : bt s k = s[k].toNat := by simp [bt, h]
theorem bt_out {s : ByteArray} {k : Nat} (h : ¬ k < s.size) : bt s k = 0 := by simp [bt, h]
theorem bt_lt (s : ByteArray) (k : Nat) : bt s k < 256 := by
  unfold bt; split
  · exact s[k].toNat_lt
  · omega

/-- where a reader stands -/
structure PS where
  at_ : Nat
  bad : Bool
  long : Bool
  deep : Int

namespace PS
def next (st : PS) : PS := { st with at_ := st.at_ + 1 }
def fail (st : PS) : PS := { st with bad := true }
def stop (st : PS) : PS := { st with bad := true, long := true }
def back (st : PS) (k : Nat) : PS := { st with at_ := k, bad := true }
end PS

def isB (s : ByteArray) (b : Nat) (st : PS) : Bool := decide (st.at_ < s.size) && decide (bt s st.at_ = b)
def isS (s : ByteArray) (b : Nat) (st : PS) : PS := if isB s b st then st.next else st

/-- a hex digit's number, 16: none -/
def hexD (c : Nat) : Nat := if 48 ≤ c ∧ c ≤ 57 then c - 48 else if 97 ≤ c ∧ c ≤ 102 then c - 87 else 16
def hexs : ByteArray := ⟨#[48,49,50,51,52,53,54,55,56,57,97,98,99,100,101,102]⟩
theorem hex_index (c : Nat) (h : c < 256) : Lib.indexByte hexs.data.toList ((c : Int).toNat.toUInt8) = if hexD c < 16 then (hexD c : Int) else -1 := by
  have key : ∀ c : Fin 256, Lib.indexByte hexs.data.toList (c.val.toUInt8) = if hexD c.val < 16 then (hexD c.val : Int) else -1 := by decide +kernel
  simpa using key ⟨c, h⟩

/-- is a byte among some? -/
def inS (sp : ByteArray) (c : Nat) : Bool := decide (0 ≤ Lib.indexByte sp.data.toList ((c : Int).toNat.toUInt8))

def digitOk (s : ByteArray) (st : PS) : Bool := decide (st.at_ < s.size) && decide (hexD (bt s st.at_) < 16)
def digitV (s : ByteArray) (st : PS) : Nat := if digitOk s st then hexD (bt s st.at_) else 0
def digitS (s : ByteArray) (st : PS) : PS := if digitOk s st then st.next else st.fail

def hexS (s : ByteArray) (st : PS) : PS := digitS s st.next
def escV (s : ByteArray) (sp : ByteArray) (st : PS) : Nat :=
  if st.at_ < s.size then
    if bt s st.at_ = 110 then 10 else if bt s st.at_ = 116 then 9 else if bt s st.at_ = 115 then 32
    else if bt s st.at_ = 120 then (if (hexS s st).bad then 0 else 16 * digitV s st.next + digitV s (hexS s st))
    else if inS sp (bt s st.at_) then bt s st.at_ else 0
  else 0
def escS (s : ByteArray) (sp : ByteArray) (st : PS) : PS :=
  if st.at_ < s.size then
    if bt s st.at_ = 110 then st.next else if bt s st.at_ = 116 then st.next else if bt s st.at_ = 115 then st.next
    else if bt s st.at_ = 120 then (if (hexS s st).bad then hexS s st else digitS s (hexS s st))
    else if inS sp (bt s st.at_) then st.next else st.fail
  else st.fail
/-- a byte that stands for itself -/
def plainB (sp : ByteArray) (c : Nat) : Bool := !(decide (c ≤ 32) || decide (127 ≤ c) || inS sp c)
def letV (s : ByteArray) (sp : ByteArray) (st : PS) : Nat :=
  if st.at_ < s.size then (if bt s st.at_ = 92 then escV s sp st.next else if plainB sp (bt s st.at_) then bt s st.at_ else 0) else 0
def letS (s : ByteArray) (sp : ByteArray) (st : PS) : PS :=
  if st.at_ < s.size then (if bt s st.at_ = 92 then escS s sp st.next else if plainB sp (bt s st.at_) then st.next else st.fail) else st.fail

theorem digitV_lt (s : ByteArray) (st : PS) : digitV s st < 16 := by
  unfold digitV; split
  · rename_i h; simp [digitOk] at h; exact h.2
  · omega
theorem escV_lt (s sp : ByteArray) (st : PS) : escV s sp st < 256 := by
  have := digitV_lt s st.next
  have := digitV_lt s (hexS s st)
  have := bt_lt s st.at_
  unfold escV; (repeat' split) <;> omega
theorem letV_lt (s sp : ByteArray) (st : PS) : letV s sp st < 256 := by
  have := escV_lt s sp st.next
  have := bt_lt s st.at_
  unfold letV; (repeat' split) <;> omega

namespace W4
def put (s : W4) (i : Nat) (x : Int) : W4 := if i = 0 then { s with a := x } else if i = 1 then { s with b := x } else if i = 2 then { s with c := x } else { s with d := x }
/-- a set with one byte more, as the program reckons it -/
def add (s : W4) (b : Nat) : W4 := s.put (b / 64) (bits .or .u64 (s.get (b / 64)) (IntKind.u64.wrap (2 ^ (b % 64))))
def addTo (s : W4) (lo hi : Nat) : W4 := (List.range' lo (hi + 1 - lo)).foldl W4.add s
def one (b : Nat) : W4 := W4.zero.put (b / 64) (IntKind.u64.wrap (2 ^ (b % 64)))
end W4

def specialIn : ByteArray := ⟨#[93, 94, 45, 92]⟩
def specialOut : ByteArray := ⟨#[124, 42, 43, 63, 40, 41, 91, 93, 46, 92]⟩

/-- a letter, or a range: the reader behind it -/
def spanRange (s : ByteArray) (st : PS) : Bool := !(letS s specialIn st).bad && isB s 45 (letS s specialIn st)
def spanHi (s : ByteArray) (st : PS) : Nat := if spanRange s st then letV s specialIn (isS s 45 (letS s specialIn st)) else letV s specialIn st
def spanS (s : ByteArray) (st : PS) : PS :=
  let st1 := letS s specialIn st
  if spanRange s st then
    let st3 := letS s specialIn (isS s 45 st1)
    if !st3.bad && decide (spanHi s st < letV s specialIn st) then st3.back (st1.at_ + 1) else st3
  else st1
def spanW (s : ByteArray) (st : PS) (ws : W4) : W4 := if (spanS s st).bad then ws else ws.addTo (letV s specialIn st) (spanHi s st)

end Go.Proofs.Ytkhcnneflcbnpaa
