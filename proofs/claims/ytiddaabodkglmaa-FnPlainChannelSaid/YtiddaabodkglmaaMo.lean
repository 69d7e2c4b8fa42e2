import Derived.Test.YtiddaabodkglmaaFk
namespace Go.Fx
open Ieee

/-! what the program reckons, on bits of which all NaNs are one -/

/-- a cell: brightness, and the parts of the colour -/
structure Cel where
  y : Nat
  re : Nat
  im : Nat
  deriving DecidableEq

def Cel.cn (c : Cel) : Cel := ⟨Fx.cn .f32 c.y, Fx.cn .f32 c.re, Fx.cn .f32 c.im⟩
@[simp] theorem Cel.cn_y (c : Cel) : c.cn.y = Fx.cn .f32 c.y := rfl
@[simp] theorem Cel.cn_re (c : Cel) : c.cn.re = Fx.cn .f32 c.re := rfl
@[simp] theorem Cel.cn_im (c : Cel) : c.cn.im = Fx.cn .f32 c.im := rfl

abbrev add32 (x y : Nat) : Nat := fop .add .f32 x y
abbrev sub32 (x y : Nat) : Nat := fop .sub .f32 x y
abbrev mul32 (x y : Nat) : Nat := fop .mul .f32 x y
abbrev quo32 (x y : Nat) : Nat := fop .quo .f32 x y
abbrev neg32 (x : Nat) : Nat := fneg .f32 x

/-- between '-c' and 'c' -/
def within32 (x c : Nat) : Bool := fge .f32 x (Op.negFloat .f32 c) && fle .f32 x c
@[simp] theorem within32_cn (x c : Nat) : within32 (Fx.cn .f32 x) c = within32 x c := by unfold within32; rw [fge_cn_l, fle_cn_l]

def c256 : Nat := 1132462080
def c1024 : Nat := 1149239296
def c16 : Nat := 1098907648
def c64 : Nat := 1115684864

theorem amt_256 (x : Nat) : fle .f32 (amt x) 1132462080 = within32 x 1132462080 := amt_le x 1132462080 (256 * 2 ^ 149) (by decide +kernel) (by decide)
theorem amt_1024 (x : Nat) : fle .f32 (amt x) 1149239296 = within32 x 1149239296 := amt_le x 1149239296 (1024 * 2 ^ 149) (by decide +kernel) (by decide)
theorem amt_16 (x : Nat) : fle .f32 (amt x) 1098907648 = within32 x 1098907648 := amt_le x 1098907648 (16 * 2 ^ 149) (by decide +kernel) (by decide)
theorem amt_64 (x : Nat) : fle .f32 (amt x) 1115684864 = within32 x 1115684864 := amt_le x 1115684864 (64 * 2 ^ 149) (by decide +kernel) (by decide)

def cellOk (c : Cel) : Bool := within32 c.y 1132462080 && within32 c.re 1132462080 && within32 c.im 1132462080
def rowOk (row : List Cel) : Bool := decide (1 ≤ row.length) && decide (row.length ≤ 64) && row.all cellOk

def conjC (c : Cel) : Cel := ⟨c.y, c.re, neg32 c.im⟩
def half32 (x y : Nat) : Nat := quo32 (add32 x y) 1073741824
/-- what sample n of a cell bears of the colour -/
def carried (re im : Nat) (n : Int) : Nat :=
  if n.emod 4 = 0 then re else if n.emod 4 = 1 then neg32 im else if n.emod 4 = 2 then neg32 re else im
def timesRe (a b x y : Nat) : Nat := sub32 (mul32 a x) (mul32 b y)
def timesIm (a b x y : Nat) : Nat := add32 (mul32 a y) (mul32 b x)
def power (a b : Nat) : Nat := add32 (mul32 a a) (mul32 b b)

def enc1 (odd : Bool) (c : Cel) : List Nat :=
  let im := if odd then neg32 c.im else c.im
  [add32 c.y c.re, add32 c.y (neg32 im), add32 c.y (neg32 c.re), add32 c.y im]
def encode (row : List Cel) (odd : Bool) : List Nat := row.flatMap (enc1 odd)
def dec1 (odd : Bool) (s t u v : Nat) : Cel :=
  let im := quo32 (sub32 v t) 1073741824
  ⟨quo32 (add32 (add32 (add32 s t) u) v) 1082130432, quo32 (sub32 s u) 1073741824, if odd then neg32 im else im⟩
def decode (odd : Bool) : List Nat → List Cel
  | s :: t :: u :: v :: l => dec1 odd s t u v :: decode odd l
  | _ => []

/-- the same, of the raw bits: what 'Carried' hands back -/
def carriedB (re im : Nat) (n : Int) : Nat := if n = 0 then re else if n = 1 then Op.negFloat .f32 im else if n = 2 then Op.negFloat .f32 re else im

/-- a channel -/
structure Chn where
  a : Nat
  off : Nat
  re : Nat
  im : Nat
  deriving DecidableEq
def Chn.cn (c : Chn) : Chn := ⟨Fx.cn .f32 c.a, Fx.cn .f32 c.off, Fx.cn .f32 c.re, Fx.cn .f32 c.im⟩
def chnOk (c : Chn) : Bool := fgt .f32 c.a 0 && fle .f32 c.a 1098907648 && within32 c.off 1115684864 && within32 c.re 1098907648 && within32 c.im 1098907648

def setOk (cells rows : Int) (slice least sat : Nat) (log : Nat) : Bool :=
  decide (1 ≤ cells) && decide (cells ≤ 64) && decide (4 ≤ rows) && decide (rows ≤ 64) && decide (rows % 4 = 0) && within32 slice 1149239296 && fge .f32 least 0 && fle .f32 least 1098907648 && fge .f32 sat 0 && fle .f32 sat 1098907648 && decide (log ≤ 100)

def fine (rs : List Nat) : Bool := rs.all fun x => within32 x 1149239296
def samplesOk (rs : List Nat) : Bool := decide (4 ≤ rs.length) && decide (rs.length ≤ 4096) && decide (rs.length % 4 = 0) && fine rs
def lineOk (rs : List Nat) : Bool := decide (28 ≤ rs.length) && decide (rs.length ≤ 280) && decide (rs.length % 4 = 0) && fine rs
theorem fine_cns (rs : List Nat) : fine (rs.map (Fx.cn .f32)) = fine rs := by unfold fine; rw [List.all_map]; congr 1; funext x; simp
theorem all_take_step {α : Type} (p : α → Bool) {l : List α} {k : Nat} (h : k < l.length) (ha : (l.take k).all p = true) (hp : p l[k] = true) : (l.take (k + 1)).all p = true := by
  rw [List.take_succ_eq_append_getElem h, List.all_append, ha]; simp [hp]
theorem all_not {α : Type} (p : α → Bool) {l : List α} {k : Nat} (h : k < l.length) (hp : p l[k] = false) : l.all p = false := by
  rw [List.all_eq_false]; exact ⟨l[k], List.getElem_mem h, by simp [hp]⟩

end Go.Fx
