/-
  Memory asked for ahead of elements,at this seat: the library's contract.
  Conditions: none.
-/
import Derived.Shelf.Spec.SlicesGrow
import Derived.Ground.Names8Prog
import Derived.Test.YtigabkbbbpokbaaGreatPvCx
import Derived.Test.YtigabkbbbpokbaaGreatProg
set_option linter.all false
namespace Go.Proofs
open Go.Shelf
def Tryz.growL_ren:Go.Shelf.Ren:=⟨fun | 4=>153 | n=>n,fun | 22=>51 | 25=>38 | 3=>3 | 4=>4 | 9=>9 | 20=>20 | 0=>0 | 2=>3 | n=>n,fun | n=>n⟩
theorem Tryz.growL:Go.Proofs.Lays8.n4 Tryz.prog Tryz.growL_ren:={
  mixed:=by kernel_rfl
  f4:=⟨Tryz.f153.name,by decide,Tryz.func153.trans (congrArg some (by kernel_rfl))⟩
  t0:=Tryz.underlying0
  a0:=Tryz.isAgg0
  z0:=Tryz.sizeOf0
  v0:=Tryz.zeroValue0
  t3:=Tryz.underlying3
  a3:=Tryz.isAgg3
  z3:=Tryz.sizeOf3
  v3:=Tryz.zeroValue3
  t4:=Tryz.underlying4
  a4:=Tryz.isAgg4
  z4:=Tryz.sizeOf4
  v4:=Tryz.zeroValue4
  t9:=Tryz.underlying9
  a9:=Tryz.isAgg9
  z9:=Tryz.sizeOf9
  v9:=Tryz.zeroValue9
  t20:=Tryz.underlying20
  a20:=Tryz.isAgg20
  z20:=Tryz.sizeOf20
  v20:=Tryz.zeroValue20
  t22:=Tryz.underlying51
  a22:=Tryz.isAgg51
  z22:=Tryz.sizeOf51
  v22:=Tryz.zeroValue51 }
end Go.Proofs
namespace Go.PV
open Go Go.Proofs Go.RowKit Go.Lib
theorem growS (w:World) (m:Nat) (h1:1<=m) (h2:m<=1099511627776):Calls Tryz.prog 153 #[.slice none 0 0,.int .i64 m] w fun e' w'=>∃ (cap:Nat) (arr:Array Value),e'=.returned (.slice (some ⟨w.heap.size,0,none⟩) 0 cap)/\cap<=maxLen/\arr.size=cap*esz Tryz.prog 38/\w'=w.drew.alloc (.cells arr 38 (0,0)):=by
  obtain⟨i,z,hi,hz0,hzs,hp,hb⟩:=ypc2 (o:=Tryz.prog.info? 38) (by kernel_rfl)
  have hes:esz Tryz.prog 38=i.size:=by unfold esz;rw[hi];rfl
  refine(Go.Proofs.Any8.slices_Grow_grow Go.Proofs.Tryz.growL i z hi hz0 hp none 0 0 m [] w (Nat.le_refl _) (by omega) ?_ (by omega) (by simp) (fun _=>rfl) (fun a h=>by cases h)).mono ?_
  · calc (0+m)*i.bytes<=1099511627776*128:=Nat.mul_le_mul (by omega) hb
      _=140737488355328:=by decide
  · rintro e' w' ⟨rfl,rfl⟩
    have hge:=grownCap_ge w (0+m) 0 38
    have hle:=grownCap_le_maxLen w (0+m) 0 38 (by simp[maxLen];omega)
    exact⟨_,_,rfl,hle,(yfs1 hzs hge).trans (by rw[hes];rfl),rfl⟩
end Go.PV
