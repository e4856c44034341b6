import Derived.Below
import Derived.Test.YtlimlmjljjmcpaaGreatDoorProg
import Derived.WalkKit
import Derived.WalkSpells
import Derived.WalkLawsBesides
import Derived.Lib.Hide
import Derived.Deep.QuietTactic
import Derived.BigQuiet
import Derived.Deep.Draws
import Derived.Laws.OwnMore
import Derived.Deep.LoopGhost
import Derived.Test.YtlimlmjljjmcpaaGreatDoorShelf
import Derived.WalkSmall
import Derived.LoopTactic
import Derived.Deep.RegionHeld3
import Derived.Laws.IdiomStrings
import Derived.Lib.Replace
import Derived.Lib.ItoaNum
import Derived.Lib.Join
import Derived.Test.YtlimlmjljjmcpaaGreatDoorShelf2
set_option maxHeartbeats 2000000
set_option maxRecDepth 100000
namespace Go.Proofs.YtlimlmjljjmcpaaGreatDoor
set_option linter.unusedVariables false
set_option linter.unusedSimpArgs false
def a2W(n:Nat):Bool:=decide (97<=n)&&decide (n<=122) || (decide (65<=n)&&decide (n<=90) || decide (n=95))
def a0j(n:Nat):Bool:=decide (48<=n)&&decide (n<=57)
def a8x(n:Nat):Bool:=decide (n=32) || (decide (n=9) || decide (n=10))
def a8D(n:Nat):Bool:=a2W n || a0j n
def upperB(n:Nat):Bool:=decide (65<=n)&&decide (n<=90)
def a7n(n:Nat):Bool:=decide (n<32) || decide (126<n)
def a2l(cls:Nat->Bool)(l:List UInt8)(a:Nat):Nat:=a+((l.drop a).takeWhile fun c=>cls c.toNat).length
theorem b5t{cls:Nat->Bool}{l:List UInt8}{a:Nat}(h:a<l.length)(hc:cls l[a].toNat=true):a2l cls l a=a2l cls l (a+1):=by
 unfold a2l
 rw[List.drop_eq_getElem_cons h,List.takeWhile_cons,if_pos hc,List.length_cons]
 omega
theorem b6S{cls:Nat->Bool}{l:List UInt8}{a:Nat}(h:a<l.length)(hc:cls l[a].toNat=false):a2l cls l a=a:=by
 unfold a2l
 rw[List.drop_eq_getElem_cons h,List.takeWhile_cons,if_neg (by rw[hc];decide)]
 simp
theorem b5W{cls:Nat->Bool}{l:List UInt8}{a:Nat}(h:l.length<=a):a2l cls l a=a:=by
 unfold a2l
 rw[List.drop_eq_nil_of_le h]
 simp
def a6g(cls:Nat->Bool)(l:List UInt8)(a:Nat):List UInt8:=(l.drop a).takeWhile fun c=>cls c.toNat
structure Tok where
 kind:Nat
 text:List UInt8
 int:Nat
 at_:Nat
deriving DecidableEq
inductive Scan where
 |err (code:Nat)
 |tok (t:Tok) (fin:Nat)
def upC(c:UInt8):UInt8:=if 97<=c.toNat/\c.toNat<=122 then UInt8.ofNat (c.toNat - 32) else c
def upL(l:List UInt8):List UInt8:=l.map upC
def C_:List (List UInt8):=[[65,68,68],[65,70,84,69,82],[65,76,76],[65,76,84,69,82],[65,78,68],[65,83],[66,69,70,79,82,69],[66,69,71,73,78],[66,69,84,87,69,69,78],[66,79,79,76],[66,89],[67,72,69,67,75],[67,79,65,76,69,83,67,69],[67,79,77,77,73,84],[67,79,78,84,65,73,78,83],[67,79,85,78,84],[67,82,69,65,84,69],[68,69,70,65,85,76,84],[68,69,76,69,84,69],[68,69,83,67],[68,73,83,84,73,78,67,84],[68,82,79,80],[68,85,82,73,78,71],[69,81,85,65,76,83],[69,88,67,69,80,84],[70,65,76,83,69],[70,73,78,73,83,72,69,68,66,89],[70,73,78,73,83,72,69,83],[70,79,82,69,73,71,78],[70,79,82,69,86,69,82],[70,82,79,77],[71,82,79,85,80],[72,79,76,68],[73,70],[73,78,83,69,82,84],[73,78,84],[73,78,84,69,82,83,69,67,84],[73,78,84,79],[73,83],[74,79,73,78],[75,69,89],[76,69,70,84],[76,69,78,71,84,72],[76,73,77,73,84],[77,65,88],[77,69,69,84,83],[77,69,84,66,89],[77,73,78],[78,79,78,83,69,81,85,69,78,67,69,68],[78,79,84],[78,79,87],[78,85,76,76],[79,70],[79,78],[79,82],[79,82,68,69,82],[79,86,69,82,76,65,80,80,69,68,66,89],[79,86,69,82,76,65,80,83],[80,82,73,77,65,82,89],[80,82,85,78,69],[82,69,70,69,82,69,78,67,69,83],[82,69,76,69,65,83,69],[82,69,78,65,77,69],[82,69,84,65,73,78],[82,79,76,76,66,65,67,75],[83,69,76,69,67,84],[83,69,81,85,69,78,67,69,68],[83,69,84],[83,84,65,82,84,69,68,66,89],[83,84,65,82,84,83],[83,85,77],[83,89,83,84,69,77],[83,89,83,84,69,77,70,82,79,77],[83,89,83,84,69,77,84,79],[84,65,66,76,69],[84,69,88,84],[84,79],[84,82,85,69],[84,88],[85,78,68,69,82],[85,78,73,79,78],[85,80,68,65,84,69],[86,65,76,73,68],[86,65,76,73,68,70,82,79,77],[86,65,76,73,68,84,79],[86,65,76,85,69,83],[87,72,69,82,69]]
def isWord(l:List UInt8):Bool:=C_.contains (upL l)
def b8S(l:List UInt8)(a:Nat):Scan:=
 if isWord (a6g a8D l a) then .tok ⟨2,upL (a6g a8D l a),0,a⟩ (a2l a8D l a)
 else if(a6g a8D l a).any (fun c=>upperB c.toNat) then .err 1
 else if 24<(a6g a8D l a).length then .err 5
 else .tok ⟨1,a6g a8D l a,0,a⟩ (a2l a8D l a)
def c0T(n:Nat)(c:UInt8):Nat:=min (10*n+(c.toNat - 48)) 1125899906842625
def b8Q(l:List UInt8):Nat:=l.foldl c0T 0
def c2f(l:List UInt8)(a:Nat):Bool:=
 (decide (1<(a6g a0j l a).length)&&decide ((a6g a0j l a).head? = some 48)) || (match l[a2l a0j l a]? with|some c=>a2W c.toNat|none=>false)
def b5Y(l:List UInt8)(a:Nat):Scan:=
 if c2f l a then .err 1
 else if 1125899906842624<b8Q (a6g a0j l a) then .err 6
 else .tok ⟨3,[],b8Q (a6g a0j l a),a⟩ (a2l a0j l a)
def b6i(a i:Nat)(out:List UInt8):Scan:=if 200<out.length then .err 5 else .tok ⟨4,out,0,a⟩ (i+1)
def b4X(a:Nat):List UInt8->Nat->List UInt8->Scan
 |[],_,_=>.err 2
 |c::r,i,out=>
  if c=39 then
   match r with
   |[]=>b6i a i out
   |d::r'=>if d=39 then b4X a r' (i+2) (out++[39]) else b6i a i out
  else if a7n c.toNat then .err 1 else b4X a r (i+1) (out++[c])
def b9L(l:List UInt8)(a:Nat):Scan:=b4X a (l.drop (a+1)) (a+1) []
def c2X:List (List UInt8):=[[60,62],[60,61],[62,61],[124,124]]
def ones:List UInt8:=[40,41,44,46,59,42,61,60,62,43,45,47,37]
def c1b(l:List UInt8)(a:Nat):Scan:=
 if c2X.contains ((l.drop a).take 2) then .tok ⟨5,(l.drop a).take 2,0,a⟩ (a+2)
 else match l[a]? with
  |some c=>if ones.contains c then .tok ⟨5,[c],0,a⟩ (a+1) else .err 1
  |none=>.err 1
def b8C(l:List UInt8)(a:Nat)(c:UInt8):Scan:=
 if a2W c.toNat then b8S l a else if a0j c.toNat then b5Y l a else if c=39 then b9L l a else c1b l a
inductive Res where
 |err (at_:Nat) (code:Nat)
 |toks (l:List Tok)
inductive Lexes(l:List UInt8):Nat->List Tok->Res->Prop
 |fin {a acc} (h:l.length<=a):Lexes l a acc (.toks acc)
 |skip {a acc r} (h:a<l.length) (hb:a8x l[a].toNat=true) (k:Lexes l (a+1) acc r):Lexes l a acc r
 |err {a acc c} (h:a<l.length) (hb:a8x l[a].toNat=false) (hs:b8C l a l[a]=.err c):Lexes l a acc (.err a c)
 |tok {a acc t e r} (h:a<l.length) (hb:a8x l[a].toNat=false) (hs:b8C l a l[a]=.tok t e) (k:Lexes l e (acc++[t]) r):Lexes l a acc r
theorem Lexes.run{l:List UInt8}{a:Nat}{acc:List Tok}{r:Res}(k:Lexes l (a2l a8x l a) acc r):Lexes l a acc r:=by
 by_cases h:a<l.length
 ·by_cases hb:a8x l[a].toNat=true
  ·rw[b5t h hb] at k
   exact .skip h hb (Lexes.run k)
  ·rw[b6S h (by simpa using hb)] at k
   exact k
 ·rw[b5W (by omega)] at k
  exact k
termination_by l.length - a
end Go.Proofs.YtlimlmjljjmcpaaGreatDoor
namespace Go.Proofs.YtlimlmjljjmcpaaGreatDoor
open Go.RowKit
set_option linter.unusedVariables false
set_option linter.unusedSimpArgs false
theorem a1e(s:ByteArray):s.data.toList.length=s.size:=by rw[Array.length_toList];rfl
theorem a1W{x y:ByteArray}(h:x.data.toList=y.data.toList):x=y:=by
 apply ByteArray.ext
 exact Array.ext' h
theorem b2X{a b:Bool}(h:a=b):Ending.returned (.bool a)=.returned (.bool b):=by rw[h]
theorem b5Q(n:Nat)(w:World)(hn:n<256) :
  Calls Tryz.prog 237 #[.int .u8 (n:Int)] w fun e w'=>e=.returned (.bool (a2W n))/\w=w':=by
 by_cases a0:97<=n<;>by_cases a1:n<=122<;>by_cases a2:65<=n<;>by_cases a3:n<=90<;>by_cases a4:n=95<;>try omega
 all_goals
  go_enter Tryz.func237,Tryz.ntmps237
  go_wp2
  all_goals
   go_ret
   exact⟨b2X (by simp[a2W, *]<;>omega),rfl⟩
theorem b0H(n:Nat)(w:World)(hn:n<256) :
  Calls Tryz.prog 235 #[.int .u8 (n:Int)] w fun e w'=>e=.returned (.bool (a0j n))/\w=w':=by
 by_cases a0:48<=n<;>by_cases a1:n<=57<;>try omega
 all_goals
  go_enter Tryz.func235,Tryz.ntmps235
  go_wp2
  all_goals
   go_ret
   exact⟨b2X (by simp[a0j, *]<;>omega),rfl⟩
def Sc(w:World)(b:Nat)(s:ByteArray)(a:Nat):Prop:=w.heap[b]? = some (.cells #[.string s,.int .i64 (a:Int)] 182 (0,0))
section
variable {w w':World} {b:Nat} {s:ByteArray} {a:Nat}
theorem Sc.text(h:Sc w b s a):w.cell? ⟨b,0,none⟩=some (.string s):=by rw[cell_of_row w b 0 _ _ (0,0) h];rfl
theorem Sc.at_(h:Sc w b s a):w.cell? ⟨b,1,none⟩=some (.int .i64 (a:Int)):=by rw[cell_of_row w b 1 _ _ (0,0) h];rfl
theorem Sc.free(h:Sc w b s a)(j:Nat):w.frozen? ⟨b,j,none⟩=false:=by unfold Sc at h;simp[World.frozen?,h]
theorem Sc.set(h:Sc w b s a)(k:Nat):Sc (w.setCell ⟨b,1,none⟩ (.int .i64 (k:Int))) b s k:=by
 unfold Sc at h |-
 simp[World.setCell,Array.getElem?_modify,h]
theorem Sc.drewN(h:Sc w b s a)(k:Nat):Sc (w.drewN k) b s a:=h
end
end Go.Proofs.YtlimlmjljjmcpaaGreatDoor
namespace Go.Proofs.YtlimlmjljjmcpaaGreatDoor
open Go.RowKit
set_option linter.unusedVariables false
set_option linter.unusedSimpArgs false
def Tab(w:World):Prop:=Lib.TabIs Tryz.prog w "strings.asciiSpace" .u8 Lib.asciiSpaceTab
theorem b8q:Tryz.prog.globalNamed "strings.asciiSpace" = some 2:=by kernel_rfl
section
variable {w w':World} {B b:Nat} {s:ByteArray} {a:Nat}
theorem Tab.form(h:Tab w):∃t f,w.heap[2]? = some (.cells (Lib.asciiSpaceTab.map fun z=>Value.int .u8 z).toArray t f):=by
 unfold Tab Lib.TabIs World.var? at h
 rw[b8q] at h
 simp only[Option.bind_some] at h
 split at h
 ·rename_i cs t f hh
  injection h with h
  exact⟨t,f,by rw[<-h];exact hh⟩
 ·cases h
theorem Tab.lt(h:Tab w):2<w.heap.size:=by
 obtain⟨t,f,hh⟩:=h.form
 rcases Nat.lt_or_ge 2 w.heap.size with hlt|hge
 ·exact hlt
 ·rw[Array.getElem?_eq_none hge] at hh;cases hh
theorem Tab.same(h:Tab w)(hb:w'.heap[2]? = w.heap[2]?):Tab w':=by
 unfold Tab Lib.TabIs World.var? at h |-
 rw[b8q] at h |-
 simp only[Option.bind_some] at h |-
 rw[hb]
 exact h
theorem Tab.below(h:Tab w)(hb:Below w.heap.size w w'):Tab w':=h.same (hb.block _ h.lt)
theorem Tab.drewN(h:Tab w)(k:Nat):Tab (w.drewN k):=h
theorem Tab.alloc(h:Tab w)(o:Obj):Tab (w.alloc o):=h.same (Below.heap_alloc w o _ h.lt)
theorem Tab.c2H(h:Tab w)(hs:Sc w b s a):2 ≠ b:=by
 rintro rfl
 obtain⟨t,f,hh⟩:=h.form
 unfold Sc at hs
 rw[hh] at hs
 simp only[Option.some.injEq,Obj.cells.injEq] at hs
 have:=congrArg Array.size hs.1
 simp[Lib.asciiSpaceTab_length] at this
theorem Tab.grown(h:Tab w)(hs:Sc w b s a)(hg:w.grownBy w' (some b)):Tab w':=h.same (hg.block _ h.lt (by simpa using h.c2H hs))
theorem Sc.lt(h:Sc w b s a):b<w.heap.size:=by
 rcases Nat.lt_or_ge b w.heap.size with hlt|hge
 ·exact hlt
 ·unfold Sc at h;rw[Array.getElem?_eq_none hge] at h;cases h
theorem Sc.below(h:Sc w b s a)(hb:Below w.heap.size w w'):Sc w' b s a:=(hb.block _ h.lt).trans h
theorem Sc.alloc(h:Sc w b s a)(o:Obj):Sc (w.alloc o) b s a:=(Below.heap_alloc w o _ h.lt).trans h
end
theorem grown_below{a w w':World}{row:Option Nat}(h:a.grownBy w row)(hb:Below w.heap.size w w'):a.grownBy w' row:=
 ⟨hb.os.trans h.os,hb.tape.trans h.tape,hb.output.trans h.output,Nat.le_trans h.size hb.size,fun i hi hne=>(hb.block i (Nat.lt_of_lt_of_le hi h.size)).trans (h.block i hi hne)⟩
def b2m:List UInt8:=[65,68,68,32,65,70,84,69,82,32,65,76,76,32,65,76,84,69,82,32,65,78,68,32,65,83,32,66,69,70,79,82,69,32,66,69,71,73,78,32,66,69,84,87,69,69,78,32,66,79,79,76,32,66,89,32,67,72,69,67,75,32,67,79,65,76,69,83,67,69,32,67,79,77,77,73,84,32,67,79,78,84,65,73,78,83,32,67,79,85,78,84,32,67,82,69,65,84,69,32,68,69,70,65,85,76,84,32,68,69,76,69,84,69,32,68,69,83,67,32,68,73,83,84,73,78,67,84,32,68,82,79,80,32,68,85,82,73,78,71,32,69,81,85,65,76,83,32,69,88,67,69,80,84,32,70,65,76,83,69,32,70,73,78,73,83,72,69,68,66,89,32,70,73,78,73,83,72,69,83,32,70,79,82,69,73,71,78,32,70,79,82,69,86,69,82,32,70,82,79,77,32,71,82,79,85,80,32,72,79,76,68,32,73,70,32,73,78,83,69,82,84,32,73,78,84,32,73,78,84,69,82,83,69,67,84,32,73,78,84,79,32,73,83,32,74,79,73,78,32,75,69,89,32,76,69,70,84,32,76,69,78,71,84,72,32,76,73,77,73,84,32,77,65,88,32,77,69,69,84,83,32,77,69,84,66,89,32,77,73,78,32,78,79,78,83,69,81,85,69,78,67,69,68,32,78,79,84,32,78,79,87,32,78,85,76,76,32,79,70,32,79,78,32,79,82,32,79,82,68,69,82,32,79,86,69,82,76,65,80,80,69,68,66,89,32,79,86,69,82,76,65,80,83,32,80,82,73,77,65,82,89,32,80,82,85,78,69,32,82,69,70,69,82,69,78,67,69,83,32,82,69,76,69,65,83,69,32,82,69,78,65,77,69,32,82,69,84,65,73,78,32,82,79,76,76,66,65,67,75,32,83,69,76,69,67,84,32,83,69,81,85,69,78,67,69,68,32,83,69,84,32,83,84,65,82,84,69,68,66,89,32,83,84,65,82,84,83,32,83,85,77,32,83,89,83,84,69,77,32,83,89,83,84,69,77,70,82,79,77,32,83,89,83,84,69,77,84,79,32,84,65,66,76,69,32,84,69,88,84,32,84,79,32,84,82,85,69,32,84,88,32,85,78,68,69,82,32,85,78,73,79,78,32,85,80,68,65,84,69,32,86,65,76,73,68,32,86,65,76,73,68,70,82,79,77,32,86,65,76,73,68,84,79,32,86,65,76,85,69,83,32,87,72,69,82,69]
def kwS(l:List UInt8):Value:=.string ⟨l.toArray⟩
def a6A:Obj:=.cells (C_.map kwS).toArray 9
theorem b6U:Lib.fields b2m=C_:=by decide +kernel
theorem b1r:b2m.all (fun b=>decide (b.toNat<128))=true:=by decide +kernel
theorem b0f:b2m.length<1000:=by decide +kernel
theorem b3s(s:ByteArray)(w:World)(hs:s.data.toList=b2m)(h:Tab w) :
  Calls Tryz.prog 320 #[.string s] w fun e w'=>e=.returned (.slice (some ⟨w.heap.size,0,none⟩) 87 87)/\w.alloc a6A=w':=by
 have hsz:s.size<4294967281:=by
  have h1:s.size=s.data.toList.length:=by rw[Array.length_toList];rfl
  have:=b0f
  rw[<-hs] at this
  omega
 refine(Tryz.strings_Fields s w hsz ?_ h).mono ?_
 ·intro j b hj
  rw[hs] at hj
  have:=List.all_eq_true.1 b1r b (List.mem_of_getElem? hj)
  simpa using this
 ·rintro e w' ⟨rfl,rfl⟩
  rw[hs,b6U]
  exact⟨rfl,rfl⟩
theorem b4L(w:World)(h:Tab w) :
  Calls Tryz.prog 280 #[] w fun e w'=>e=.returned (.slice (some ⟨w.heap.size,0,none⟩) 87 87)/\w.alloc a6A=w':=by
 have H:=Lib.hid h
 clear h
 go_enter Tryz.func280,Tryz.ntmps280
 go_wp2_with fail
 refine(b3s _ w (by kernel_rfl) H.out).mono ?_
 rintro e w' ⟨rfl,rfl⟩
 go_wp2_with fail
 go_ret
 exact⟨rfl,rfl⟩
theorem a9p:C_.all (fun l=>l.all fun b=>decide (b.toNat<128))=true:=by decide +kernel
theorem c1R(c:UInt8)(h:128<=c.toNat):upC c=c:=by unfold upC;rw[if_neg (by omega)]
theorem b4p{l:List UInt8}{c:UInt8}(hc:c∈l)(h:128<=c.toNat):isWord l=false:=by
 rcases hw:isWord l with _|_
 ·rfl
 ·unfold isWord at hw
  have hm:upL l∈C_:=by simpa using hw
  have h1:=List.all_eq_true.1 a9p _ hm
  have h2:=List.all_eq_true.1 h1 (upC c) (List.mem_map_of_mem hc)
  rw[c1R c h] at h2
  simp at h2
  omega
theorem b7e(c:UInt8):Lib.upperB c=upC c:=by
 unfold Lib.upperB upC Lib.isLowerB
 have h:=c.toNat_lt
 by_cases h1:97<=c.toNat/\c.toNat<=122
 ·have h2:(97<=c&&c<=122)=true:=by simp[UInt8.le_iff_toNat_le];omega
  rw[if_pos h1,if_pos (by simpa using h2)]
  apply UInt8.toNat_inj.1
  rw[UInt8.toNat_sub_of_le _ _ (by rw[UInt8.le_iff_toNat_le];simp;omega),UInt8.toNat_ofNat_of_lt' (by show _<256;omega)]
  rfl
 ·have h2:¬(97<=c&&c<=122)=true:=by simp[UInt8.le_iff_toNat_le];omega
  rw[if_neg h1,if_neg (by simpa using h2)]
theorem b7M(l:List UInt8):Lib.toUpperA l=upL l:=by unfold Lib.toUpperA upL;exact List.map_congr_left fun c _=>b7e c
def b0p(t:Nat):ByteArray:=⟨(C_.getD t []).toArray⟩
theorem c0U(w:World)(j:Nat)(hj:j<87):(w.alloc a6A).cell? ⟨w.heap.size,0+j,none⟩=some (.string (b0p j)):=by
 have hl:C_.length=87:=by decide +kernel
 have h1:=cell_of_row (w.alloc a6A) w.heap.size (0+j) (C_.map kwS).toArray 9 (0,0) (heap_alloc_new w _)
 rw[h1,Nat.zero_add]
 simp only[List.getElem?_toArray,List.getElem?_map]
 rw[List.getElem?_eq_getElem (by omega)]
 simp[kwS,b0p,List.getD,List.getElem?_eq_getElem (show j<C_.length by omega)]
def a5a(x:List UInt8):Nat:=Lib.bsGo (fun t=>Op.bytesLess (C_.getD t []) x) 87 0 87
theorem c1h:(List.range 87).all (fun i=>decide (a5a (C_.getD i [])=i))=true:=by decide +kernel
theorem b9s(x:List UInt8):decide (a5a x<87/\C_.getD (a5a x) []=x)=C_.contains x:=by
 have hl:C_.length=87:=by decide +kernel
 rw[Bool.eq_iff_iff]
 simp only[decide_eq_true_eq,List.contains_iff_mem]
 constructor
 ·rintro⟨h1,h2⟩
  have:=List.getElem_mem (l:=C_) (n:=a5a x) (by omega)
  have e:C_.getD (a5a x) []=C_[a5a x]'(by omega):=by simp[List.getD,List.getElem?_eq_getElem (show a5a x<C_.length by omega)]
  rw[<-h2]
  have h3:C_.getD (a5a x) []∈C_:=by rw[e];exact this
  rw[h2] at h3 |-
  exact h3
 ·intro hm
  obtain⟨i,hi,rfl⟩:=List.mem_iff_getElem.1 hm
  have h1:=List.all_eq_true.1 c1h i (List.mem_range.2 (by omega))
  have e:C_.getD i []=C_[i]:=by simp[List.getD,List.getElem?_eq_getElem hi]
  rw[e] at h1
  have h2:a5a C_[i]=i:=by simpa using h1
  rw[h2,e]
  exact⟨by omega,rfl⟩
theorem b2D(w:World)(x:List UInt8)(s:ByteArray)(B:Nat)(hs:s.data.toList=x)(w':World)(hc:∀j,j<87->w'.cell? ⟨B,0+j,none⟩=some (.string (b0p j))) :
  Calls Tryz.prog 279 #[.slice (some ⟨B,0,none⟩) 87 87,.string s] w' fun e w''=>(∃n:Nat,e=.returned (.tuple #[.int .i64 n,.bool (C_.contains x)]))/\Below w'.heap.size w' w'':=by
 refine(Tryz.slices_BinarySearch_string B 0 87 87 b0p s w' (by omega) hc).mono ?_
 rintro e w'' ⟨rfl,q,rfl⟩
 have e1:(fun t=>Op.bytesLess (b0p t).toList s.toList)=fun t=>Op.bytesLess (C_.getD t []) x:=by
  funext t
  rw[<-hs,Lib.toList_data,Lib.toList_data]
  unfold b0p
  simp
 rw[e1]
 refine⟨⟨a5a x,?_⟩,⟨rfl,rfl,rfl,Nat.le_refl _,fun _ _=>rfl⟩⟩
 rw[<-b9s]
 have e2:(b0p (a5a x)=s)↔(C_.getD (a5a x) []=x):=by
  rw[<-hs]
  unfold b0p
  constructor
  ·intro h
   have:=congrArg (fun z:ByteArray=>z.data.toList) h
   simpa using this
  ·intro h;rw[h]
 refine congrArg Ending.returned (congrArg Value.tuple ?_)
 have e3:(decide (a5a x<87/\b0p (a5a x)=s))=decide (a5a x<87/\C_.getD (a5a x) []=x):=by simp only[e2]
 rw[<-e3]
 rfl
theorem b2N(l:List UInt8)(s:ByteArray)(B:Nat)(hs:s.data.toList=upL l)(w':World)(hc:∀j,j<87->w'.cell? ⟨B,0+j,none⟩=some (.string (b0p j))) :
  Calls Tryz.prog 279 #[.slice (some ⟨B,0,none⟩) 87 87,.string s] w' fun e w''=>(∃n:Nat,e=.returned (.tuple #[.int .i64 n,.bool (isWord l)]))/\Below w'.heap.size w' w'':=b2D w' (upL l) s B hs w' hc
def c2E(s:ByteArray)(k:Nat):Prop:=∀j (h:j<s.size),j<k->s[j].toNat<128
def b2R(w:World)(s:ByteArray)(e:Ending)(w':World):Prop:=e=.returned (.bool (isWord s.data.toList))/\Below w.heap.size w w'
def c2l(s:ByteArray)(i:Value):Prop:=∃k:Nat,k<=s.size/\c2E s k/\i=.int .i64 k
theorem b8e(s:ByteArray)(w:World)(hs:s.size<=140737488351232)(h:Tab w) :
  Calls Tryz.prog 236 #[.string s] w (b2R w s):=by
 have H:=Lib.hid h
 clear h
 go_enter Tryz.func236,Tryz.ntmps236
 go_wp2_with fail
 go_loop [8] (fun i=>c2l s i) (fun i=>s.size - (intOf i).toNat)
 case atStart=>exact⟨0,Nat.zero_le _,fun j _ hj=>absurd hj (by omega),rfl⟩
 case round=>
  obtain⟨k,hk,hi,rfl⟩:=hrel
  have HI:=Lib.hid hi
  clear hi
  by_cases hlt:k<s.size
  ·by_cases hc:s[k].toNat<128
   ·have c1:¬(128<=(s[k].toNat:Int)):=by omega
    go_wp2_with fail
    go_round
    case rel=>
     refine⟨k+1,by omega,fun j hj hjk=>?_,by go_num⟩
     by_cases e:j=k
     ·subst e;exact hc
     ·exact HI.out j hj (by omega)
    case measure=>simp[intOf];omega
   ·have c1:128<=(s[k].toNat:Int):=by omega
    have HW:=Lib.hid (b4p (l:=s.data.toList) (c:=s[k]) (by exact List.getElem_mem (l:=s.data.toList) (n:=k) (by simpa using hlt)) (by omega))
    go_wp2_with fail
    go_ret
    exact⟨by rw[HW.out];rfl,Below.refl _ _⟩
  ·obtain rfl:k=s.size:=by omega
   have hasc:∀(j:Nat) (b:UInt8),s.data.toList[j]? = some b->b.toNat<128:=by
    intro j b hj
    obtain⟨hlt,e⟩:=List.getElem?_eq_some_iff.1 hj
    have hjs:j<s.size:=by simpa using hlt
    rw[<-e]
    exact HI.out j hjs hjs
   have HA:=Lib.hid hasc
   clear hasc HI
   go_wp2_with fail
   refine(b4L _ H.out).mono ?_
   rintro e w' ⟨rfl,rfl⟩
   go_wp2_with fail
   refine(Tryz.strings_ToUpper_ascii s _ (by omega) HA.out).mono ?_
   rintro e w2 ⟨rfl,hb⟩
   have HB:=Lib.hid hb
   clear hb
   go_wp2_with fail
   refine(b2N s.data.toList _ w.heap.size (by rw[b7M]) w2 ?_).mono ?_
   ·intro j hj
    rw[HB.out.cell (by simp)]
    exact c0U w j hj
   rintro e w3 ⟨⟨n,rfl⟩,hb3⟩
   have HB3:=Lib.hid hb3
   clear hb3
   go_wp2_with fail
   go_ret
   refine⟨rfl,?_⟩
   have b1:Below w.heap.size w (w.alloc a6A):=(Below.refl _ _).alloc (Nat.le_refl _) _
   have b2:=b1.trans (HB.out.mono (by simp))
   exact b2.trans (HB3.out.mono b2.size)
end Go.Proofs.YtlimlmjljjmcpaaGreatDoor
namespace Go.Proofs.YtlimlmjljjmcpaaGreatDoor
open Go.RowKit
set_option linter.unusedVariables false
set_option linter.unusedSimpArgs false
theorem a4n:(Tryz.prog.info? 9).map (fun i=>(i.zero,i.size,i.bytes))=some (some (.string ⟨#[]⟩),1,16):=by kernel_rfl
theorem a1d(w:World)(u:Value)(e:TypeId):∀j x,[u][j]? = some x->(w.alloc (.cells #[u] e)).cell? ((⟨w.heap.size,0,none⟩:Addr).add j)=some x:=by
 intro j x hx
 have e1:(⟨w.heap.size,0,none⟩:Addr).add j=⟨w.heap.size,j,none⟩:=by unfold Addr.add;split<;>simp_all
 rw[e1,cell_of_row _ w.heap.size j _ e (0,0) (heap_alloc_new w _)]
 simpa using hx
theorem c1W{c:UInt8}(h:¬(97<=c.toNat/\c.toNat<=122)):upC c=c:=by unfold upC;rw[if_neg h]
def loC(c:UInt8):UInt8:=if 65<=c.toNat/\c.toNat<=90 then UInt8.ofNat (c.toNat+32) else c
def B_:List (List UInt8):=C_.map (·.map loC)
def a8P:Obj:=.cells (B_.map kwS).toArray 9
theorem c1P:B_.map upL=C_:=by decide +kernel
theorem a2N:B_.length=87:=by decide +kernel
theorem b1M(w:World):Calls Tryz.prog 208 #[] w fun e w'=>e=.returned (.slice (some ⟨w.heap.size,0,none⟩) 87 87)/\w.alloc a8P=w':=by
 go_enter Tryz.func208,Tryz.ntmps208
 go_wp2_with fail
 go_ret
 exact⟨rfl,congrArg (fun o=>w.alloc o) (by kernel_rfl)⟩
theorem b8T{w:World}{B:Nat}(h:w.heap[B]? = some a8P){j:Nat}(hj:j<87):w.cell? ⟨B,j,none⟩=some (.string ⟨(B_.getD j []).toArray⟩):=by
 rw[cell_of_row w B j _ _ (0,0) h]
 simp only[List.getElem?_toArray,List.getElem?_map]
 rw[List.getElem?_eq_getElem (by rw[a2N];exact hj)]
 simp[kwS,List.getD,List.getElem?_eq_getElem (show j<B_.length by rw[a2N];exact hj)]
def a1F(n:Nat):Bool:=decide (97<=n)&&decide (n<=122) || (decide (48<=n)&&decide (n<=57) || decide (n=95))
def a2D(l:List UInt8):Bool:=match l.head? with|some c=>a0j c.toNat|none=>false
def nameB(l:List UInt8):Bool:=!l.isEmpty&&(decide (l.length<=24)&&(!a2D l&&(l.all (fun c=>a1F c.toNat) && !isWord l)))
theorem b7c(n:Nat):a1F n=(a0j n || (a2W n && !upperB n)):=by
 unfold a1F a0j a2W upperB
 rw[Bool.eq_iff_iff]
 simp
 omega
theorem c2I{c:UInt8}(h:a1F c.toNat=true):loC (upC c)=c:=by
 unfold a1F at h
 simp at h
 by_cases h1:97<=c.toNat/\c.toNat<=122
 ·have e:(upC c).toNat=c.toNat - 32:=by unfold upC;rw[if_pos h1,UInt8.toNat_ofNat_of_lt' (by show _<256;omega)]
  apply UInt8.toNat_inj.1
  unfold loC
  rw[if_pos (by omega),UInt8.toNat_ofNat_of_lt' (by show _<256;omega)]
  omega
 ·rw[c1W h1]
  unfold loC
  rw[if_neg (by omega)]
theorem b2U{l:List UInt8}(h:l.all (fun c=>a1F c.toNat)=true):isWord l=B_.contains l:=by
 rw[Bool.eq_iff_iff]
 unfold isWord
 simp only[List.contains_iff_mem]
 constructor
 ·intro hm
  have:(upL l).map loC∈B_:=List.mem_map_of_mem hm
  have e:(upL l).map loC=l:=by
   unfold upL
   rw[List.map_map]
   conv=>rhs;rw[<-List.map_id l]
   exact List.map_congr_left fun c hc=>c2I (List.all_eq_true.1 h c hc)
  rw[e] at this
  exact this
 ·intro hm
  rw[<-c1P]
  exact List.mem_map_of_mem hm
theorem a4V{l:List UInt8}(h:24<l.length):nameB l=false:=by unfold nameB;rw[decide_eq_false (by omega)];simp
theorem a3Z{l:List UInt8}(h:l=[]):nameB l=false:=by subst h;rfl
theorem a5C{l:List UInt8}(h:a2D l=true):nameB l=false:=by unfold nameB;rw[h];simp
theorem b0N{l:List UInt8}(h:isWord l=true):nameB l=false:=by unfold nameB;rw[h];simp
theorem a4e{l:List UInt8}{c:UInt8}(hc:c∈l)(h:a1F c.toNat=false):nameB l=false:=by
 have:l.all (fun c=>a1F c.toNat)=false:=by rw[List.all_eq_false];exact⟨c,hc,by simp[h]⟩
 unfold nameB;rw[this];simp
theorem b3n{l:List UInt8}(h0:l ≠ [])(h1:l.length<=24)(h2:a2D l=false)(h3:isWord l=false)(h4:l.all (fun c=>a1F c.toNat)=true):nameB l=true:=by
 unfold nameB;rw[h2,h3,h4,decide_eq_true h1];simp[h0]
theorem a3U{s:ByteArray}(h:0<s.size):a2D s.data.toList=a0j s[0].toNat:=by
 unfold a2D
 rw[List.head?_eq_getElem?,List.getElem?_eq_getElem (by simpa using h)]
 rfl
def b2j(w:World)(s:ByteArray)(e:Ending)(w':World):Prop:=e=.returned (.bool (nameB s.data.toList))/\Below w.heap.size w w'
def c1l(s:ByteArray)(i:Value):Prop:=∃k:Nat,k<=s.size/\i=.int .i64 k /\ ∀j (h:j<s.size),j<k->a1F s[j].toNat=true
theorem b2t{s:ByteArray}(h:∀j (h:j<s.size),j<s.size->a1F s[j].toNat=true):s.data.toList.all (fun c=>a1F c.toNat)=true:=by
 rw[List.all_eq_true]
 intro c hc
 obtain⟨j,hj,e⟩:=List.mem_iff_getElem.1 hc
 have hj':j<s.size:=by simpa using hj
 rw[<-e]
 exact h j hj' hj'
theorem a9b{s:ByteArray}{k:Nat}(h:k<s.size):s[k]∈s.data.toList:=List.getElem_mem (l:=s.data.toList) (n:=k) (by simpa using h)
theorem b7o(s:ByteArray)(w:World)(ht:Tab w):Calls Tryz.prog 139 #[.string s] w (b2j w s):=by
 have HT:=Lib.hid ht
 clear ht
 have hnot:∀(x:Bool) (w:World),(Op.unary .not (.bool x)).run Tryz.prog w=.ok (.bool (!x)) w:=fun _ _=>rfl
 rcases Nat.eq_zero_or_pos s.size with h0|h0
 ·have hl:s.toList=[]:=by rw[Lib.toList_data];exact List.eq_nil_of_length_eq_zero (by rw[a1e];exact h0)
  have hl2:s.toList.isEmpty=true:=by rw[hl];rfl
  have HN:=Lib.hid (a3Z (l:=s.data.toList) (by rw[<-Lib.toList_data];exact hl))
  clear hl h0
  go_enter Tryz.func139,Tryz.ntmps139
  go_wp2_with fail
  go_ret
  exact⟨by rw[HN.out];rfl,Below.refl _ _⟩
 ·have hne:s.data.toList ≠ []:=fun e=>by have:=a1e s;rw[e] at this;simp at this;omega
  have hl2:s.toList.isEmpty=false:=by rw[Lib.toList_data];simpa using hne
  have HNE:=Lib.hid hne
  clear hne
  rcases Nat.lt_or_ge 24 s.size with h24|h24
  ·have HN:=Lib.hid (a4V (l:=s.data.toList) (by rw[a1e];exact h24))
   have d1:(24:Int)<(s.size:Int):=by omega
   go_enter Tryz.func139,Tryz.ntmps139
   go_wp2_with fail
   go_ret
   exact⟨by rw[HN.out];rfl,Below.refl _ _⟩
  ·have d1:¬(24:Int)<(s.size:Int):=by omega
   have z1:(0:Int)<(s.size:Int):=by omega
   have CD:=Lib.hid (b0H s[0].toNat w s[0].toNat_lt)
   have hHD:=a3U h0
   rcases hc:a0j s[0].toNat with _|_
   ·rw[hc] at CD hHD
    have HHD:=Lib.hid hHD
    clear hc hHD
    have CW:=b8e s w (by omega) HT.out
    unfold b2R at CW
    rcases hw:isWord s.data.toList with _|_
    ·have HW:=Lib.hid hw
     rw[hw] at CW
     have CW:=Lib.hid CW
     clear hw
     go_enter Tryz.func139,Tryz.ntmps139
     go_wp2_with fail
     refine CD.out.mono ?_
     rintro e w' ⟨rfl,rfl⟩
     go_wp2_with fail
     refine CW.out.mono ?_
     rintro e w1 ⟨rfl,hb1⟩
     clear CD CW
     go_wp2_with fail
     go_loop [22] (fun i=>c1l s i) (fun i=>s.size - (intOf i).toNat)
     case atStart=>exact⟨0,Nat.zero_le _,rfl,fun j _ hj=>absurd hj (by omega)⟩
     case round=>
      obtain⟨k,hk,rfl,hi⟩:=hrel
      have HI:=Lib.hid hi
      clear hi
      by_cases hlt:k<s.size
      ·have hb8:s[k].toNat<256:=s[k].toNat_lt
       have CD:=Lib.hid (b0H s[k].toNat w1 hb8)
       have CL:=Lib.hid (b5Q s[k].toNat w1 hb8)
       have hls:=b7c s[k].toNat
       have HIN:Hid (a1F s[k].toNat=true -> ∀j (h:j<s.size),j<k+1->a1F s[j].toNat=true):=Lib.hid (fun hl j hj hjk=>by
        by_cases e:j=k
        ·subst e;exact hl
        ·exact HI.out j hj (by omega))
       rcases h1:a0j s[k].toNat with _|_
       ·rw[h1] at CD hls
        rcases h2:a2W s[k].toNat with _|_
        ·rw[h2] at CL hls
         have HN:=Lib.hid (a4e (a9b hlt) (hls.trans (by simp)))
         clear h1 h2 hls
         go_wp2_with fail
         refine CD.out.mono ?_
         rintro e w' ⟨rfl,rfl⟩
         go_wp2_with fail
         refine CL.out.mono ?_
         rintro e w' ⟨rfl,rfl⟩
         go_wp2_with fail
         go_ret
         exact⟨by rw[HN.out];rfl,hb1⟩
        ·rw[h2] at CL hls
         have hup:(upperB s[k].toNat=true/\(65:Int)<=(s[k].toNat:Int)/\(s[k].toNat:Int)<=90)\/(upperB s[k].toNat=false/\(s[k].toNat:Int)<65)\/(upperB s[k].toNat=false/\(65:Int)<=(s[k].toNat:Int)/\90<(s[k].toNat:Int)):=by
          unfold upperB;simp;omega
         rcases hup with⟨hu,u1,u2⟩|hup
         ·rw[hu] at hls
          have HN:=Lib.hid (a4e (a9b hlt) (hls.trans (by simp)))
          clear h1 h2 hls hu
          go_wp2_with fail
          refine CD.out.mono ?_
          rintro e w' ⟨rfl,rfl⟩
          go_wp2_with fail
          refine CL.out.mono ?_
          rintro e w' ⟨rfl,rfl⟩
          go_wp2_with fail
          go_ret
          exact⟨by rw[HN.out];rfl,hb1⟩
         ·have hup2:upperB s[k].toNat=false:=by rcases hup with h|h;exact h.1;exact h.1
          rw[hup2] at hls
          have HLO:=Lib.hid (HIN.out (hls.trans (by simp)))
          clear h1 h2 hls hup2
          rcases hup with⟨hu,u1⟩|⟨hu,u1,u2⟩
          all_goals
           clear hu
           go_wp2_with fail
           refine CD.out.mono ?_
           rintro e w' ⟨rfl,rfl⟩
           go_wp2_with fail
           refine CL.out.mono ?_
           rintro e w' ⟨rfl,rfl⟩
           go_wp2_with fail
           go_round
           case rel=>exact⟨k+1,by omega,by go_num,HLO.out⟩
           case measure=>simp[intOf];omega
       ·rw[h1] at CD hls
        have HLO:=Lib.hid (HIN.out (hls.trans (by simp)))
        clear h1 hls
        go_wp2_with fail
        refine CD.out.mono ?_
        rintro e w' ⟨rfl,rfl⟩
        go_wp2_with fail
        go_round
        case rel=>exact⟨k+1,by omega,by go_num,HLO.out⟩
        case measure=>simp[intOf];omega
      ·obtain rfl:k=s.size:=by omega
       have HN:=Lib.hid (b3n HNE.out (by rw[a1e];exact h24) HHD.out HW.out (b2t HI.out))
       clear HI
       go_wp2_with fail
       go_ret
       exact⟨by rw[HN.out];rfl,hb1⟩
    ·have HN:=Lib.hid (b0N hw)
     rw[hw] at CW
     have CW:=Lib.hid CW
     clear hw
     go_enter Tryz.func139,Tryz.ntmps139
     go_wp2_with fail
     refine CD.out.mono ?_
     rintro e w' ⟨rfl,rfl⟩
     go_wp2_with fail
     refine CW.out.mono ?_
     rintro e w1 ⟨rfl,hb1⟩
     go_wp2_with fail
     go_ret
     exact⟨by rw[HN.out];rfl,hb1⟩
   ·have HN:=Lib.hid (a5C (hHD.trans hc))
    rw[hc] at CD
    clear hc hHD
    go_enter Tryz.func139,Tryz.ntmps139
    go_wp2_with fail
    refine CD.out.mono ?_
    rintro e w' ⟨rfl,rfl⟩
    go_wp2_with fail
    go_ret
    exact⟨by rw[HN.out];rfl,Below.refl _ _⟩
def a1m(c:UInt8):List UInt8:=if c=39 then[39,39] else[c]
def u_(l:List UInt8):List UInt8:=l.flatMap a1m
def a7u(l:List UInt8):List UInt8:=39::(u_ l++[39])
theorem b0w:∀s:List UInt8,(Lib.index s [39] = -1 /\ ∀c∈s,c ≠ 39) \/ ∃i:Nat,Lib.index s [39]=i/\s=s.take i++39::s.drop (i+1) /\ ∀c∈s.take i,c ≠ 39
 |[]=>.inl ⟨by simp[Lib.index],fun c hc=>by cases hc⟩
 |b::l=>by
  by_cases hb:b=39
  ·subst hb
   exact .inr ⟨0,by simp[Lib.index],by simp,fun c hc=>by simp at hc⟩
  ·have hp:([39]:List UInt8).isPrefixOf (b::l)=false:=by simp[List.isPrefixOf];exact fun e=>hb e.symm
   rcases b0w l with⟨h1,h2⟩|⟨i,h1,h2,h3⟩
   ·refine .inl ⟨by simp[Lib.index,hp,h1],fun c hc=>?_⟩
    rcases List.mem_cons.1 hc with rfl|hc
    ·exact hb
    ·exact h2 c hc
   ·refine .inr ⟨i+1,?_,?_,fun c hc=>?_⟩
    ·have:¬(Lib.index l [39] == -1)=true:=by rw[h1];simp<;>omega
     simp only[Lib.index,hp,Bool.false_eq_true,if_false]
     rw[if_neg this,h1]
     omega
    ·simp only[List.take_succ_cons,List.drop_succ_cons,List.cons_append]
     rw[<-h2]
    ·rw[List.take_succ_cons] at hc
     rcases List.mem_cons.1 hc with rfl|hc
     ·exact hb
     ·exact h3 c hc
theorem a9A{l:List UInt8}(h:∀c∈l,c ≠ 39):u_ l=l:=by
 induction l with
 |nil=>rfl
 |cons c l ih=>
  have hq:u_ (c::l)=a1m c++u_ l:=by simp[u_]
  rw[hq,ih (fun x hx=>h x (List.mem_cons_of_mem _ hx))]
  unfold a1m
  rw[if_neg (h c (by simp))]
  rfl
theorem a9t(n:Nat):∀s:List UInt8,s.length<=n->Lib.replaceK [39] [39,39] (Lib.count s [39]) s=u_ s:=by
 induction n with
 |zero=>
  intro s h
  obtain rfl:s=[]:=List.eq_nil_of_length_eq_zero (by omega)
  rw[Lib.count_miss (by simp[Lib.index])]
  rfl
 |succ n ih=>
  intro s h
  rcases b0w s with⟨h1,h2⟩|⟨i,h1,h2,h3⟩
  ·rw[Lib.count_miss h1,a9A h2];rfl
  ·have hl:(s.drop (i+1)).length<=n:=by
    have:=congrArg List.length h2
    simp at this |-
    omega
   rw[Lib.count_hit (by simp) h1,Nat.add_comm,Lib.replaceK_hit _ _ _ _ i h1]
   have e1:i+([39]:List UInt8).length=i+1:=rfl
   rw[e1,ih _ hl]
   conv=>rhs;rw[h2]
   have hq:u_ (s.take i++39::s.drop (i+1))=u_ (s.take i)++(a1m 39++u_ (s.drop (i+1))):=by simp[u_]
   rw[hq,a9A h3]
   simp[a1m]
theorem b0d(s:List UInt8):Lib.replaceAll s [39] [39,39]=u_ s:=by
 unfold Lib.replaceAll Lib.replace
 rw[if_neg (by decide)]
 have:Lib.replaceNum s [39] (-1)=Lib.count s [39]:=by unfold Lib.replaceNum;rw[if_pos (.inl (by decide))]
 rw[this]
 exact a9t s.length s (Nat.le_refl _)
theorem b1f(x:List UInt8):(u_ x).length<=2*x.length:=by
 induction x with
 |nil=>simp[u_]
 |cons c l ih=>
  have hq:u_ (c::l)=a1m c++u_ l:=by simp[u_]
  rw[hq,List.length_append]
  have:(a1m c).length<=2:=by unfold a1m;split<;>simp
  simp only[List.length_cons]
  omega
theorem c3c(y:List UInt8):(ByteArray.mk #[39]++ByteArray.mk y.toArray++ByteArray.mk #[39])=⟨(39::(y++[39])).toArray⟩:=by
 apply a1W
 simp[ByteArray.data_append]
structure Env(w:World):Prop where
 tab:Tab w
 pow:Lib.TabIs Tryz.prog w "internal/strconv.uint64pow10" .u64 Lib.pow10Tab
 maxl:∃m,w.cell? ⟨0,0,none⟩=some (.int .i64 m)
theorem c1N:Tryz.prog.globalNamed "internal/strconv.uint64pow10" = some 1:=by kernel_rfl
theorem lt_of_cell{w:World}{b o:Nat}{v:Value}(h:w.cell? ⟨b,o,none⟩=some v):b<w.heap.size:=by
 rcases Nat.lt_or_ge b w.heap.size with hlt|hge
 ·exact hlt
 ·simp[World.cell?,Array.getElem?_eq_none hge] at h
theorem Env.below{w w':World}(h:Env w)(hb:Below w.heap.size w w'):Env w':=by
 refine⟨h.tab.below hb,?_,?_⟩
 ·have hc:=h.pow.cell c1N 0 (by decide)
  exact var?_below hb c1N (lt_of_cell hc) h.pow
 ·obtain⟨m,hm⟩:=h.maxl
  exact⟨m,(hb.cell (p:=⟨_,0,none⟩) (lt_of_cell hm)).trans hm⟩
theorem Env.alloc{w:World}(h:Env w)(o:Obj):Env (w.alloc o):=h.below ((Below.refl _ _).alloc (Nat.le_refl _) _)
theorem below_grow(w:World)(k:Nat)(os:Array Obj):Below w.heap.size w (Go.Sort.grow (w.drewN k) os):=by
 refine⟨rfl,rfl,rfl,?_,fun i hi=>?_⟩
 ·simp[Go.Sort.grow,World.drewN]
 ·simp only[Go.Sort.grow]
  exact Array.getElem?_append_left hi
theorem b6R{w:World}{base:Nat}{e:TypeId}{size n m c:Nat}{A:Option Addr}{xs:List Value}(h:w.ownsRow base e size (.slice A m c) n xs):n<=c:=by
 rcases h.2 with⟨h0,h1⟩|⟨g,cap,cur,hv,_,_,hc,_⟩
 ·omega
 ·injection hv with _ _ e3;omega
theorem a0r{w w':World}{base:Nat}{e:TypeId}{size n:Nat}{v:Value}{xs:List Value}(h:w.ownsRow base e size v n xs)(hb:Below w.heap.size w w'):w'.ownsRow base e size v n xs:=
 h.kept (w':=w') (row:=none) ⟨hb.os,hb.tape,hb.output,hb.size,fun i hi _=>hb.block i hi⟩ (by rcases v.ownBlock with _|g;exact .inl rfl;exact .inr (by simp))
theorem c1Y{l:List UInt8}(h:∀j,j<87->B_.getD j [] ≠ l):B_.contains l=false:=by
 rw[Bool.eq_false_iff]
 intro hc
 have hm:l∈B_:=by simpa using hc
 obtain⟨j,hj,e⟩:=List.mem_iff_getElem.1 hm
 refine h j (by rw[a2N] at hj;exact hj) ?_
 rw[<-e,List.getD_eq_getElem?_getD,List.getElem?_eq_getElem hj]
 rfl
theorem c1j{l:List UInt8}{k:Nat}(hk:k<87)(h:B_.getD k []=l):B_.contains l=true:=by
 have:B_.getD k []∈B_:=by
  rw[List.getD_eq_getElem?_getD,List.getElem?_eq_getElem (show k<B_.length by rw[a2N];exact hk)]
  exact List.getElem_mem _
 rw[<-h]
 simpa using this
def inB(l:List UInt8):Bool:=B_.contains l
def c2z(s:ByteArray)(i:Value):Prop:=∃k:Nat,k<=87/\i=.int .i64 k /\ ∀j,j<k->B_.getD j [] ≠ s.data.toList
theorem c2g(s:ByteArray)(w:World)(B:Nat)(h:w.heap[B]? = some a8P) :
  Calls Tryz.prog 207 #[.slice (some ⟨B,0,none⟩) 87 87,.string s] w fun e w'=>e=.returned (.bool (inB s.data.toList))/\w=w':=by
 have H:=Lib.hid h
 clear h
 go_enter Tryz.func207,Tryz.ntmps207
 go_wp2_with fail
 go_loop [5] (fun i=>c2z s i) (fun i=>87 - (intOf i).toNat)
 case atStart=>exact⟨0,by omega,rfl,fun j hj=>absurd hj (by omega)⟩
 case round=>
  obtain⟨k,hk,rfl,hno⟩:=hrel
  have HN:=Lib.hid hno
  clear hno
  by_cases hlt:k<87
  ·have hc:=b8T H.out hlt
   have HY:=Lib.hid (fun e:B_.getD k []=s.data.toList=>c1j hlt e)
   have HN2:Hid (B_.getD k [] ≠ s.data.toList -> ∀j,j<k+1->B_.getD j [] ≠ s.data.toList):=Lib.hid (fun h j hj=>by
    by_cases e:j=k
    ·subst e;exact h
    ·exact HN.out j (by omega))
   have k0:(0:Int)<=(k:Int):=by omega
   have k1:(k:Int)<87:=by omega
   generalize B_.getD k []=y at hc HY HN2
   by_cases he:y=s.toList
   ·have b1:(y==s.toList)=true:=beq_iff_eq.2 he
    have HW:Hid (inB s.data.toList=true):=Lib.hid (HY.out (he.trans (Lib.toList_data s)))
    clear he HY HN2
    go_wp2_with fail
    go_ret
    exact⟨by rw[HW.out];rfl,rfl⟩
   ·have b1:(y==s.toList)=false:=beq_eq_false_iff_ne.2 he
    have HW:=Lib.hid (HN2.out (fun e=>he (e.trans (Lib.toList_data s).symm)))
    clear he HY HN2
    go_wp2_with fail
    go_round
    case rel=>exact⟨k+1,by omega,by go_num,HW.out⟩
    case measure=>simp[intOf];omega
  ·obtain rfl:k=87:=by omega
   have HW:Hid (inB s.data.toList=false):=Lib.hid (c1Y HN.out)
   clear HN
   go_wp2_with fail
   go_ret
   exact⟨by rw[HW.out];rfl,rfl⟩
theorem b6a(s:ByteArray)(w:World):Calls Tryz.prog 130 #[.string s] w (b2j w s):=by
 have hnot:∀(x:Bool) (w:World),(Op.unary .not (.bool x)).run Tryz.prog w=.ok (.bool (!x)) w:=fun _ _=>rfl
 rcases Nat.eq_zero_or_pos s.size with h0|h0
 ·have hl:s.toList=[]:=by rw[Lib.toList_data];exact List.eq_nil_of_length_eq_zero (by rw[a1e];exact h0)
  have hl2:s.toList.isEmpty=true:=by rw[hl];rfl
  have HN:=Lib.hid (a3Z (l:=s.data.toList) (by rw[<-Lib.toList_data];exact hl))
  clear hl h0
  go_enter Tryz.func130,Tryz.ntmps130
  go_wp2_with fail
  go_ret
  exact⟨by rw[HN.out];rfl,Below.refl _ _⟩
 ·have hne:s.data.toList ≠ []:=fun e=>by have:=a1e s;rw[e] at this;simp at this;omega
  have hl2:s.toList.isEmpty=false:=by rw[Lib.toList_data];simpa using hne
  have HNE:=Lib.hid hne
  clear hne
  rcases Nat.lt_or_ge 24 s.size with h24|h24
  ·have HN:=Lib.hid (a4V (l:=s.data.toList) (by rw[a1e];exact h24))
   have d1:(24:Int)<(s.size:Int):=by omega
   go_enter Tryz.func130,Tryz.ntmps130
   go_wp2_with fail
   go_ret
   exact⟨by rw[HN.out];rfl,Below.refl _ _⟩
  ·have d1:¬(24:Int)<(s.size:Int):=by omega
   have z1:(0:Int)<(s.size:Int):=by omega
   have hHD:=a3U h0
   rcases hc:a0j s[0].toNat with _|_
   ·have HHD:=Lib.hid (hHD.trans hc)
    have hcc:(s[0].toNat:Int)<48\/((48:Int)<=(s[0].toNat:Int)/\(57:Int)<(s[0].toNat:Int)):=by unfold a0j at hc;simp at hc;omega
    clear hc hHD
    rcases hcc with q1|⟨q1,q2⟩
    all_goals
     go_enter Tryz.func130,Tryz.ntmps130
     go_wp2_with fail
     go_loop [3] (fun i=>c1l s i) (fun i=>s.size - (intOf i).toNat)
     case atStart=>exact⟨0,Nat.zero_le _,rfl,fun j _ hj=>absurd hj (by omega)⟩
     case round=>
      obtain⟨k,hk,rfl,hi⟩:=hrel
      have HI:=Lib.hid hi
      clear hi
      by_cases hlt:k<s.size
      ·have hb8:s[k].toNat<256:=s[k].toNat_lt
       have HIN:Hid (a1F s[k].toNat=true -> ∀j (h:j<s.size),j<k+1->a1F s[j].toNat=true):=Lib.hid (fun hl j hj hjk=>by
        by_cases e:j=k
        ·subst e;exact hl
        ·exact HI.out j hj (by omega))
       rcases hlo:a1F s[k].toNat with _|_
       ·have HN:=Lib.hid (a4e (a9b hlt) hlo)
        have b3:((s[k].toNat:Int)==95)=false:=beq_eq_false_iff_ne.2 (by unfold a1F at hlo;simp at hlo;omega)
        have hq:((s[k].toNat:Int)<48)\/((48:Int)<=(s[k].toNat:Int)/\(57:Int)<(s[k].toNat:Int)/\(s[k].toNat:Int)<97)\/((97:Int)<=(s[k].toNat:Int)/\(122:Int)<(s[k].toNat:Int)):=by unfold a1F at hlo;simp at hlo;omega
        clear hlo HIN
        rcases hq with r1|⟨r1,r2,r3⟩|⟨r1,r2⟩
        ·go_wp2_with fail
         go_ret
         exact⟨by rw[HN.out];rfl,Below.refl _ _⟩
        ·have e5:decide ((s[k].toNat:Int)<=57)=false:=decide_eq_false (by omega)
         go_wp2_with fail
         go_ret
         exact⟨by rw[HN.out];rfl,Below.refl _ _⟩
        ·have e5:decide ((s[k].toNat:Int)<=57)=false:=decide_eq_false (by omega)
         have e6:decide ((s[k].toNat:Int)<=122)=false:=decide_eq_false (by omega)
         go_wp2_with fail
         go_ret
         exact⟨by rw[HN.out];rfl,Below.refl _ _⟩
       ·have HLO:=Lib.hid (HIN.out hlo)
        have hq:((97:Int)<=(s[k].toNat:Int)/\(s[k].toNat:Int)<=122)\/((s[k].toNat:Int)<97/\(48:Int)<=(s[k].toNat:Int)/\(s[k].toNat:Int)<=57)\/s[k].toNat=95:=by unfold a1F at hlo;simp at hlo;omega
        clear hlo HIN
        rcases hq with⟨r1,r2⟩|⟨r0,r1,r2⟩|r1
        iterate 2
         ·go_wp2_with fail
          go_round
          case rel=>exact⟨k+1,by omega,by go_num,HLO.out⟩
          case measure=>simp[intOf];omega
        ·have b3:((s[k].toNat:Int)==95)=true:=beq_iff_eq.2 (by omega)
         have r2:(s[k].toNat:Int)<97:=by omega
         have r3:(48:Int)<=(s[k].toNat:Int):=by omega
         have r4:(57:Int)<(s[k].toNat:Int):=by omega
         clear r1
         go_wp2_with fail
         go_round
         case rel=>exact⟨k+1,by omega,by go_num,HLO.out⟩
         case measure=>simp[intOf];omega
      ·obtain rfl:k=s.size:=by omega
       have hal:=b2t HI.out
       have HWL:=Lib.hid (b2U hal)
       have hn:nameB s.data.toList = !(inB s.data.toList):=by
        rcases hw:isWord s.data.toList with _|_
        ·rw[b3n HNE.out (by rw[a1e];exact h24) HHD.out hw hal]
         unfold inB;rw[<-HWL.out,hw];rfl
        ·rw[b0N hw]
         unfold inB;rw[<-HWL.out,hw];rfl
       have HN:=Lib.hid hn
       clear hn hal HI
       go_wp2_with fail
       refine(b1M w).mono ?_
       rintro e w' ⟨rfl,rfl⟩
       go_wp2_with fail
       refine(c2g s _ w.heap.size (heap_alloc_new w _)).mono ?_
       rintro e w' ⟨rfl,rfl⟩
       go_wp2_with fail
       go_ret
       exact⟨by rw[HN.out];rfl,(Below.refl _ _).alloc (Nat.le_refl _) _⟩
   ·have HN:=Lib.hid (a5C (hHD.trans hc))
    have q1:(48:Int)<=(s[0].toNat:Int):=by unfold a0j at hc;simp at hc;omega
    have q2:(s[0].toNat:Int)<=57:=by unfold a0j at hc;simp at hc;omega
    clear hc hHD
    go_enter Tryz.func130,Tryz.ntmps130
    go_wp2_with fail
    go_ret
    exact⟨by rw[HN.out];rfl,Below.refl _ _⟩
end Go.Proofs.YtlimlmjljjmcpaaGreatDoor
