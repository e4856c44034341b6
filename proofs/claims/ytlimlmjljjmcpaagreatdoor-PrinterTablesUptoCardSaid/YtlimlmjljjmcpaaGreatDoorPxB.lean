import Derived.Test.YtlimlmjljjmcpaaGreatDoorPxA
import Derived.Test.YtlimlmjljjmcpaaGreatDoorLxA
import Derived.Test.YtlimlmjljjmcpaaGreatDoorShelf4
import Derived.Test.YtlimlmjljjmcpaaGreatDoorProg
import Derived.MapKept
import Derived.WalkKit
import Derived.WalkSmall
import Derived.Below
set_option maxHeartbeats 8000000
set_option maxRecDepth 100000
namespace Go.Proofs.YtlimlmjljjmcpaaGreatDoor.Px
open Go Go.RowKit Go.Proofs.YtlimlmjljjmcpaaGreatDoor.Ps
set_option linter.unusedVariables false
set_option linter.unusedSimpArgs false
theorem mkL(l:S):(ByteArray.mk l.toArray).data.toList=l:=by simp
theorem mkS(l:S):(ByteArray.mk l.toArray).size=l.length:=by simp[ByteArray.size]
theorem b2V(b:UInt8)(l:S):a0h (b::l)=(b==46 || a0h l):=by
 unfold a0h
 rw[List.contains_cons]
 by_cases h:b=46
 ·subst h;rfl
 ·have h2:¬(46:UInt8)=b:=fun e=>h e.symm
  have e1:(b==46)=false:=by simpa using h
  have e2:((46:UInt8)==b)=false:=by simpa using h2
  rw[e1,e2]
theorem b6P:∀s:S,Lib.index s [46]=if a0h s then((V_ s).length:Int) else -1
 |[]=>by simp[Lib.index,a0h]
 |b::l=>by
  rw[b2V]
  by_cases h:b=46
  ·subst h
   simp[Lib.index,V_]
  ·have hp:([46]:S).isPrefixOf (b::l)=false:=by simp[List.isPrefixOf];exact fun e=>h e.symm
   have hpre:V_ (b::l)=b::V_ l:=by simp[V_,h]
   have hb:(b==46)=false:=by simpa using h
   rw[hpre,hb,Bool.false_or]
   unfold Lib.index
   rw[hp,b6P l]
   cases hd:a0h l with
   |false=>simp
   |true=>simp<;>omega
theorem a9v(s:S):s.take (V_ s).length=V_ s:=by
 have h:V_ s <+: s:=List.takeWhile_prefix _
 exact(List.prefix_iff_eq_take.1 h).symm
theorem c0n(s:S):Lib.cut s [46]=if a0h s then(V_ s,a2q s,true) else(s,[],false):=by
 unfold Lib.cut
 rw[b6P]
 cases hd:a0h s with
 |false=>simp
 |true=>
  simp only[if_true]
  rw[if_pos (by omega)]
  simp only[Int.toNat_natCast,a9v]
  rfl
theorem c0N{s:S}{w:World}(h:Env w):Calls Tryz.prog 139 #[.string ⟨s.toArray⟩] w (Ret w (.bool (nameB s))):=by
 have:=b7o ⟨s.toArray⟩ w h.tab
 unfold b2j at this
 rw[mkL] at this
 exact this
theorem a1H(s:S)(w:World):Calls Tryz.prog 130 #[.string ⟨s.toArray⟩] w (Ret w (.bool (nameB s))):=by
 have:=b6a ⟨s.toArray⟩ w
 unfold b2j at this
 rw[mkL] at this
 exact this
theorem a0N{s:S}{w:World}(h:Env w):Calls Tryz.prog 61 #[.string ⟨s.toArray⟩] w (Ret w (.bool (nameB s))):=by
 have HC:=h_ (c0N (s:=s) h)
 go_enter Tryz.func61,Tryz.ntmps61
 go_wp2_with fail
 refine HC.out.mono ?_
 rintro e w1 ⟨rfl,hb⟩
 go_wp2_with fail
 go_ret
 exact⟨rfl,hb⟩
theorem a8s{s:S}{w:World}(h:Env w)(hs:s.length<4294967281):Calls Tryz.prog 63 #[.string ⟨s.toArray⟩] w (Ret w (.bool (a2v s))):=by
 obtain⟨m,hm⟩:=h.maxl
 have CC:=Tryz.strings_Cut ⟨s.toArray⟩ ⟨#[46]⟩ m w (by rw[mkS];exact hs) hm
 have e46:(ByteArray.mk #[46]).data.toList=[46]:=rfl
 rw[mkL,e46,c0n] at CC
 have HE:=h_ h
 clear hm h
 cases hd:a0h s with
 |false=>
  rw[hd] at CC
  simp only[Bool.false_eq_true,if_false] at CC
  have HC:=h_ CC
  have HR:Hid (a2v s=nameB s):=h_ (by unfold a2v;rw[hd];rfl)
  clear CC hd
  go_enter Tryz.func63,Tryz.ntmps63
  go_wp2_with fail
  refine HC.out.mono ?_
  rintro e w1 ⟨rfl,n,rfl⟩
  have hb0:Below w.heap.size w (w.drewN n):=belowD w n
  have HN:=h_ ((a0N (s:=s) (HE.out.below hb0)).mono fun e w' h'=>(⟨h'.1,hb0.trans (h'.2.mono hb0.size)⟩:Ret w _ e w'))
  clear HC hb0
  go_wp2_with fail
  refine HN.out.mono ?_
  rintro e w1 ⟨rfl,hb1⟩
  have HB:=h_ hb1
  clear hb1
  cases hn:nameB s<;>go_wp2_with fail
  all_goals(go_ret;exact⟨by rw[HR.out,hn];rfl,HB.out⟩)
 |true=>
  rw[hd] at CC
  simp only[if_true] at CC
  have HC:=h_ CC
  have HR:Hid (a2v s=(nameB (V_ s)&&nameB (a2q s))):=h_ (by unfold a2v;rw[hd];rfl)
  clear CC hd
  generalize V_ s=a at HC HR
  generalize a2q s=b at HC HR
  go_enter Tryz.func63,Tryz.ntmps63
  go_wp2_with fail
  refine HC.out.mono ?_
  rintro e w1 ⟨rfl,n,rfl⟩
  have hb0:Below w.heap.size w (w.drewN n):=belowD w n
  have HN:=h_ ((a0N (s:=a) (HE.out.below hb0)).mono fun e w' h'=>(⟨h'.1,hb0.trans (h'.2.mono hb0.size)⟩:Ret w _ e w'))
  clear HC hb0
  go_wp2_with fail
  refine HN.out.mono ?_
  rintro e w1 ⟨rfl,hb1⟩
  have HB:=h_ hb1
  have HN2:=h_ ((a0N (s:=b) (HE.out.below hb1)).mono fun e w' h'=>(⟨h'.1,hb1.trans (h'.2.mono hb1.size)⟩:Ret w _ e w'))
  clear hb1 HN
  cases hn:nameB a<;>go_wp2_with fail
  ·go_ret
   exact⟨by rw[HR.out,hn];rfl,HB.out⟩
  ·refine HN2.out.mono ?_
   rintro e w2 ⟨rfl,hb2⟩
   go_wp2_with fail
   go_ret
   exact⟨by rw[HR.out,hn];rfl,hb2⟩
theorem b9f{s:ByteArray}(h:∀j (hj:j<s.size),s[j] ≠ 46):a0h s.data.toList=false:=by
 cases hd:a0h s.data.toList with
 |false=>rfl
 |true=>
  have hm:(46:UInt8)∈s.data.toList:=by unfold a0h at hd;simpa using hd
  obtain⟨j,hj,e⟩:=List.mem_iff_getElem.1 hm
  exact absurd e (h j (by simpa using hj))
theorem b7V{s:ByteArray}{k:Nat}(hk:k<s.size)(hall:∀j (hj:j<s.size),j<k->s[j] ≠ 46)(hc:s[k]=46):a0h s.data.toList=true/\(V_ s.data.toList).length=k:=by
 have hk':k<s.data.toList.length:=by simpa using hk
 have hgen:∀(l:S) (k:Nat) (hk:k<l.length),(∀j (hj:j<l.length),j<k->l[j] ≠ 46)->l[k]=46->a0h l=true/\(V_ l).length=k:=by
  intro l
  induction l with
  |nil=>intro k hk;simp at hk
  |cons b l ih=>
   intro k hk hall hc
   rw[b2V]
   cases k with
   |zero=>
    have hb:b=46:=hc
    subst hb
    exact⟨rfl,by simp[V_]⟩
   |succ k=>
    have hb:b ≠ 46:=hall 0 (by simp) (by omega)
    have:=ih k (by simpa using hk) (fun j hj hjk=>hall (j+1) (by simpa using hj) (by omega)) (by simpa using hc)
    refine⟨by rw[this.1];simp,?_⟩
    have hpre:V_ (b::l)=b::V_ l:=by simp[V_,hb]
    rw[hpre,List.length_cons,this.2]
 exact hgen _ k hk' (fun j hj hjk=>hall j (by simpa using hj) hjk) hc
def c2A(s:ByteArray)(i:Value):Prop:=∃k:Nat,k<=s.size/\i=.int .i64 k /\ ∀j (h:j<s.size),j<k->s[j] ≠ 46
def a2O(s:S):Int:=if a0h s then((V_ s).length:Int) else -1
theorem c0x{c:UInt8}(h:c ≠ 46):¬(c.toNat:Int)=46:=fun e=>h (UInt8.toNat_inj.1 (by show c.toNat=46;omega))
theorem b7A(s:ByteArray)(w:World)(hs:s.size<=140737488351232):Calls Tryz.prog 240 #[.string s] w (Ret w (.int .i64 (a2O s.data.toList))):=by
 go_enter Tryz.func240,Tryz.ntmps240
 go_wp2_with fail
 go_loop [3] (fun i=>c2A s i) (fun i=>s.size - (intOf i).toNat)
 case atStart=>exact⟨0,Nat.zero_le _,rfl,fun j _ hj=>absurd hj (by omega)⟩
 case round=>
  obtain⟨k,hk,rfl,hi⟩:=hrel
  have HI:=h_ hi
  clear hi
  by_cases hlt:k<s.size
  ·by_cases hc:s[k]=46
   ·have HD:=h_ (b7V hlt HI.out hc)
    have hc2:(s[k].toNat:Int)=46:=by rw[hc];rfl
    clear hc HI
    go_wp2_with fail
    go_ret
    exact⟨by unfold a2O;rw[HD.out.1,HD.out.2];rfl,Below.refl _ _⟩
   ·have hc2:=c0x hc
    have HIN:Hid (∀j (h:j<s.size),j<k+1->s[j] ≠ 46):=h_ (fun j hj hjk=>by
     by_cases e:j=k
     ·subst e;exact hc
     ·exact HI.out j hj (by omega))
    clear hc
    go_wp2_with fail
    go_round
    case rel=>exact⟨k+1,by omega,by go_num,HIN.out⟩
    case measure=>simp[intOf];omega
  ·obtain rfl:k=s.size:=by omega
   have HD:=h_ (b9f fun j hj=>HI.out j hj hj)
   clear HI
   go_wp2_with fail
   go_ret
   exact⟨by unfold a2O;rw[HD.out];rfl,Below.refl _ _⟩
theorem a5H(s:S)(w:World)(hs:s.length<=140737488351232):Calls Tryz.prog 240 #[.string ⟨s.toArray⟩] w (Ret w (.int .i64 (a2O s))):=by
 have:=b7A ⟨s.toArray⟩ w (by rw[mkS];exact hs)
 rwa [mkL] at this
end Go.Proofs.YtlimlmjljjmcpaaGreatDoor.Px
namespace Go.Proofs.YtlimlmjljjmcpaaGreatDoor.Px
open Go Go.RowKit Go.MapKept
set_option linter.unusedVariables false
set_option linter.unusedSimpArgs false
def b0q:Nat->List (Int × ByteArray)->List MapEntry
 |_,[]=>[]
 |i,(k,s)::l=>⟨.int .i64 k,.string s,i⟩::b0q (i+1) l
def a5I(k:Int):List (Int × ByteArray)->Nat->Option (Nat × Value)
 |[],_=>none
 |(a,s)::l,j=>if k=a then some (j,.string s) else a5I k l (j+1)
def a6d(k:Int)(l:List (Int × ByteArray)):Value:=match a5I k l 0 with|some x=>x.2|none=>.string ⟨#[]⟩
theorem a6S(q:IntKind)(k:Int):∀(l:List (Int × ByteArray)) (i j:Nat),Instr.findNow (.int q) (.int .i64 k) (b0q i l) j=some (a5I k l j)
 |[],_,_=>rfl
 |(a,s)::l,i,j=>by
  unfold b0q a5I Instr.findNow
  by_cases h:k=a
  ·subst h
   simp[Instr.sameNow]
  ·have e:(k==a)=false:=by simpa using h
   simp[Instr.sameNow,e,h,a6S q k l]
theorem b1h(k:Int)(s:ByteArray):∀(l:List (Int × ByteArray)) (i:Nat),b0q i (l++[(k,s)])=b0q i l++[⟨.int .i64 k,.string s,i+l.length⟩]
 |[],_=>rfl
 |(a,t)::l,i=>by
  rw[List.cons_append,b0q,b0q,b1h k s l,List.length_cons,List.cons_append,show i+1+l.length=i+(l.length+1) by omega]
structure MapAt(w0 w:World)(b:Nat)(l:List (Int × ByteArray)):Prop where
 obj:w.heap[b]? = some (.map (b0q 0 l).toArray l.length)
 bel:Below w0.heap.size w0 w
 old:w0.heap.size<=b
theorem a9J(w0:World):MapAt w0 (w0.alloc (.map #[] 0)) w0.heap.size []:=
 ⟨heap_alloc_new w0 _,(Below.refl _ _).alloc (Nat.le_refl _) _,Nat.le_refl _⟩
section
variable {ops:Array Oper} {rest:List Oper} {o:Oper} {a:Act} {Q:Exit->Act->World->Prop} {w0 w:World} {b:Nat} {l:List (Int × ByteArray)}
theorem a6X(hg:o.guard=none)(m:Operand)(k:Int)(s:ByteArray)(hop:o.op=Op.insert 162 m (.const (.int .i64 k)) (.const (.string s)))(hm:a.eval m=.map (some b))(h:MapAt w0 w b l)(hn:a5I k l 0=none)(hK:∀w',MapAt w0 w' b (l++[(k,s)])->wpList Tryz.prog ops Q rest (a.put o.dst undef) w'):wpList Tryz.prog ops Q (o::rest) a w:=by
 refine wpList_plain hg fun K' hK'=>?_
 have hk:IsKey (.int .i64) (.int .i64 k):=by simp[IsKey]
 have hf:=a6S .i64 k l 0 0
 rw[hn] at hf
 have hrun:(Instr.mapUpdate 162 (.map (some b)) (.int .i64 k) (.string s)).run Tryz.prog w=.ok () {w with heap:=w.heap.setIfInBounds b (.map (b0q 0 (l++[(k,s)])).toArray (l++[(k,s)]).length)}:=by
  have hf':Instr.findNow (.int .i64) (.int .i64 k) (b0q 0 l).toArray.toList 0=some none:=hf
  simp[Instr.mapUpdate,run_underlying Tryz.underlying162,MapKept.run_getObj_map h.obj,run_checkKey Tryz.underlying3 hk,run_findKey Tryz.underlying3 hf,run_setObj_map _ h.obj,Result.andThen,b1h]
 unfold Oper.wp
 have e1:a.eval (.const (.int .i64 k))=.int .i64 k:=rfl
 have e2:a.eval (.const (.string s))=.string s:=rfl
 simp only[execOp,hop,hm,e1,e2]
 simp[hrun,Result.andThen]
 have hlt:b<w.heap.size:=(Array.getElem?_eq_some_iff.1 h.obj).1
 refine hK' _ _ (hK _ ⟨?_,⟨h.bel.os,h.bel.tape,h.bel.output,by simpa using h.bel.size,fun i hi=>?_⟩,h.old⟩)
 ·simp[hlt]
 ·have:=h.old
  rw[<-h.bel.block i hi]
  show(w.heap.setIfInBounds b _)[i]? = _
  rw[Array.getElem?_setIfInBounds_ne (by omega)]
theorem b1w(hg:o.guard=none)(m x:Operand)(k:Int)(hop:o.op=Op.lookup 162 m x false)(hm:a.eval m=.map (some b))(hx:a.eval x=.int .i64 k)(h:MapAt w0 w b l)(r:Value)(hat:a6d k l=r)(hK:wpList Tryz.prog ops Q rest (a.put o.dst r) w):wpList Tryz.prog ops Q (o::rest) a w:=by
 refine wpList_plain hg fun K' hK'=>?_
 have hk:IsKey (.int .i64) (.int .i64 k):=by simp[IsKey]
 have hz:(zeroValue 9).run Tryz.prog w=.ok (.string ⟨#[]⟩) w:=by kernel_rfl
 have hf:=a6S .i64 k l 0 0
 have hrun:(Instr.lookup 162 (.map (some b)) (.int .i64 k) false).run Tryz.prog w=.ok (a6d k l) w:=by
  unfold a6d
  cases he:a5I k l 0 with
  |none=>
   rw[he] at hf
   simp[Instr.lookup,run_underlying Tryz.underlying162,MapKept.run_getObj_map h.obj,run_checkKey Tryz.underlying3 hk,run_findKey Tryz.underlying3 hf,hz,Result.andThen]
  |some x=>
   rw[he] at hf
   simp[Instr.lookup,run_underlying Tryz.underlying162,MapKept.run_getObj_map h.obj,run_checkKey Tryz.underlying3 hk,run_findKey Tryz.underlying3 hf,Result.andThen]
 rw[hat] at hrun
 unfold Oper.wp
 simp only[execOp,hop,hm,hx]
 simp[hrun,Result.andThen]
 exact hK' _ _ hK
end
end Go.Proofs.YtlimlmjljjmcpaaGreatDoor.Px
namespace Go.Proofs.YtlimlmjljjmcpaaGreatDoor.Px
open Go Go.RowKit Go.Proofs.YtlimlmjljjmcpaaGreatDoor.Ps
set_option linter.unusedVariables false
set_option linter.unusedSimpArgs false
theorem a7W{x:X}{cs:List Value}{w:World}(h:XR w x cs):Calls Tryz.prog 68 #[.agg cs.toArray] w (Ret w (.bool (number x))):=by
 obtain⟨op,int,vk,vi,vs,nm,l⟩:=x
 obtain⟨a,m,rfl,_⟩:=h.lits
 clear h
 go_enter Tryz.func68,Tryz.ntmps68
 go_upto_region 1 with(fail)
 refine nA fun w1 hB hw1 hz1=>?_
 have p0:=hB.cell 0 rfl
 have p2:=hB.cell 2 rfl
 have HW:=h_ hw1
 have HBk:=h_ hB
 clear hB hw1
 go_wp2_with fail
 all_goals(go_ret;refine⟨congrArg (fun z=>Ending.returned (.bool z)) ?_,HW.out⟩;simp_all[number,X.op,X.vk]<;>rfl)
theorem a8K{x:X}{cs:List Value}{w:World}(h:XR w x cs):Calls Tryz.prog 71 #[.agg cs.toArray] w (Ret w (.int .i64 (level x))):=by
 have HX:=h_ h
 obtain⟨op,int,vk,vi,vs,nm,l⟩:=x
 obtain⟨a,m,rfl,_⟩:=h.lits
 have hl:level (.mk op int vk vi vs nm l)=R_ op vk vi:=rfl
 rw[hl]
 clear h hl
 go_enter Tryz.func71,Tryz.ntmps71
 go_upto_region 1 with(fail)
 refine nA fun w1 hB hw1 hz1=>?_
 obtain⟨p0,p1,p2,p3,p4,p5,p6⟩:=hB.c7
 have HW:=h_ hw1
 have HBk:=h_ hB
 clear hB hw1
 have CN:=h_ (a7W (HX.out.kept HW.out (Nat.le_refl _)))
 have hn:number (.mk op int vk vi vs nm l)=(decide (op=1)&&decide (vk=1)):=rfl
 rw[hn] at CN
 clear hn
 go_wp2_with fail
 all_goals(try(refine CN.out.mono ?_;rintro e w2 ⟨rfl,hw2⟩;have HW2:=t_ HW hw2;have q3:=(HBk.out.below hw2).cell 3 rfl;clear hw2;by_cases hk:vk=1<;>by_cases hi:vi<0<;>simp only[hk,hi,decide_true,decide_false,Bool.and_true,Bool.and_false]<;>go_wp2_with fail))
 all_goals(go_ret;first|(refine⟨congrArg (fun z=>Ending.returned (.int .i64 z)) ?_,HW.out⟩;unfold R_;simp_all)|(refine⟨congrArg (fun z=>Ending.returned (.int .i64 z)) ?_,HW2.out⟩;unfold R_;simp_all))
theorem a2Q{x:X}{cs:List Value}{w:World}(h:XR w x cs):Calls Tryz.prog 80 #[.agg cs.toArray] w (Ret w (.int .i64 (level x))):=by
 obtain⟨op,int,vk,vi,vs,nm,l⟩:=x
 obtain⟨a,m,rfl,_⟩:=h.lits
 have hl:level (.mk op int vk vi vs nm l)=R_ op vk vi:=rfl
 rw[hl]
 clear h hl
 go_enter Tryz.func80,Tryz.ntmps80
 go_upto_region 1 with(fail)
 refine nA fun w1 hB hw1 hz1=>?_
 have p0:=hB.cell 0 rfl
 have p2:=hB.cell 2 rfl
 have p3:=hB.cell 3 rfl
 have HW:=h_ hw1
 have HBk:=h_ hB
 clear hB hw1
 go_wp2_with fail
 all_goals(go_ret;refine⟨congrArg (fun z=>Ending.returned (.int .i64 z)) ?_,HW.out⟩;unfold R_;simp_all)
theorem a4G(op:Int)(n:Nat)(w:World):Calls Tryz.prog 60 #[.int .i64 op,.int .i64 (n:Int)] w (Ret w (.bool (a0D op n))):=by
 go_enter Tryz.func60,Tryz.ntmps60
 go_wp2_with fail
 all_goals(go_ret;refine⟨congrArg (fun z=>Ending.returned (.bool z)) ?_,Below.refl _ _⟩;unfold a0D;simp_all<;>first|omega|rfl|(rw[Bool.eq_iff_iff];simp<;>omega))
theorem a3M(op:Int)(w:World):Calls Tryz.prog 241 #[.int .i64 op] w (Ret w (.tuple #[.int .i64 (arity op).1,.int .i64 (arity op).2])):=by
 go_enter Tryz.func241,Tryz.ntmps241
 go_wp2_with fail
 all_goals(go_ret2;refine⟨congrArg (fun z:Int × Int=>Ending.returned (.tuple #[.int .i64 z.1,.int .i64 z.2])) (?_:(_,_)=arity op),Below.refl _ _⟩;unfold arity;simp_all)
theorem a5p(op:Int)(w:World)(h:op ≠ 5/\op ≠ 6/\op ≠ 20/\op ≠ 22/\op ≠ 23):Calls Tryz.prog 81 #[.int .i64 op] w (Ret w (.string ⟨(W_ op).toArray⟩)):=by
 obtain⟨h1,h2,h3,h4,h5⟩:=h
 go_enter Tryz.func81,Tryz.ntmps81
 go_wp2_with fail
 all_goals(go_ret;refine⟨congrArg (fun z=>Ending.returned (.string z)) ?_,Below.refl _ _⟩;unfold W_;simp_all)
def c1t:List (Int × ByteArray):=[(6,⟨#[79,82]⟩),(5,⟨#[65,78,68]⟩),(7,⟨#[61]⟩),(8,⟨#[60,62]⟩),(9,⟨#[60]⟩),(10,⟨#[60,61]⟩),(11,⟨#[62]⟩),(12,⟨#[62,61]⟩),(13,⟨#[43]⟩),(14,⟨#[45]⟩),(19,⟨#[124,124]⟩),(15,⟨#[42]⟩),(16,⟨#[47]⟩),(17,⟨#[37]⟩),(22,⟨#[73,70]⟩),(23,⟨#[67,79,65,76,69,83,67,69]⟩),(20,⟨#[76,69,78,71,84,72]⟩)]
theorem b8d(n:Int):a6d n c1t=.string ⟨(W_ n).toArray⟩:=by
 unfold W_ c1t a6d
 by_cases h5:n=5
 ·subst h5;rfl
 by_cases h6:n=6
 ·subst h6;rfl
 by_cases h7:n=7
 ·subst h7;rfl
 by_cases h8:n=8
 ·subst h8;rfl
 by_cases h9:n=9
 ·subst h9;rfl
 by_cases h10:n=10
 ·subst h10;rfl
 by_cases h11:n=11
 ·subst h11;rfl
 by_cases h12:n=12
 ·subst h12;rfl
 by_cases h13:n=13
 ·subst h13;rfl
 by_cases h14:n=14
 ·subst h14;rfl
 by_cases h15:n=15
 ·subst h15;rfl
 by_cases h16:n=16
 ·subst h16;rfl
 by_cases h17:n=17
 ·subst h17;rfl
 by_cases h19:n=19
 ·subst h19;rfl
 by_cases h20:n=20
 ·subst h20;rfl
 by_cases h22:n=22
 ·subst h22;rfl
 by_cases h23:n=23
 ·subst h23;rfl
 simp only[a5I,h6,h5,h7,h8,h9,h10,h11,h12,h13,h14,h19,h15,h16,h17,h22,h23,h20,if_false]
theorem a4M(n:Int)(w:World):Calls Tryz.prog 69 #[.int .i64 n] w (Ret w (.string ⟨(W_ n).toArray⟩)):=by
 have hmm:=@run_makeMap Tryz.prog
 have HL:=h_ (b8d n)
 go_enter Tryz.func69,Tryz.ntmps69
 have HS:=a9J w
 go_wp2_with (first|(refine T_ rfl (a6X rfl (.tmp 3) _ _ rfl rfl HS (by decide) ?_);clear HS;intro w2 HS)|(refine T_ rfl (b1w rfl (.tmp 4) (.tmp 5) n rfl rfl rfl HS _ HL.out ?_)))
 go_ret
 exact⟨rfl,HS.bel⟩
def b8y:List (Int × ByteArray):=[(0,⟨#[86,65,76,73,68,70,82,79,77]⟩),(1,⟨#[86,65,76,73,68,84,79]⟩),(2,⟨#[83,89,83,84,69,77,70,82,79,77]⟩),(3,⟨#[83,89,83,84,69,77,84,79]⟩),(4,⟨#[84,88]⟩)]
theorem b5I(n:Int):a6d n b8y=.string ⟨(a0u n).toArray⟩:=by
 unfold a0u b8y a6d
 by_cases h0:n=0
 ·subst h0;rfl
 by_cases h1:n=1
 ·subst h1;rfl
 by_cases h2:n=2
 ·subst h2;rfl
 by_cases h3:n=3
 ·subst h3;rfl
 by_cases h4:n=4
 ·subst h4;rfl
 simp only[a5I,h0,h1,h2,h3,h4,if_false]
theorem a8w(n:Int)(w:World):Calls Tryz.prog 64 #[.int .i64 n] w (Ret w (.string ⟨(a0u n).toArray⟩)):=by
 have hmm:=@run_makeMap Tryz.prog
 have HL:=h_ (b5I n)
 go_enter Tryz.func64,Tryz.ntmps64
 have HS:=a9J w
 go_wp2_with (first|(refine T_ rfl (a6X rfl (.tmp 3) _ _ rfl rfl HS (by decide) ?_);clear HS;intro w2 HS)|(refine T_ rfl (b1w rfl (.tmp 4) (.tmp 5) n rfl rfl rfl HS _ HL.out ?_)))
 go_ret
 exact⟨rfl,HS.bel⟩
theorem a0x(w:World):Calls Tryz.prog 145 #[] w (Ret w (.agg #[.int .i64 0,.int .i64 0,.string ⟨#[]⟩])):=by
 go_enter Tryz.func145,Tryz.ntmps145
 go_wp2_with fail
 exact bodyPost_ret (results_cell_row Tryz.results145 _ _ w.heap.size _ _ (0,0) _ rfl (heap_alloc_new w _) Tryz.underlying23 rfl (by kernel_rfl)) rfl ⟨rfl,d_ w _⟩
theorem a4R(w:World):Calls Tryz.prog 150 #[.bool true] w (Ret w (.agg #[.int .i64 3,.int .i64 1,.string ⟨#[]⟩])):=by
 go_enter Tryz.func150,Tryz.ntmps150
 go_wp2_with fail
 exact bodyPost_ret (results_cell_row Tryz.results150 _ _ w.heap.size _ _ (0,0) _ rfl (heap_alloc_new w _) Tryz.underlying23 rfl (by kernel_rfl)) rfl ⟨rfl,d_ w _⟩
theorem a5D(w:World):Calls Tryz.prog 150 #[.bool false] w (Ret w (.agg #[.int .i64 3,.int .i64 0,.string ⟨#[]⟩])):=by
 go_enter Tryz.func150,Tryz.ntmps150
 go_wp2_with fail
 exact bodyPost_ret (results_cell_row Tryz.results150 _ _ w.heap.size _ _ (0,0) _ rfl (heap_alloc_new w _) Tryz.underlying23 rfl (by kernel_rfl)) rfl ⟨rfl,d_ w _⟩
theorem a9Z(w:World):Calls Tryz.prog 143 #[] w (Ret w (.agg #[.string ⟨(a0k 0).toArray⟩,.string ⟨(a0k 1).toArray⟩,.string ⟨(a0k 2).toArray⟩,.string ⟨(a0k 3).toArray⟩,.string ⟨(a0k 4).toArray⟩,.string ⟨(a0k 5).toArray⟩,.string ⟨(a0k 6).toArray⟩,.string ⟨(a0k 7).toArray⟩,.string ⟨(a0k 8).toArray⟩,.string ⟨(a0k 9).toArray⟩,.string ⟨(a0k 10).toArray⟩,.string ⟨(a0k 11).toArray⟩,.string ⟨(a0k 12).toArray⟩])):=by
 go_enter Tryz.func143,Tryz.ntmps143
 go_wp2_with fail
 exact bodyPost_ret (results_cell_row Tryz.results143 _ _ w.heap.size _ _ (0,0) _ rfl (heap_alloc_new w _) Tryz.underlying163 rfl (by kernel_rfl)) rfl ⟨rfl,d_ w _⟩
theorem b4h(n:Int)(w:World):Calls Tryz.prog 142 #[.int .i64 n] w (Ret w (.bool (decide (0<=n)&&decide (n<13)))):=by
 by_cases h0:0<=n<;>by_cases h1:n<13
 all_goals
  go_enter Tryz.func142,Tryz.ntmps142
  go_wp2_with fail
  go_ret
  exact⟨by simp[h0,h1],Below.refl _ _⟩
theorem b4o{n:Int}(h:¬(0<=n/\n<13)):a0k n=[]:=by
 unfold a0k
 repeat rw[if_neg (by omega)]
theorem thirteen{n:Int}(h:0<=n/\n<13):n=0\/n=1\/n=2\/n=3\/n=4\/n=5\/n=6\/n=7\/n=8\/n=9\/n=10\/n=11\/n=12:=by omega
theorem b3J(n:Int)(w:World):Calls Tryz.prog 65 #[.int .i64 n] w (Ret w (.string ⟨(a0k n).toArray⟩)):=by
 have HE:=b4h n w
 by_cases h:0<=n/\n<13
 ·rw[decide_eq_true h.1,decide_eq_true h.2,Bool.true_and] at HE
  have HE:=h_ HE
  have hix:∀w2,(Instr.index 163 (.agg #[.string ⟨(a0k 0).toArray⟩,.string ⟨(a0k 1).toArray⟩,.string ⟨(a0k 2).toArray⟩,.string ⟨(a0k 3).toArray⟩,.string ⟨(a0k 4).toArray⟩,.string ⟨(a0k 5).toArray⟩,.string ⟨(a0k 6).toArray⟩,.string ⟨(a0k 7).toArray⟩,.string ⟨(a0k 8).toArray⟩,.string ⟨(a0k 9).toArray⟩,.string ⟨(a0k 10).toArray⟩,.string ⟨(a0k 11).toArray⟩,.string ⟨(a0k 12).toArray⟩]) (.int .i64 n)).run Tryz.prog w2=.ok (.string ⟨(a0k n).toArray⟩) w2:=by
   rcases thirteen h with rfl|rfl|rfl|rfl|rfl|rfl|rfl|rfl|rfl|rfl|rfl|rfl|rfl<;>exact fun w2=>by kernel_rfl
  rcases thirteen h with rfl|rfl|rfl|rfl|rfl|rfl|rfl|rfl|rfl|rfl|rfl|rfl|rfl
  all_goals
   clear h
   go_enter Tryz.func65,Tryz.ntmps65
   go_wp2_with fail
   refine HE.out.mono ?_
   rintro e w1 ⟨rfl,hb1⟩
   have HB:=h_ hb1
   clear hb1
   go_wp2_with fail
   refine(a9Z w1).mono ?_
   rintro e w2 ⟨rfl,hb2⟩
   have HB2:=t_ HB hb2
   clear hb2
   go_wp2_with fail
   go_ret
   exact⟨rfl,HB2.out⟩
 ·have e:(decide (0<=n)&&decide (n<13))=false:=by
   rw[<-Bool.decide_and]
   exact decide_eq_false h
  rw[e] at HE
  rw[b4o h]
  have HE:=h_ HE
  clear e h
  go_enter Tryz.func65,Tryz.ntmps65
  go_wp2_with fail
  refine HE.out.mono ?_
  rintro e w1 ⟨rfl,hb1⟩
  go_wp2_with fail
  go_ret
  exact⟨rfl,hb1⟩
theorem b7t(n:Int)(w:World):Calls Tryz.prog 76 #[.int .i64 n] w (Ret w (.string ⟨(a0k n).toArray⟩)):=by
 by_cases h:0<=n/\n<13
 ·rcases thirteen h with rfl|rfl|rfl|rfl|rfl|rfl|rfl|rfl|rfl|rfl|rfl|rfl|rfl
  all_goals
   clear h
   go_enter Tryz.func76,Tryz.ntmps76
   go_wp2_with fail
   go_ret
   exact⟨rfl,d_ w _⟩
 ·rw[b4o h]
  by_cases h0:n<0
  ·clear h
   go_enter Tryz.func76,Tryz.ntmps76
   go_wp2_with fail
   go_ret
   exact⟨rfl,Below.refl _ _⟩
  ·have h1:(13:Int)<=n:=by omega
   clear h
   go_enter Tryz.func76,Tryz.ntmps76
   go_wp2_with fail
   go_ret
   exact⟨rfl,Below.refl _ _⟩
def okL(l:S):Bool:=l.all (fun c=>!a7n c.toNat)
def c1x(s:ByteArray)(i:Value):Prop:=∃k:Nat,k<=s.size/\i=.int .i64 k /\ ∀j (h:j<s.size),j<k->a7n s[j].toNat=false
theorem b8z{s:ByteArray}(h:∀j (hj:j<s.size),a7n s[j].toNat=false):okL s.data.toList=true:=by
 unfold okL
 rw[List.all_eq_true]
 intro c hc
 obtain⟨j,hj,e⟩:=List.mem_iff_getElem.1 hc
 have hj':j<s.size:=by simpa using hj
 have h3:=h j hj'
 have e2:s[j]=c:=e
 rw[e2] at h3
 rw[h3]
 rfl
theorem b8o{s:ByteArray}{k:Nat}(hk:k<s.size)(h:a7n s[k].toNat=true):okL s.data.toList=false:=by
 cases ho:okL s.data.toList with
 |false=>rfl
 |true=>
  unfold okL at ho
  have:=List.all_eq_true.1 ho _ (a9b hk)
  rw[h] at this
  cases this
theorem b1i(n:Nat):(a7n n=true/\(n:Int)<32)\/(a7n n=true/\(32:Int)<=n/\(126:Int)<n)\/(a7n n=false/\(32:Int)<=n/\(n:Int)<=126):=by
 unfold a7n
 simp
 omega
theorem b0t(s:ByteArray)(w:World)(hs:s.size<=140737488351232):Calls Tryz.prog 140 #[.string s] w (Ret w (.bool (okL s.data.toList))):=by
 go_enter Tryz.func140,Tryz.ntmps140
 go_wp2_with fail
 go_loop [3,6] (fun _ i=>c1x s i) (fun _ i=>s.size - (intOf i).toNat)
 case atStart=>exact⟨0,Nat.zero_le _,rfl,fun j _ hj=>absurd hj (by omega)⟩
 case round=>
  obtain⟨k,hk,rfl,hi⟩:=hrel
  have HI:=h_ hi
  clear hi
  by_cases hlt:k<s.size
  ·rcases b1i s[k].toNat with⟨hb,h1⟩|⟨hb,h1,h2⟩|⟨hb,h1,h2⟩
   iterate 2
    ·have HN:=h_ (b8o hlt hb)
     clear hb HI
     go_wp2_with fail
     go_ret
     exact⟨by rw[HN.out];rfl,Below.refl _ _⟩
   ·have HIN:Hid (∀j (h:j<s.size),j<k+1->a7n s[j].toNat=false):=h_ (fun j hj hjk=>by
     by_cases e:j=k
     ·subst e;exact hb
     ·exact HI.out j hj (by omega))
    clear hb
    go_wp2_with fail
    go_round
    case rel=>exact⟨k+1,by omega,by go_num,HIN.out⟩
    case measure=>simp[intOf];omega
  ·obtain rfl:k=s.size:=by omega
   have HN:=h_ (b8z fun j hj=>HI.out j hj hj)
   clear HI
   go_wp2_with fail
   go_ret
   exact⟨by rw[HN.out];rfl,Below.refl _ _⟩
theorem a9n(s:ByteArray)(w:World)(hs:s.size<=140737488351232):Calls Tryz.prog 242 #[.string s] w (Ret w (.bool (okL s.data.toList))):=by
 go_enter Tryz.func242,Tryz.ntmps242
 go_wp2_with fail
 go_loop [3] (fun i=>c1x s i) (fun i=>s.size - (intOf i).toNat)
 case atStart=>exact⟨0,Nat.zero_le _,rfl,fun j _ hj=>absurd hj (by omega)⟩
 case round=>
  obtain⟨k,hk,rfl,hi⟩:=hrel
  have HI:=h_ hi
  clear hi
  by_cases hlt:k<s.size
  ·rcases b1i s[k].toNat with⟨hb,h1⟩|⟨hb,h1,h2⟩|⟨hb,h1,h2⟩
   iterate 2
    ·have HN:=h_ (b8o hlt hb)
     clear hb HI
     go_wp2_with fail
     go_ret
     exact⟨by rw[HN.out];rfl,Below.refl _ _⟩
   ·have HIN:Hid (∀j (h:j<s.size),j<k+1->a7n s[j].toNat=false):=h_ (fun j hj hjk=>by
     by_cases e:j=k
     ·subst e;exact hb
     ·exact HI.out j hj (by omega))
    clear hb
    go_wp2_with fail
    go_round
    case rel=>exact⟨k+1,by omega,by go_num,HIN.out⟩
    case measure=>simp[intOf];omega
  ·obtain rfl:k=s.size:=by omega
   have HN:=h_ (b8z fun j hj=>HI.out j hj hj)
   clear HI
   go_wp2_with fail
   go_ret
   exact⟨by rw[HN.out];rfl,Below.refl _ _⟩
theorem mkE(l:S):(ByteArray.mk l.toArray).toList.isEmpty=l.isEmpty:=by rw[Lib.toList_data]
theorem a5x(vk vi:Int)(vs:S)(w:World)(hs:vs.length<=140737488351232):Calls Tryz.prog 62 #[.agg #[.int .i64 vk,.int .i64 vi,.string ⟨vs.toArray⟩]] w (Ret w (.bool (G_ vk vi vs))):=by
 have hsz:=mkS vs
 have hem:=mkE vs
 have CP:=h_ fun w1=>b0t ⟨vs.toArray⟩ w1 (by rw[hsz];exact hs)
 rw[mkL] at CP
 go_enter Tryz.func62,Tryz.ntmps62
 go_upto_region 1 with(fail)
 refine nA fun w1 hB hw1 hz1=>?_
 obtain⟨p0,p1,p2⟩:=hB.c3
 have HW:=h_ hw1
 have HBk:=h_ hB
 clear hB hw1
 cases he:vs.isEmpty<;>rw[he] at hem<;>go_wp2_with fail
 all_goals(try(refine(CP.out w1).mono ?_;rintro e w2 ⟨rfl,hw2⟩;have HW2:=t_ HW hw2;clear hw2;go_wp2_with fail))
 all_goals(go_ret;first|(refine⟨congrArg (fun z=>Ending.returned (.bool z)) ?_,HW.out⟩;clear HBk p0 p1 p2;unfold G_;simp_all[okL,a4o]<;>first|omega|rfl|(intro h9;have:=of_decide_eq_true h9;omega)|(rw[Bool.eq_iff_iff];simp<;>omega))|(refine⟨congrArg (fun z=>Ending.returned (.bool z)) ?_,HW2.out⟩;clear HBk p0 p1 p2;unfold G_;simp_all[okL,a4o]<;>first|omega|rfl|(intro h9;have:=of_decide_eq_true h9;omega)|(rw[Bool.eq_iff_iff];simp<;>omega)))
theorem a7O(vk vi:Int)(vs:S)(w:World)(hs:vs.length<=140737488351232):Calls Tryz.prog 149 #[.agg #[.int .i64 vk,.int .i64 vi,.string ⟨vs.toArray⟩]] w (Ret w (.bool (G_ vk vi vs))):=by
 have hsz:=mkS vs
 have hem:=mkE vs
 have CP:=h_ fun w1=>a9n ⟨vs.toArray⟩ w1 (by rw[hsz];exact hs)
 rw[mkL] at CP
 go_enter Tryz.func149,Tryz.ntmps149
 go_upto_region 1 with(fail)
 refine nA fun w1 hB hw1 hz1=>?_
 obtain⟨p0,p1,p2⟩:=hB.c3
 have HW:=h_ hw1
 have HBk:=h_ hB
 clear hB hw1
 cases he:vs.isEmpty<;>rw[he] at hem<;>go_wp2_with fail
 all_goals(try(refine(CP.out w1).mono ?_;rintro e w2 ⟨rfl,hw2⟩;have HW2:=t_ HW hw2;clear hw2;go_wp2_with fail))
 all_goals(go_ret;first|(refine⟨congrArg (fun z=>Ending.returned (.bool z)) ?_,HW.out⟩;clear HBk p0 p1 p2;unfold G_;simp_all[okL,a4o]<;>first|omega|rfl|(intro h9;have:=of_decide_eq_true h9;omega)|(rw[Bool.eq_iff_iff];simp<;>omega))|(refine⟨congrArg (fun z=>Ending.returned (.bool z)) ?_,HW2.out⟩;clear HBk p0 p1 p2;unfold G_;simp_all[okL,a4o]<;>first|omega|rfl|(intro h9;have:=of_decide_eq_true h9;omega)|(rw[Bool.eq_iff_iff];simp<;>omega)))
theorem c0Z(n:Int)(w:World)(h0:-a4o<=n)(h1:n<=a4o)(h:Env w):Calls Tryz.prog 119 #[.int .i64 n] w (Ret w (.string ⟨(a6K n).toArray⟩)):=by
 unfold a4o at h0 h1
 exact(Tryz.strconv_Itoa n (by omega) (by omega) w h.pow).mono fun e w' ⟨h1,k,os,h2⟩=>⟨h1,by rw[h2];exact below_grow w k os⟩
theorem b5A(x:S)(w:World)(hx:x.length<=1000)(h:Env w):Calls Tryz.prog 144 #[.string ⟨x.toArray⟩,.string ⟨#[39]⟩,.string ⟨#[39,39]⟩] w (Ret w (.string ⟨(u_ x).toArray⟩)):=by
 obtain⟨m,hm⟩:=h.maxl
 have hc:Lib.countB ⟨x.toArray⟩ ⟨#[39]⟩<=100000:=by
  have:=Lib.count_le x [39]
  show Lib.count _ _<=_
  simp only
  omega
 have CR:=Tryz.strings_ReplaceAll ⟨x.toArray⟩ ⟨#[39]⟩ ⟨#[39,39]⟩ m w (by rw[mkS];omega) hm (by decide) (by
  rw[mkS]
  have e2:(ByteArray.mk #[39,39]).size=2:=rfl
  rw[e2]
  omega)
 rw[mkL] at CR
 have er:Lib.replaceAll x (ByteArray.mk #[39]).data.toList (ByteArray.mk #[39,39]).data.toList=u_ x:=b0d x
 rw[er] at CR
 exact CR
theorem b6H{vi:Int}{vs:S}(h:G_ 1 vi vs=true):a2k 1 vi vs=a6K vi /\ -a4o<=vi/\vi<=a4o:=by
 refine⟨by unfold a2k;rw[if_pos h];rfl,?_⟩
 have e:G_ 1 vi vs=(vs.isEmpty&&(decide (-a4o<=vi)&&decide (vi<=a4o))):=rfl
 rw[e] at h
 simp only[Bool.and_eq_true,decide_eq_true_eq] at h
 exact h.2
theorem b4k{vi:Int}{vs:S}(h:G_ 2 vi vs=true):a2k 2 vi vs=a7u vs/\vs.length<=200:=by
 refine⟨by unfold a2k;rw[if_pos h];rfl,?_⟩
 have e:G_ 2 vi vs=(decide (vi=0)&&(decide (vs.length<=200)&&vs.all (fun c=>!a7n c.toNat))):=rfl
 rw[e] at h
 simp only[Bool.and_eq_true,decide_eq_true_eq] at h
 exact h.2.1
theorem b4i{vi:Int}{vs:S}(h:G_ 3 vi vs=true):a2k 3 vi vs=(if vi=1 then[84,82,85,69] else[70,65,76,83,69])/\vs=[]/\(vi=0\/vi=1):=by
 refine⟨by unfold a2k;rw[if_pos h];rfl,?_⟩
 have e:G_ 3 vi vs=(vs.isEmpty&&(decide (vi=0) || decide (vi=1))):=rfl
 rw[e] at h
 simp only[Bool.and_eq_true,Bool.or_eq_true,decide_eq_true_eq,List.isEmpty_iff] at h
 exact h
theorem b3A{vk vi:Int}{vs:S}(h:G_ vk vi vs=true)(h1:vk ≠ 1)(h2:vk ≠ 2)(h3:vk ≠ 3):a2k vk vi vs=[78,85,76,76]/\vk=0/\vi=0/\vs=[]:=by
 have h0:vk=0:=by
  unfold G_ at h
  by_cases e:vk=0
  ·exact e
  ·rw[if_neg e,if_neg h1,if_neg h2,if_neg h3] at h
   cases h
 subst h0
 refine⟨by unfold a2k;rw[if_pos h];rfl,rfl,?_⟩
 have e:G_ 0 vi vs=(decide (vi=0)&&vs.isEmpty):=rfl
 rw[e] at h
 simp only[Bool.and_eq_true,decide_eq_true_eq,List.isEmpty_iff] at h
 exact h
theorem b2Y{vk vi:Int}{vs:S}(h:G_ vk vi vs=false):a2k vk vi vs=[]:=by unfold a2k;rw[h];rfl
theorem b2w(vk vi:Int)(vs:S)(w:World)(hs:vs.length<=140737488351232)(hE:Env w):Calls Tryz.prog 66 #[.agg #[.int .i64 vk,.int .i64 vi,.string ⟨vs.toArray⟩]] w (Ret w (.string ⟨(a2k vk vi vs).toArray⟩)):=by
 have HE:=h_ hE
 have HS:=h_ hs
 clear hE hs
 go_enter Tryz.func66,Tryz.ntmps66
 go_upto_region 1 with(fail)
 refine nA fun w1 hB hw1 hz1=>?_
 obtain⟨p0,p1,p2⟩:=hB.c3
 have HW:=h_ hw1
 have HBk:=h_ hB
 clear hB hw1
 go_wp2_with fail
 refine(a5x vk vi vs w1 HS.out).mono ?_
 rintro e w2 ⟨rfl,hw12⟩
 clear p0 p1 p2
 have hB2:=HBk.out.below hw12
 have hw2:=HW.out.trans (hw12.mono HW.out.size)
 have HE2:=h_ (HE.out.below hw2)
 clear hw12
 obtain⟨p0,p1,p2⟩:=hB2.c3
 have HW2:=h_ hw2
 clear hw2 hB2 HBk HW
 cases hv:G_ vk vi vs with
 |false=>
  have HL:=h_ (b2Y hv)
  clear hv
  go_wp2_with fail
  go_ret
  exact⟨by rw[HL.out];rfl,HW2.out⟩
 |true=>
  by_cases k1:vk=1
  ·subst k1
   obtain⟨l1,l2,l3⟩:=b6H hv
   have HL:=h_ l1
   have HI:=h_ (Ret.at_ (c0Z vi w2 l2 l3 HE2.out) HW2.out)
   clear hv l1 l2 l3
   go_wp2_with fail
   refine HI.out.mono ?_
   rintro e w3 ⟨rfl,hw3⟩
   go_wp2_with fail
   go_ret
   exact⟨by rw[HL.out];rfl,hw3⟩
  ·by_cases k2:vk=2
   ·subst k2
    obtain⟨l1,l2⟩:=b4k hv
    have hq:=b1f vs
    have HL:Hid (a2k 2 vi vs=39::(u_ vs++[39])):=h_ (l1.trans rfl)
    have HR:=h_ (Ret.at_ (b5A vs w2 (by omega) HE2.out) HW2.out)
    clear hv l1
    generalize u_ vs=y at HR hq HL
    go_wp2_with fail
    refine HR.out.mono ?_
    rintro e w3 ⟨rfl,hw3⟩
    have y2:¬maxLen<1+y.length:=by unfold maxLen;omega
    have y3:¬maxLen<1+y.length+1:=by unfold maxLen;omega
    go_wp2_with fail
    go_ret
    exact⟨congrArg (fun z=>Ending.returned (.string z)) (by rw[HL.out];exact c3c y),hw3⟩
   ·by_cases k3:vk=3
    ·subst k3
     obtain⟨l1,rfl,hvi⟩:=b4i hv
     rcases hvi with rfl|rfl
     all_goals
      have HL:=h_ l1
      clear hv l1
      go_wp2_with fail
      go_ret
      exact⟨by rw[HL.out];rfl,HW2.out⟩
    ·obtain⟨l1,rfl,rfl,rfl⟩:=b3A hv k1 k2 k3
     have HL:=h_ l1
     clear hv l1
     go_wp2_with fail
     go_ret
     exact⟨by rw[HL.out];rfl,HW2.out⟩
def c2e(N:Nat)(n s:Value):Prop:=∃(k:Nat) (t:S),n=.int .i64 (k:Int)/\s=.string ⟨t.toArray⟩/\Lib.decDigits N=Lib.decDigits k++t
theorem c0A:∀d:Nat,d<10->(ByteArray.mk #[48,49,50,51,52,53,54,55,56,57]).extract d (d+1)=⟨#[UInt8.ofNat (48+d)]⟩:=by decide +kernel
theorem b0L{k:Nat}(h:k<10):Lib.decDigits k=[UInt8.ofNat (48+k)]:=by rw[Lib.decDigits,dif_pos h]
theorem b6c{k:Nat}(h:¬k<10):Lib.decDigits k=Lib.decDigits (k / 10)++[UInt8.ofNat (48+k % 10)]:=by rw[Lib.decDigits,dif_neg h]
theorem b6B(d:Nat)(hd:d<10)(t:S):(ByteArray.mk #[48,49,50,51,52,53,54,55,56,57]).extract d (d+1)++ByteArray.mk t.toArray=⟨(UInt8.ofNat (48+d)::t).toArray⟩:=by
 rw[c0A d hd]
 apply a1W
 simp[ByteArray.data_append]
theorem a6w(N:Nat)(hN:N<=1125899906842624)(w:World):Calls Tryz.prog 243 #[.int .i64 (N:Int)] w (Ret w (.string ⟨(Lib.decDigits N).toArray⟩)):=by
 have hlen:∀(k:Nat) (t:S),Lib.decDigits N=Lib.decDigits k++t->t.length<=17:=fun k t e=>by
  have h1:=congrArg List.length e
  rw[List.length_append] at h1
  have:=a2A hN
  omega
 have HLN:=h_ hlen
 clear hlen
 go_enter Tryz.func243,Tryz.ntmps243
 go_wp2_with fail
 go_loop [0,3] (fun n s=>∃(k:Nat),k<=N/\n=.int .i64 (k:Int)/\c2e N n s) (fun n _=>(intOf n).toNat)
 case atStart=>exact⟨N,Nat.le_refl _,rfl,N,[],rfl,rfl,by simp⟩
 case round=>
  obtain⟨k,hk,rfl,k',t,hkk,rfl,he⟩:=hrel
  obtain rfl:k'=k:=by injection hkk with _ h;omega
  have ht:=HLN.out _ _ he
  have HEQ:=h_ he
  clear hkk he
  by_cases h9:k'<10
  ·have e9:¬(9:Int)<(k':Int):=by omega
   have e0:(0:Int)<=(k':Int):=by omega
   have e1:(k':Int)<=9:=by omega
   go_wp2_with fail
   go_ret
   exact⟨congrArg (fun z=>Ending.returned (.string z)) (by rw[b6B k' h9,HEQ.out,b0L h9];rfl),Below.refl _ _⟩
  ·have e9:(9:Int)<(k':Int):=by omega
   go_wp2_with fail
   refine⟨⟨k' / 10,by omega,congrArg (fun z=>Value.int .i64 z) (by omega),k' / 10,UInt8.ofNat (48+k' % 10)::t,congrArg (fun z=>Value.int .i64 z) (by omega),congrArg Value.string (b6B (k' % 10) (by omega) t),?_⟩,?_⟩
   ·rw[HEQ.out,b6c h9,List.append_assoc]
    rfl
   ·simp[intOf]
    omega
theorem a5n(x y:S):ByteArray.mk x.toArray++ByteArray.mk y.toArray=⟨(x++y).toArray⟩:=by
 apply a1W
 simp[ByteArray.data_append]
theorem c0J{s:ByteArray}{k:Nat}(h:k<s.size):s.extract k (k+1)=⟨[s[k]].toArray⟩:=by
 apply a1W
 rw[ByteArray.data_extract,Array.toList_extract]
 have h':k<s.data.toList.length:=by simpa using h
 simp only[List.extract_eq_take_drop]
 rw[show k+1 - k=1 by omega,List.drop_eq_getElem_cons h']
 rfl
theorem c2W(s:ByteArray)(k:Nat)(h:k<s.size):s.data.toList.take (k+1)=s.data.toList.take k++[s[k]]:=by
 rw[List.take_succ_eq_append_getElem (by simpa using h)];rfl
theorem b5O(m:Nat)(hm:m<=1125899906842624)(h0:1<=m)(w:World):Calls Tryz.prog 151 #[.int .i64 (-(m:Int))] w (Ret w (.string ⟨(45::Lib.decDigits m).toArray⟩)):=by
 by_cases h10:m<10
 ·have c1:-(m:Int)<0:=by omega
  have c2:(-10:Int) < -(m:Int):=by omega
  have hl:=a2A hm
  have HC:=h_ (a6w m hm w)
  generalize Lib.decDigits m=D at HC hl
  have y2:¬maxLen<1+D.length:=by unfold maxLen;omega
  go_enter Tryz.func151,Tryz.ntmps151
  go_wp2_with fail
  refine HC.out.mono ?_
  rintro e w1 ⟨rfl,hb⟩
  go_wp2_with fail
  go_ret
  exact⟨congrArg (fun z=>Ending.returned (.string z)) (a5n [45] D),hb⟩
 ·have c1:-(m:Int)<0:=by omega
  have c2:¬(-10:Int) < -(m:Int):=by omega
  have hc:=a6w (m / 10) (by omega) w
  rw[show((m / 10:Nat):Int)=(m:Int) / 10 by omega] at hc
  have hc2:=fun w'=>a6w (m % 10) (by omega) w'
  simp only[show((m % 10:Nat):Int)=(m:Int) % 10 by omega] at hc2
  have HD:Hid (Lib.decDigits m=Lib.decDigits (m / 10)++Lib.decDigits (m % 10)):=h_ (by rw[b6c h10,b0L (k:=m % 10) (by omega)])
  have hl:=a2A (n:=m / 10) (by omega)
  have hl2:=a2A (n:=m % 10) (by omega)
  have HC:=h_ hc
  have HC2:=h_ hc2
  clear hc hc2
  generalize Lib.decDigits (m / 10)=D at HC hl HD
  generalize Lib.decDigits (m % 10)=D2 at HC2 hl2 HD
  have y2:¬maxLen<1+D.length:=by unfold maxLen;omega
  have y3:¬maxLen<1+D.length+D2.length:=by unfold maxLen;omega
  go_enter Tryz.func151,Tryz.ntmps151
  go_wp2_with fail
  refine HC.out.mono ?_
  rintro e w1 ⟨rfl,hb⟩
  have HB:=h_ hb
  clear hb
  go_wp2_with fail
  refine(HC2.out w1).mono ?_
  rintro e w2 ⟨rfl,hb2⟩
  have HB2:=t_ HB hb2
  clear hb2
  go_wp2_with fail
  go_ret
  exact⟨congrArg (fun z=>Ending.returned (.string z)) (by rw[HD.out];exact(congrArg (· ++ _) (a5n [45] D)).trans (a5n (45::D) D2)),HB2.out⟩
theorem b7O(n:Int)(w:World)(h0:-a4o<=n)(h1:n<=a4o):Calls Tryz.prog 151 #[.int .i64 n] w (Ret w (.string ⟨(a6K n).toArray⟩)):=by
 unfold a4o at h0 h1
 by_cases hn:n<0
 ·obtain⟨m,hm⟩:∃m:Nat,n = -(m:Int):=⟨n.natAbs,by omega⟩
  subst hm
  have e:a6K (-(m:Int))=45::Lib.decDigits m:=by
   unfold a6K Lib.itoa
   rw[if_pos hn]
   simp
  rw[e]
  exact b5O m (by omega) (by omega) w
 ·obtain⟨m,rfl⟩:=Int.eq_ofNat_of_zero_le (by omega:0<=n)
  have e:a6K (m:Int)=Lib.decDigits m:=by
   unfold a6K Lib.itoa
   rw[if_neg hn]
   rfl
  have c1:¬(m:Int)<0:=hn
  have HC:=h_ (a6w m (by omega) w)
  rw[e]
  generalize Lib.decDigits m=D at HC
  go_enter Tryz.func151,Tryz.ntmps151
  go_wp2_with fail
  refine HC.out.mono ?_
  rintro e w1 ⟨rfl,hb⟩
  go_wp2_with fail
  go_ret
  exact⟨rfl,hb⟩
theorem b5L(l:S)(c:UInt8):u_ (l++[c])=u_ l++a1m c:=by simp[u_]
def c2u(s:ByteArray)(v i:Value):Prop:=∃k:Nat,k<=s.size/\i=.int .i64 k/\v=.string ⟨(39::u_ (s.data.toList.take k)).toArray⟩
theorem b5z(s:ByteArray)(w:World)(hs:s.size<=1000):Calls Tryz.prog 152 #[.string s] w (Ret w (.string ⟨(a7u s.data.toList).toArray⟩)):=by
 go_enter Tryz.func152,Tryz.ntmps152
 go_wp2_with fail
 go_loop [3,4] (fun v i=>c2u s v i) (fun _ i=>s.size - (intOf i).toNat)
 case atStart=>exact⟨0,Nat.zero_le _,rfl,rfl⟩
 case round=>
  obtain⟨k,hk,rfl,rfl⟩:=hrel
  have hql:=b1f (s.data.toList.take k)
  have hq2:(u_ (s.data.toList.take k)).length<=2000:=by
   have:(s.data.toList.take k).length<=s.size:=by rw[List.length_take,a1e];omega
   omega
  clear hql
  by_cases hlt:k<s.size
  ·have HS:=h_ (show u_ (s.data.toList.take (k+1))=u_ (s.data.toList.take k)++a1m s[k] by rw[c2W s k hlt,b5L])
   have HX:=h_ (c0J hlt)
   generalize u_ (s.data.toList.take k)=y at HS hq2
   by_cases hc:s[k]=39
   ·have hc2:(s[k].toNat:Int)=39:=by rw[hc];rfl
    have HC:=h_ hc
    clear hc
    go_wp2_with fail
    refine⟨⟨k+1,by omega,by go_num,congrArg Value.string ?_⟩,by simp[intOf];omega⟩
    rw[HS.out,HX.out,HC.out]
    exact(congrArg (· ++ _) (a5n (39::y) [39])).trans ((a5n _ [39]).trans (by simp[a1m]))
   ·have hc2:¬(s[k].toNat:Int)=39:=fun e=>hc (UInt8.toNat_inj.1 (by show s[k].toNat=39;omega))
    have HC:=h_ hc
    clear hc
    go_wp2_with fail
    refine⟨⟨k+1,by omega,by go_num,congrArg Value.string ?_⟩,by simp[intOf];omega⟩
    rw[HS.out,HX.out]
    refine(a5n (39::y) [s[k]]).trans ?_
    have e:a1m s[k]=[s[k]]:=by unfold a1m;rw[if_neg HC.out]
    rw[e]
    rfl
  ·obtain rfl:k=s.size:=by omega
   have HT:Hid (s.data.toList.take s.size=s.data.toList):=h_ (List.take_of_length_le (by simp))
   go_wp2_with fail
   go_ret
   exact⟨congrArg (fun z=>Ending.returned (.string z)) (by rw[HT.out];exact a5n (39::u_ s.data.toList) [39]),Below.refl _ _⟩
theorem b7X(x:S)(w:World)(hx:x.length<=1000):Calls Tryz.prog 152 #[.string ⟨x.toArray⟩] w (Ret w (.string ⟨(a7u x).toArray⟩)):=by
 have:=b5z ⟨x.toArray⟩ w (by rw[mkS];exact hx)
 rwa [mkL] at this
theorem b0h(vk vi:Int)(vs:S)(w:World)(hs:vs.length<=140737488351232):Calls Tryz.prog 74 #[.agg #[.int .i64 vk,.int .i64 vi,.string ⟨vs.toArray⟩]] w (Ret w (.string ⟨(a2k vk vi vs).toArray⟩)):=by
 have HS:=h_ hs
 have hem0:(ByteArray.mk ([]:S).toArray).toList.isEmpty=true:=mkE []
 clear hs
 go_enter Tryz.func74,Tryz.ntmps74
 go_upto_region 1 with(fail)
 refine nA fun w1 hB hw1 hz1=>?_
 obtain⟨p0,p1,p2⟩:=hB.c3
 have HW:=h_ hw1
 have HBk:=h_ hB
 clear hB hw1
 go_wp2_with fail
 refine(a7O vk vi vs w1 HS.out).mono ?_
 rintro e w2 ⟨rfl,hw12⟩
 clear p0 p1 p2
 have hB2:=HBk.out.below hw12
 have hw2:=HW.out.trans (hw12.mono HW.out.size)
 clear hw12
 obtain⟨p0,p1,p2⟩:=hB2.c3
 have HW2:=h_ hw2
 have HB2:=h_ hB2
 clear hw2 hB2 HBk HW
 cases hv:G_ vk vi vs with
 |false=>
  have HL:=h_ (b2Y hv)
  clear hv
  go_wp2_with fail
  go_ret
  exact⟨by rw[HL.out];rfl,HW2.out⟩
 |true=>
  by_cases k1:vk=1
  ·subst k1
   obtain⟨l1,l2,l3⟩:=b6H hv
   have HL:=h_ l1
   have HM:=h_ (And.intro l2 l3)
   clear hv l1 l2 l3
   go_wp2_with fail
   refine(a0x w2).mono ?_
   rintro e w3 ⟨rfl,hw3⟩
   have HW3:=t_ HW2 hw3
   have HB3:=h_ (HB2.out.below hw3)
   clear hw3 p0 p1 p2
   go_wp2_with fail
   refine(a4R w3).mono ?_
   rintro e w4 ⟨rfl,hw4⟩
   have HW4:=t_ HW3 hw4
   have HB4:=h_ (HB3.out.below hw4)
   clear hw4
   go_wp2_with fail
   refine(a5D w4).mono ?_
   rintro e w5 ⟨rfl,hw5⟩
   have HW5:=t_ HW4 hw5
   have HB5:=HB4.out.below hw5
   clear hw5
   have p0:=HB5.cell 0 rfl
   have p1:=HB5.cell 1 rfl
   clear HB5
   go_wp2_with fail
   refine(Ret.at_ (b7O vi w5 HM.out.1 HM.out.2) HW5.out).mono ?_
   rintro e w6 ⟨rfl,hw6⟩
   go_wp2_with fail
   go_ret
   exact⟨by rw[HL.out];rfl,hw6⟩
  ·by_cases k2:vk=2
   ·subst k2
    obtain⟨l1,l2⟩:=b4k hv
    have HL:=h_ l1
    have HR:=h_ fun w=>b7X vs w (by omega)
    clear hv l1
    go_wp2_with fail
    refine(a0x w2).mono ?_
    rintro e w3 ⟨rfl,hw3⟩
    have HW3:=t_ HW2 hw3
    have HB3:=h_ (HB2.out.below hw3)
    clear hw3 p0 p1 p2
    go_wp2_with fail
    refine(a4R w3).mono ?_
    rintro e w4 ⟨rfl,hw4⟩
    have HW4:=t_ HW3 hw4
    have HB4:=h_ (HB3.out.below hw4)
    clear hw4
    go_wp2_with fail
    refine(a5D w4).mono ?_
    rintro e w5 ⟨rfl,hw5⟩
    have HW5:=t_ HW4 hw5
    have HB5:=HB4.out.below hw5
    clear hw5
    have p0:=HB5.cell 0 rfl
    have p2:=HB5.cell 2 rfl
    clear HB5
    go_wp2_with fail
    refine(Ret.at_ (HR.out w5) HW5.out).mono ?_
    rintro e w6 ⟨rfl,hw6⟩
    go_wp2_with fail
    go_ret
    exact⟨by rw[HL.out];rfl,hw6⟩
   ·by_cases k3:vk=3
    ·subst k3
     obtain⟨l1,rfl,hvi⟩:=b4i hv
     rcases hvi with rfl|rfl
     ·have HL:=h_ l1
      clear hv l1
      go_wp2_with fail
      refine(a0x w2).mono ?_
      rintro e w3 ⟨rfl,hw3⟩
      have HW3:=t_ HW2 hw3
      clear hw3 p0 p1 p2
      go_wp2_with fail
      refine(a4R w3).mono ?_
      rintro e w4 ⟨rfl,hw4⟩
      have HW4:=t_ HW3 hw4
      clear hw4
      go_wp2_with fail
      refine(a5D w4).mono ?_
      rintro e w5 ⟨rfl,hw5⟩
      have HW5:=t_ HW4 hw5
      clear hw5
      go_wp2_with fail
      go_ret
      exact⟨by rw[HL.out];rfl,HW5.out⟩
     ·have HL:=h_ l1
      clear hv l1
      go_wp2_with fail
      refine(a0x w2).mono ?_
      rintro e w3 ⟨rfl,hw3⟩
      have HW3:=t_ HW2 hw3
      clear hw3 p0 p1 p2
      go_wp2_with fail
      refine(a4R w3).mono ?_
      rintro e w4 ⟨rfl,hw4⟩
      have HW4:=t_ HW3 hw4
      clear hw4
      go_wp2_with fail
      go_ret
      exact⟨by rw[HL.out];rfl,HW4.out⟩
    ·obtain⟨l1,rfl,rfl,rfl⟩:=b3A hv k1 k2 k3
     have HL:=h_ l1
     clear hv l1
     go_wp2_with fail
     refine(a0x w2).mono ?_
     rintro e w3 ⟨rfl,hw3⟩
     have HW3:=t_ HW2 hw3
     clear hw3 p0 p1 p2
     go_wp2_with fail
     go_ret
     exact⟨by rw[HL.out];rfl,HW3.out⟩
def SV(w:World)(L:List S)(a:Option Addr):Prop:=∀(j:Nat) (s:S),L[j]? = some s -> ∃b o,a=some ⟨b,o,none⟩/\b<w.heap.size/\w.cell? ⟨b,o+j,none⟩=some (S_ s)
theorem SV.at_{w:World}{L:List S}{a:Option Addr}(h:SV w L a){k:Nat}(hk:k<L.length):∃b o,a=some ⟨b,o,none⟩/\b<w.heap.size/\w.cell? ⟨b,o+k,none⟩=some (S_ L[k]):=h k _ (List.getElem?_eq_getElem hk)
theorem SV.below{w w':World}{L:List S}{a:Option Addr}(h:SV w L a)(hb:Below w.heap.size w w'):SV w' L a:=fun j s hs=>by
 obtain⟨b,o,e,hl,hc⟩:=h j s hs
 exact⟨b,o,e,Nat.lt_of_lt_of_le hl hb.size,(hb.cell hl).trans hc⟩
def jl(L:List S):List S:=L.filter fun s=>!s.isEmpty
theorem a9K{L:List S}(h:∀s∈L,s ≠ []):jl L=L:=by
 unfold jl
 refine List.filter_eq_self.2 fun s hs=>?_
 have:=h s hs
 cases s with
 |nil=>exact absurd rfl this
 |cons a s=>rfl
theorem c1g{L:List S}{k:Nat}(h:k<L.length):jl (L.take (k+1))=jl (L.take k)++(if L[k].isEmpty then[] else[L[k]]):=by
 unfold jl
 rw[List.take_succ_eq_append_getElem h,List.filter_append]
 cases he:L[k].isEmpty<;>simp[List.filter_cons,he]
theorem b8N(L:List S):(jl L).length<=L.length:=List.length_filter_le _ _
def a0z(B:Nat)(v:Value)(M:List S)(w:World):Prop:=w.ownsRow B 9 1 v M.length (M.map S_)
theorem a0z.nil(B:Nat)(w:World):a0z B (.slice none 0 0) [] w:=World.ownsRow_nil _ _ _ _
theorem a0z.snoc{B:Nat}{v:Value}{M:List S}{s:S}{w:World}(h:w.ownsRow B 9 1 v (M.length+1) (M.map S_++[.string ⟨s.toArray⟩])):a0z B v (M++[s]) w:=by
 unfold a0z
 rw[List.length_append,List.map_append]
 exact h
theorem a0z.below{B:Nat}{v:Value}{M:List S}{w w':World}(h:a0z B v M w)(hb:Below w.heap.size w w'):a0z B v M w':=a0r h hb
theorem a0z.form{B:Nat}{v:Value}{M:List S}{w:World}(h:a0z B v M w):∃a c,v=.slice a M.length c/\SV w M a:=by
 unfold a0z at h
 by_cases h0:M.length=0
 ·obtain⟨A',n',c',rfl⟩:=a4K h
  obtain rfl:=a8j h
  exact⟨A',c',rfl,fun j s hs=>by rw[List.eq_nil_of_length_eq_zero h0] at hs;cases hs⟩
 ·obtain⟨g,cap,rfl,hg1,hg2⟩:=h.form (by omega)
  refine⟨_,cap,rfl,fun j s hs=>⟨g,0,rfl,hg2,?_⟩⟩
  have e1:(⟨g,0,none⟩:Addr).add j=⟨g,0+j,none⟩:=by unfold Addr.add;split<;>simp_all
  rw[<-e1]
  refine h.cells (g:=g) rfl j _ ?_
  rw[List.getElem?_map,hs]
  rfl
theorem a3R{M:List S}(sep:S){a:Option Addr}{c:Nat}{w:World}(h:SV w M a)(hc:M.length<=c)(hn:M.length<=1099511627776)(hl:(Lib.join M sep).length<=1099511627776):Calls Tryz.prog 108 #[.slice a M.length c,.string ⟨sep.toArray⟩] w (Ret w (.string ⟨(Lib.join M sep).toArray⟩)):=by
 have e0:(M.map fun s=>(⟨s.toArray⟩:ByteArray)).map (·.data.toList)=M:=by rw[List.map_map];simp[Function.comp_def]
 have e2:(ByteArray.mk sep.toArray).data.toList=sep:=mkL sep
 by_cases h0:M.length=0
 ·obtain rfl:M=[]:=List.eq_nil_of_length_eq_zero h0
  refine(Tryz.strings_Join_none a c ⟨sep.toArray⟩ w).mono ?_
  rintro e w' ⟨rfl,rfl⟩
  exact⟨rfl,Below.refl _ _⟩
 ·obtain⟨g,o,rfl,hg,_⟩:=h.at_ (k:=0) (by omega)
  have hj:=Tryz.strings_Join g o c (M.map fun t=>⟨t.toArray⟩) ⟨sep.toArray⟩ w (fun j x hx=>by
   rw[List.getElem?_map] at hx
   rcases hx2:M[j]? with _|u
   ·rw[hx2] at hx;cases hx
   ·rw[hx2] at hx
    simp only[Option.map_some,Option.some.injEq] at hx
    obtain⟨b,o',e,_,hcell⟩:=h j u hx2
    injection e with e
    injection e with e3 e4
    subst e3 e4
    rw[hcell,<-hx]
    rfl) hg (by rw[List.length_map];omega) (by rw[List.length_map];exact hc) (by rw[e0,e2];omega)
  rw[e0,e2,List.length_map] at hj
  exact hj
theorem a0z.cap{B:Nat}{M:List S}{w:World}{a:Option Addr}{n c:Nat}(h:a0z B (.slice a n c) M w):M.length<=c:=b6R h
def c2T(w:World)(L:List S)(v i:Value)(wr:World):Prop:=
 ∃k:Nat,k<=L.length/\i=.int .i64 k/\a0z w.heap.size v (jl (L.take k)) wr/\Below w.heap.size w wr
theorem a3B(L:List S)(a:Option Addr)(c:Nat)(w:World)(hn:L.length<=1099511627776)(hv:SV w L a)(hl:(Lib.join (jl L) [32]).length<=1099511627776):Calls Tryz.prog 48 #[.slice a L.length c] w (Ret w (.string ⟨(Lib.join (jl L) [32]).toArray⟩)):=by
 obtain⟨i0,hi0,hz0,hz1,hz2⟩:=info_parts a4n
 have HV:=h_ hv
 have HLN:=h_ hl
 clear hv hl
 go_enter Tryz.func48,Tryz.ntmps48
 go_wp2_with fail
 go_loopw [3,5,8] (fun v _ i wr=>c2T w L v i wr) (fun _ _ i _=>L.length - (intOf i).toNat)
 case atStart=>exact⟨0,Nat.zero_le _,rfl,a0z.nil _ _,Below.refl _ _⟩
 case round=>
  obtain⟨k,hk,rfl,ho,hb⟩:=hrel
  have HO:=h_ ho
  have HB:=h_ hb
  by_cases hlt:k<L.length
  ·obtain⟨g,o,rfl,hg,hc0⟩:=HV.out.at_ hlt
   have hc1:wr.cell? ⟨g,o+k,none⟩=some (.string ⟨(L[k]).toArray⟩):=(hb.cell hg).trans hc0
   have k0:(0:Int)<=(k:Int):=by omega
   have k1:(k:Int)<(L.length:Int):=by omega
   have hem:=mkE L[k]
   have HK:=h_ (c1g hlt)
   have hlt2:∀g,u3.ownBlock=some g->w.heap.size<=g:=fun g e=>(ho.lt g e).1
   have hkl:(jl (L.take k)).length<=k:=Nat.le_trans (b8N _) (by rw[List.length_take];omega)
   clear ho hb hc0 hg
   generalize L[k]=s at hc1 hem HK
   cases he:s.isEmpty<;>rw[he] at hem
   ·go_wp2_with (at_builtin;refine wpList_append_own_at _ rfl (.tmp 14) (.tmp 16) 111 rfl w.heap.size 9 i0 _ 1 16 Tryz.underlying111 hi0 hz0 hz1 hz2 rfl (by omega) u3 (jl (L.take k)).length _ rfl (World.ownsRow.alloc HO.out _) ⟨wr.heap.size,0,none⟩ 1 1 [.string ⟨s.toArray⟩] rfl rfl (a1d _ _ _) (fun u hu=>by obtain rfl:=List.mem_singleton.1 hu;rfl) (by unfold maxLen;omega) (by omega) (Nat.le_trans HB.out.size (by simp)) ?_)
    intro v3 w3 hown3 hg3 _ hat3
    have hb3:Below w.heap.size w w3:=(HB.out.alloc HB.out.size _).grown hg3 (Nat.le_trans HB.out.size (by simp)) hlt2
    have HO3:Hid (a0z w.heap.size v3 (jl (L.take (k+1))) w3):=h_ (by rw[HK.out,he];exact a0z.snoc hown3)
    clear hown3 hg3 hat3
    go_wp2_with fail
    go_roundw
    case rel=>exact⟨k+1,by omega,by go_num,HO3.out,hb3⟩
    case measure=>simp[intOf];omega
   ·have HO3:Hid (a0z w.heap.size u3 (jl (L.take (k+1))) wr):=h_ (by rw[HK.out,he];simpa using HO.out)
    go_wp2_with fail
    go_roundw
    case rel=>exact⟨k+1,by omega,by go_num,HO3.out,HB.out⟩
    case measure=>simp[intOf];omega
  ·obtain rfl:k=L.length:=by omega
   rw[List.take_length] at ho
   obtain⟨a2,c2,rfl,hs⟩:=ho.form
   have HJ:=h_ (Ret.at_ (a3R [32] hs ho.cap (Nat.le_trans (b8N L) hn) HLN.out) HB.out)
   have d1:decide ((L.length:Int)<(L.length:Int))=false:=decide_eq_false (by omega)
   clear ho hb hs HO
   go_wp2_with fail
   refine HJ.out.mono ?_
   rintro e w' ⟨rfl,hb2⟩
   go_wp2_with fail
   go_ret
   exact⟨rfl,hb2⟩
theorem b6C(l:List X):P_ 0 l=l.map txt:=by rw[a4l];exact List.map_congr_left fun x _=>a1M x
theorem b1p{l:List X}{k:Nat}(h:k<l.length):(l.take (k+1)).map txt=(l.take k).map txt++[txt l[k]]:=by
 rw[List.take_succ_eq_append_getElem h,List.map_append]
 rfl
def c2F(w:World)(l:List X)(v i:Value)(wr:World):Prop:=
 ∃k:Nat,k<=l.length/\i=.int .i64 k/\a0z w.heap.size v ((l.take k).map txt) wr/\Below w.heap.size w wr
theorem a5r(l:List X)(a:Option Addr)(c:Nat)(w:World)(hn:l.length<=1099511627776)(hv:XL w l (.slice a l.length c))(hlen:(Lib.join (l.map txt) [44,32]).length<=1099511627776)(HI:∀x∈l,∀(cs:List Value) (w':World),Below w.heap.size w w'->XR w' x cs->Calls Tryz.prog 27 #[.agg cs.toArray] w' (Ret w' (.string ⟨(txt x).toArray⟩))) :
  Calls Tryz.prog 70 #[.slice a l.length c,.func (.func 27) #[] #[]] w (Ret w (.string ⟨(Lib.join (l.map txt) [44,32]).toArray⟩)):=by
 obtain⟨i0,hi0,hz0,hz1,hz2⟩:=info_parts a4n
 have HL:=h_ hv
 have HLN:=h_ hlen
 have HI:=h_ HI
 clear hv hlen
 go_enter Tryz.func70,Tryz.ntmps70
 go_wp2_with fail
 go_loopw [5,10] (fun v i wr=>c2F w l v i wr) (fun _ i _=>l.length - (intOf i).toNat)
 case atStart=>exact⟨0,Nat.zero_le _,rfl,a0z.nil _ _,Below.refl _ _⟩
 case round=>
  obtain⟨k,hk,rfl,ho,hb⟩:=hrel
  have HO:=h_ ho
  have HB:=h_ hb
  by_cases hlt:k<l.length
  ·obtain⟨g,o,us,eq,hgl,hcell,hkx,hrx⟩:=HL.out.at_ hlt
   subst eq
   have HX:=h_ hrx
   have hmem:=List.getElem_mem (l:=l) hlt
   obtain⟨eop,eint,evk,evi,evs,enm,el,ee⟩:∃eop eint evk evi evs enm el,l[k]=X.mk eop eint evk evi evs enm el:=by
    cases l[k]
    exact⟨_,_,_,_,_,_,_,rfl⟩
   rw[ee] at hrx
   obtain⟨ea,em,rfl,_⟩:=hrx.lits
   have rr:∀j (u:Value),([.int .i64 eop,.int .i64 eint,.int .i64 evk,.int .i64 evi,.string ⟨evs.toArray⟩,.string ⟨enm.toArray⟩,.slice ea el.length em]:List Value)[j]? = some u->wr.cell? ⟨g,o+k*7+j,none⟩=some u:=fun j u hu=>(hb.cell (by exact hgl)).trans (hcell j u hu)
   have r0:=rr 0 _ rfl
   have r1:=rr 1 _ rfl
   have r2:=rr 2 _ rfl
   have r3:=rr 3 _ rfl
   have r4:=rr 4 _ rfl
   have r5:=rr 5 _ rfl
   have r6:=rr 6 _ rfl
   simp only[Nat.add_zero] at r0
   have c2:(k:Int)<(l.length:Int):=by omega
   have c3:(0:Int)<=(k:Int):=by omega
   have d1:decide ((k:Int)<(l.length:Int))=true:=decide_eq_true c2
   have gl:g<wr.heap.size:=by have:=hb.size;omega
   have HK:=h_ (b1p hlt)
   have hlt2:∀g,u5.ownBlock=some g->w.heap.size<=g:=fun g e=>(ho.lt g e).1
   have hkl:((l.take k).map txt).length<=k:=by rw[List.length_map,List.length_take];omega
   clear rr hcell hrx ee ho hb
   generalize(l.take k).map txt=M at HO HK hkl
   go_wp2_with fail
   refine(HI.out l[k] hmem _ _ (HB.out.trans ((d_ wr _).mono HB.out.size)) (HX.out.kept (HB.out.trans ((d_ wr _).mono HB.out.size)) (Nat.le_refl _))).mono ?_
   rintro e' w4 ⟨rfl,hw4⟩
   have HB4:=h_ ((HB.out.trans ((d_ wr _).mono HB.out.size)).trans (hw4.mono (by have:=HB.out.size;simp;omega)))
   have HO4:=h_ (a0z.below (a0z.below HO.out (d_ wr _)) hw4)
   clear hw4 HO HB r0 r1 r2 r3 r4 r5 r6
   go_wp2_with (at_builtin;refine wpList_append_own_at _ rfl (.tmp 14) (.tmp 18) 111 rfl w.heap.size 9 i0 _ 1 16 Tryz.underlying111 hi0 hz0 hz1 hz2 rfl (by omega) u5 M.length _ rfl (World.ownsRow.alloc HO4.out _) ⟨w4.heap.size,0,none⟩ 1 1 [.string ⟨(txt l[k]).toArray⟩] rfl rfl (a1d _ _ _) (fun u hu=>by obtain rfl:=List.mem_singleton.1 hu;rfl) (by unfold maxLen;omega) (by omega) (Nat.le_trans HB4.out.size (by simp)) ?_)
   intro v3 w3 hown3 hg3 _ hat3
   have hb3:Below w.heap.size w w3:=(HB4.out.alloc HB4.out.size _).grown hg3 (Nat.le_trans HB4.out.size (by simp)) hlt2
   have HO3:Hid (a0z w.heap.size v3 ((l.take (k+1)).map txt) w3):=h_ (by rw[HK.out];exact a0z.snoc hown3)
   clear hown3 hg3 hat3
   go_wp2_with fail
   go_roundw
   case rel=>exact⟨k+1,by omega,by go_num,HO3.out,hb3⟩
   case measure=>simp[intOf];omega
  ·obtain rfl:k=l.length:=by omega
   rw[List.take_length] at ho
   have hML:(l.map txt).length=l.length:=List.length_map _
   clear HO
   generalize hMe:l.map txt=M at ho HLN hML
   have HMe:=h_ hMe
   clear hMe
   obtain⟨a2,c2,rfl,hs⟩:=ho.form
   have HJ:=h_ (Ret.at_ (a3R [44,32] hs ho.cap (by rw[hML];exact hn) HLN.out) HB.out)
   clear hML
   have d1:decide ((l.length:Int)<(l.length:Int))=false:=decide_eq_false (by omega)
   clear ho hb hs
   go_wp2_with fail
   refine HJ.out.mono ?_
   rintro e w' ⟨rfl,hb2⟩
   go_wp2_with fail
   go_ret
   exact⟨by rw[HMe.out];rfl,hb2⟩
end Go.Proofs.YtlimlmjljjmcpaaGreatDoor.Px
