/-
  The law PrinterTables, second form: any definition whose checks have at most 2000 nodes is written as defined. Condition: what the call reads holds together at most 1048576 values and letters; the listed variables' data (tied card).
-/
import Derived.Test.YtlimlmjljjmcpaaGreatDoorRows
import Derived.Test.YtlimlmjljjmcpaaGreatDoorCards
import Derived.Test.YtlimlmjljjmcpaaGreatDoorTie
import Derived.Test.YtlimlmjljjmcpaaGreatDoorTsLaw
import Derived.Test.YtlimlmjljjmcpaaGreatDoorBkBulk
import Derived.Test.YtlimlmjljjmcpaaGreatDoorTbmE
import Derived.ProofKit
import Derived.OpenShut
import Derived.LaidMore
import Derived.Lay
import Derived.SevenTiedAt
import Derived.Stop.Joined
import Derived.Stop.LaidErr
import Derived.ChangeOld
import Derived.Below
import Derived.ShapedOpen
import Derived.Lib.LaidTab
import Derived.Lib.ItoaNum
import Derived.Shelf.Vars
import Derived.Deep.DeepHandedRow
set_option maxRecDepth 100000
namespace Go.Proofs.YtlimlmjljjmcpaaGreatDoor.printerTables
open Go.ChangeShapes Go.WideShapes Go.ChangeAt Go.RowKit
set_option linter.unusedVariables false
theorem own:ownKnob Tryz.prog.godebug=none:=by kernel_rfl
theorem laidOut:laidOutB Tryz.prog=true:=by kernel_rfl
theorem c2a:(Rows.laid_strings_asciiSpace:DataW Unit)=Lib.tabData .u8 Lib.asciiSpaceTab:=by kernel_rfl
theorem c1S:(Rows.laid_internal_strconv_uint64pow10:DataW Unit)=Lib.tabData .u64 Lib.pow10Tab:=by kernel_rfl
theorem gMax:Tryz.prog.globalNamed "internal/bytealg.MaxLen" = some 0:=by kernel_rfl
theorem c0O{W:World}(h:laidMetH Tryz.prog Rows.printerTablesUptoRow.laid W)(hsh:W.ShapedOpen Tryz.prog):Ax.a0O W/\Env W:=by
 rw[MakeChecks.laidMetH_plain _ _ _ (by kernel_rfl)] at h
 have h2:=h.tail.tail.tail.tail.tail
 have h3:=h.tail.tail
 rw[c2a] at h2
 rw[c1S] at h3
 refine⟨Ax.c0H (Lib.tabIs_of_head Ax.nSp (by kernel_rfl) Tryz.underlying298 Tryz.underlying5 (by kernel_rfl) (by kernel_rfl) h2)
  (Lib.tabIs_of_head Ax.c1T (by kernel_rfl) Tryz.underlying289 Tryz.underlying268 (by kernel_rfl) (by kernel_rfl) h3),?_⟩
 exact⟨Lib.tabIs_of_head Ax.nSp (by kernel_rfl) Tryz.underlying298 Tryz.underlying5 (by kernel_rfl) (by kernel_rfl) h2,
  Lib.tabIs_of_head c1N (by kernel_rfl) Tryz.underlying289 Tryz.underlying268 (by kernel_rfl) (by kernel_rfl) h3,
  cell_of_shapedOpen_int (P:=Tryz.prog) (g:=0) (t:=3) (zero:=#[.int .i64 0]) hsh (of_decide_eq_true (by kernel_rfl)) (by kernel_rfl) rfl (by kernel_rfl) (by kernel_rfl) Tryz.underlying3⟩
def b6I:List TypeId:=[53,26,23,3,9,4,24,49,55,50,51,122]
theorem b0b:Ps.b8s Tryz.prog b6I=true:=by kernel_rfl
theorem a5s{H:Type}{enc:TypeId × Value->H}{C:Checked}{os:Os}{f:FuncId}{fn:Func}{s:OpenSpec}{conds:List PathCond}{apart:Bool}{laid:List (String × DataW Unit)}(modest:Bool)(w0:World)(args:Array Value)(hos:w0.os=os)(hsh:(w0.forCall (fun _ _=>0) ⟨#[],args,[]⟩).Shaped C.prog)(hok:Input.okWideB C.prog (w0.forCall (fun _ _=>0) ⟨#[],args,[]⟩) f ⟨#[],args,[]⟩=true)(hrow:s.preRow enc C.prog fn conds apart laid (w0.forCall (fun _ _=>0) ⟨#[],args,[]⟩).memory args) :
  ∃(w:World) (tape:Tape) (i:Input),w.os=os/\(w.forCall tape i).Shaped C.prog/\i.vars=[]/\Input.okWide C.prog (w.forCall tape i) .any w.heap.size f i /\
   s.preRow enc C.prog fn conds apart laid (w.forCall tape i).memory i.args/\({modest:=modest}:Assume).holds C.prog (lone (Frame.enter C.prog f i.args .normal) [] (w.forCall tape i)):=
 ⟨w0,fun _ _=>0,⟨#[],args,[]⟩,hos,hsh,(Input.okWide_of_okWideB (base:=0) hok).1,(Input.okWide_of_okWideB hok).2,hrow,by
  simp only[Assume.holds]
  exact⟨by simp,by simp,fun _=>Modest.zero,by simp,by simp⟩⟩
theorem reads(os:Os){H:Type}(enc:TypeId × Value->H):∃places,DataW.whole enc Tryz.prog ((World.laidAll Tryz.prog os Rows.printerTablesUptoRow.laid).forCall (fun _ _=>0) ⟨#[],#[.agg #[.string ⟨#[]⟩,.slice none 0 0,.slice none 0 0,.slice none 0 0,.slice none 0 0]],[]⟩).memory Tryz.f7.params.toList Rows.printerTablesSpec.vars false #[(.agg #[.string ⟨#[]⟩,.slice none 0 0,.slice none 0 0,.slice none 0 0,.slice none 0 0]:Value)].toList 8=some ([.agg [.lit (.string []),.nil,.nil,.nil,.nil]],[],places):=
 ⟨[],by kernel_rfl⟩
theorem lifted(os:Os)(started:os.Started)(H:Type)(enc:TypeId × Value->H)(F:Stop.Interp) :
  ReturnsInHanded {} Tryz.checked os 7 .any ((Rows.OpenSpec.upto Rows.printerTablesSpec).preRow enc Tryz.prog Tryz.f7 Rows.printerTablesUptoRow.domain false Rows.printerTablesUptoRow.laid) (((Rows.OpenSpec.upto Rows.printerTablesSpec).at F).post enc Tryz.prog Tryz.f7 false true false false):=by
 obtain⟨places,hx⟩:=reads os enc
 refine returnsInHanded_of_row (C:=Tryz.checked) (s:=Rows.OpenSpec.upto Rows.printerTablesSpec) own started (by kernel_rfl) Tryz.func7
  (a5s (enc:=enc) (C:=Tryz.checked) false (World.laidAll Tryz.prog os Rows.printerTablesUptoRow.laid) #[.agg #[.string ⟨#[]⟩,.slice none 0 0,.slice none 0 0,.slice none 0 0,.slice none 0 0]] (World.laidAll_os _ _ _)
   (World.shaped_of_ZipB (by kernel_rfl) (by kernel_rfl)) (by kernel_rfl)
   (OpenSpec.preRow_of_cond 8 hx (by kernel_rfl) (fun k hk=>by cases hk;kernel_rfl) (by kernel_rfl) (by rw[MakeChecks.laidMetH_plain _ _ _ (by kernel_rfl)];exact laidMet_laidAll _ (by kernel_rfl) (by kernel_rfl)))) ?_
 intro W base args ds gs before hval0 hW hcnd hcond hsz0 hL hsh _
 have hval:∀(j:Nat) t v,Tryz.f7.params[j]? = some t->args[j]? = some v->Value.okWide Tryz.prog W .any base t v:=hval0
 have hW':=hW
 obtain⟨p,q,hA0,hV,rfl,hfz,hnd⟩:=hW
 have hA:DataW.TrodAll enc Tryz.prog W 0 (fun _=>true) true Tryz.f7.params.toList args.toList ds p:=hA0
 rw[Tryz.params7] at hA hval
 obtain⟨v0,vs0,d0,ds0,p0,q0,hargs,rfl,rfl,h0,r0⟩:=trodAll_cons hA
 obtain⟨rfl,rfl,rfl⟩:=trodAll_nil r0
 obtain rfl:args=#[v0]:=by cases args;simp_all
 obtain⟨rfl,rfl⟩:=trodVars_none hV
 have k0:=h0
 have lt0:∀x∈p0,x.block<W.heap.size:=by obtain⟨m,hm⟩:=k0;exact DataW.trod_lt m _ _ _ hm
 obtain⟨ts,rfl,hts0⟩:=okWide_struct Tryz.underlying53 (hval 0 53 v0 rfl rfl)
 have hsz0_:∀x∈DataW.weights Tryz.prog 53 d0,x<=reachBytes:=fun x hx=>by
  have hs:=List.all_eq_true.1 hsz0 x (by
   rw[Tryz.params7]
   simp only[DataW.weightsEach,List.cons_append]
   exact List.mem_append_left _ hx)
  simpa using hs
 have hbulk:Rows.uptoBulk d0<=1048576:=by
  have hb:=of_decide_eq_true (hcond _ rfl)
  simp only[List.append_nil,Rows.uptoBulkAll] at hb
  omega
 obtain⟨c0,hread0,hfit0⟩:∃c,Ps.Rp Tryz.prog W 53 ts.toList c/\Ps.Fits c d0:=by
  obtain⟨m,hm⟩:=h0
  exact Ps.a5t b0b m _ _ (d0,p0) (by simp[b6I]) hm hsz0_
 obtain⟨t,rfl⟩:=Px.c2Y hread0
 obtain⟨tn,L,K,Fs,Cs⟩:=t
 have hbt:=Bk.b9o hfit0 hbulk
 have hts:=c0O hL hsh
 clear hA0 hval0
 obtain⟨a,m,a2,m2,a3,m3,a4,m4,hx,_,h1,h2,h3,h4⟩:=Px.TR.lits (t:=⟨tn,L,K,Fs,Cs⟩) hread0
 obtain rfl:ts=#[.string ⟨tn.toArray⟩,.slice a L.length m,.slice a2 K.length m2,.slice a3 Fs.length m3,.slice a4 Cs.length m4]:=by rw[<-Array.toArray_toList (xs:=ts),hx]
 refine(Px.b3K L K Fs Cs tn a a2 a3 a4 m m2 m3 m4 W hts.2 hts.1 hbt.1 hbt.2.1 hbt.2.2.1 hbt.2.2.2.1 hbt.2.2.2.2.1 hbt.2.2.2.2.2 h1 h2 h3 h4).mono fun e W' ⟨he,bel⟩=>?_
 subst he
 exact⟨_,rfl,_,_,_,[],_,[],hW',trodAll_mk1 (shut_bool Tryz.underlying4 _),(trodAll_cons_mk (Below.trod laidOut (by kernel_rfl) (of_decide_eq_true (by kernel_rfl)) k0 bel lt0) trodAll_mk0),rfl,bel.frame _,fun h=>by cases h⟩
theorem over:Rows.PrinterTablesUptoSaid:=
 OpenClaim.holds_of_cond 7 Tryz.f7 rfl rfl rfl rfl rfl rfl rfl ⟨rfl,rfl,rfl,rfl,rfl⟩ rfl rfl rfl rfl rfl (by kernel_rfl) Tryz.func7 closed
  (of_decide_eq_true (by kernel_rfl)) (by unfold Func.isWrapper;first|(rw[if_pos (by decide +kernel)];kernel_rfl)|(rw[if_neg (by decide +kernel)];exact⟨rfl,rfl⟩))
  (fun os started H enc _ F=>by rw[OpenClaim.pre_eq_preRow];exact lifted os started H enc F)
theorem proved:Rows.PrinterTablesUptoCardSaid:=
 Claim7.holds_tied_plain_at .later [] [.data,.data,.data,.data,.listed,.data,.pinned,.pinned] true Rows.printerTablesUptoCard.stood.harness true
  over (fun _ h=>by cases h) (by kernel_rfl) (fun _ h=>by cases h) printerTablesUpto_row_tie rfl ⟨rfl,rfl⟩ c0i rfl
  (fun f fn hf hfn=>by
   obtain rfl:f=7:=Option.some.inj ((show Tryz.prog.funcNamed "bitemporal/bitemporallaw19.PrinterTables" = some 7 by kernel_rfl).symm.trans hf) |>.symm
   obtain rfl:fn=Tryz.f7:=(Option.some.inj (Tryz.func7.symm.trans hfn)).symm
   exact⟨b6X,fun j t ht=>by
    rw[Tryz.params7] at ht
    have hm:t∈[53]:=by simpa using Array.mem_of_getElem? ht
    have hall:([53].all fun u=>!Tryz.prog.wantsStandIn u)=true:=by kernel_rfl
    exact(show Tryz.prog.wantsStandIn t=false by simpa using List.all_eq_true.1 hall t hm)⟩)
  b9I
#print axioms proved
end Go.Proofs.YtlimlmjljjmcpaaGreatDoor.printerTables
