/-
  ScopeFresh returns true at every input of bulk at most 1048576; its arguments read as they did.
  Conditions: none beyond the statement's own.
-/
import Derived.Test.YtflmjbmdmoifhaaGreatDoorCards
import Derived.Test.YtflmjbmdmoifhaaGreatDoorTie
import Derived.ProofKit
import Derived.OpenShut
import Derived.Carry
import Derived.ShutString
import Derived.SizedLaws
import Derived.LaidMore
import Derived.Deep.DeepHandedRow
import Derived.Deep.DeepWitnessRowRef
import Derived.Lib.LaidTab
import Derived.Stop.LaidErr
import Derived.Lay
import Derived.Test.YtflmjbmdmoifhaaGreatDoorKAu
import Derived.Test.YtflmjbmdmoifhaaGreatDoorKAm
import Derived.Test.YtflmjbmdmoifhaaGreatDoorKAc
import Derived.Test.YtflmjbmdmoifhaaGreatDoorKAo
import Derived.Test.YtflmjbmdmoifhaaGreatDoorKAv
import Derived.Test.YtflmjbmdmoifhaaGreatDoorKAx
namespace Go.Proofs.YtflmjbmdmoifhaaGreatDoor.lawScopeFreshUpto
set_option linter.unusedSimpArgs false
set_option linter.unusedVariables false
open Go.ChangeShapes Go.WideShapes Go.ChangeAt Go.RowKit
open Go.ChangeMaps (open_string shut_string)
theorem own:ownKnob Tryz.prog.godebug=none:=by kernel_rfl
theorem laidOut:laidOutB Tryz.prog=true:=by kernel_rfl

set_option maxRecDepth 100000 in
theorem contract (H:Type) (enc:TypeId×Value→H) (W:World) (base:Nat) (args:Array Value) (ds gs:List (DataW H)) (before:List MemPlace)
    (hval:∀(j:Nat) t v,Tryz.f4.params[j]? =some t→args[j]? =some v→Value.okWide Tryz.prog W .any base t v)
    (hW:DataW.Whole enc Tryz.prog Tryz.f4.params.toList Rows.scopeFreshSpec.vars false W args.toList ds gs before)
    (hk:Rows.uptoSmall H (ds++gs)=true)
    (hsz:(DataW.weightsEach Tryz.prog (Tryz.f4.params.toList++(OpenSpec.ofChange Rows.scopeFreshSpec).bare.plain.varTypes Tryz.prog) (ds++gs)).all (· ≤reachBytes)=true)
    (hE:EnvW W)
    :
    Calls Tryz.prog 4 args W fun e W'=>∃v,e= .returned v∧Rows.scopeFreshSpec.post enc Tryz.prog Tryz.f4 false true false false W args v W':=by
  have hW':=hW
  obtain⟨p,q,hA0,hV,rfl,hfz,hnd⟩:=hW
  have hA:DataW.TrodAll enc Tryz.prog W 0 (fun _=>true) true Tryz.f4.params.toList args.toList ds p:=hA0
  rw[Tryz.params4] at hA hval
  obtain⟨v0,vs0,d0,ds0,p0,z0,hargs,rfl,rfl,h0,r0⟩:=trodAll_cons hA
  obtain⟨v1,vs1,d1,ds1,p1,z1,rfl,rfl,rfl,h1,r1⟩:=trodAll_cons r0
  obtain⟨v2,vs2,d2,ds2,p2,z2,rfl,rfl,rfl,h2,r2⟩:=trodAll_cons r1
  obtain⟨v3,vs3,d3,ds3,p3,z3,rfl,rfl,rfl,h3,r3⟩:=trodAll_cons r2
  obtain⟨rfl,rfl,rfl⟩:=trodAll_nil r3
  obtain rfl:args= #[v0,v1,v2,v3]:=by cases args;simp_all
  obtain⟨rfl,rfl⟩:=trodVars_none hV
  obtain⟨n0,ca0,rfl,hn0,hw0⟩:=open_tree (hval 0 24 v0 rfl rfl) h0
  obtain⟨x1,rfl,rfl,rfl,hs1⟩:=open_int Tryz.underlying3 (hval 1 3 v1 rfl rfl) h1
  have hz1: -9223372036854775808≤x1∧x1≤9223372036854775807:=by
    have h:=hs1
    simp only[Lit.wf,Bool.and_eq_true,decide_eq_true_eq] at h
    exact h
  obtain⟨s2,rfl,rfl,rfl,ws2⟩:=open_string Tryz.underlying9 (hval 2 9 v2 rfl rfl) h2
  obtain⟨l2,rfl⟩:=byt_of s2
  obtain⟨kn3,hn3,hw3⟩:=open_known (hval 3 25 v3 rfl rfl) h3
  clear hA0
  refine (sfresh_true hE hn0 (by have h:Rows.uptoBulkAll _≤1048576:=of_decide_eq_true hk;simp only[List.append_nil,List.cons_append,List.nil_append,Rows.uptoBulkAll] at h;omega) hn3 (by have h:=sized_string hsz (j:=2) (t:=9) rfl rfl;have h2:=reachBytes_lt;have e:(byt l2).data.toList=l2:=(by simp[byt]);rw[e] at h;omega)).mono fun e W' ⟨he,bel⟩=> ?_
  subst he
  exact⟨_,rfl,_,_,_,[],_,[],hW',trodAll_mk1 (shut_bool Tryz.underlying4 _),(trodAll_cons_mk (Below.trod laidOut (by kernel_rfl) (of_decide_eq_true (by kernel_rfl)) h0 bel (fun x hx=>hW'.lt x (by simp[hx]))) (trodAll_cons_mk (shut_int Tryz.underlying3 hs1) (trodAll_cons_mk (shut_string Tryz.underlying9 ws2) (trodAll_cons_mk (Below.trod laidOut (by kernel_rfl) (of_decide_eq_true (by kernel_rfl)) h3 bel (fun x hx=>hW'.lt x (by simp[hx]))) trodAll_mk0)))),rfl,bel.frame _,fun h=>by cases h⟩

theorem laid_met (os:Os):laidMet Tryz.prog Rows.scopeFreshUptoRow.laid ((World.laidAll Tryz.prog os Rows.scopeFreshUptoRow.laid).forCall (fun _ _=>0) ⟨#[], #[.agg #[.int .i64 0,.int .i64 0,.string ⟨#[]⟩,.slice none 0 0],.int .i64 0,.string ⟨#[]⟩,.slice none 0 0],[]⟩).memory:=
  laidMet_laidAll _ (by kernel_rfl) (by kernel_rfl)
theorem reads (os:Os) {H:Type} (enc:TypeId×Value→H):∃places,DataW.whole enc Tryz.prog ((World.laidAll Tryz.prog os Rows.scopeFreshUptoRow.laid).forCall (fun _ _=>0) ⟨#[], #[.agg #[.int .i64 0,.int .i64 0,.string ⟨#[]⟩,.slice none 0 0],.int .i64 0,.string ⟨#[]⟩,.slice none 0 0],[]⟩).memory Tryz.f4.params.toList Rows.scopeFreshSpec.vars false #[Value.agg #[.int .i64 0,.int .i64 0,.string ⟨#[]⟩,.slice none 0 0],Value.int .i64 0,Value.string ⟨#[]⟩,Value.slice none 0 0].toList 8=some ([.agg [.lit (.int .i64 0),.lit (.int .i64 0),.lit (.string []),.nil],.lit (.int .i64 0),.lit (.string []),.nil],[],places):=
  ⟨[],by kernel_rfl⟩

set_option maxRecDepth 100000 in
theorem lifted (os:Os) (started:os.Started) (H:Type) (enc:TypeId×Value→H) (F:Stop.Interp):
    ReturnsInHanded {} Tryz.checked os 4 .any ((Rows.OpenSpec.upto Rows.scopeFreshSpec).preRow enc Tryz.prog Tryz.f4 Rows.scopeFreshUptoRow.domain false Rows.scopeFreshUptoRow.laid) (((Rows.OpenSpec.upto Rows.scopeFreshSpec).at F).post enc Tryz.prog Tryz.f4 false true false false):=by
  obtain⟨places,hx⟩:=reads os enc
  refine returnsInHanded_of_row (C:=Tryz.checked) (s:=Rows.OpenSpec.upto Rows.scopeFreshSpec) own started (by kernel_rfl) Tryz.func4
    (witness_row_atRef (enc:=enc) (C:=Tryz.checked) false (World.laidAll Tryz.prog os Rows.scopeFreshUptoRow.laid) #[.agg #[.int .i64 0,.int .i64 0,.string ⟨#[]⟩,.slice none 0 0],.int .i64 0,.string ⟨#[]⟩,.slice none 0 0] (World.laidAll_os _ _ _) (by kernel_rfl) (by kernel_rfl) (by kernel_rfl)
      (OpenSpec.preRow_of_cond 8 hx (by kernel_rfl) (fun k hk=>by cases hk;kernel_rfl) (by kernel_rfl) (laid_met os))) ?_
  intro W base args ds gs before hval hW _ hk hsz hL hsh _
  exact contract H enc W base args ds gs before hval hW (hk _ rfl) hsz (env_of (show laidMet Tryz.prog laidList W from hL) hsh)

theorem said:Rows.ScopeFreshUptoSaid:=
  OpenClaim.holds_of_cond 4 Tryz.f4 rfl rfl rfl rfl rfl rfl rfl ⟨rfl,rfl,rfl,rfl,rfl⟩ rfl rfl rfl rfl rfl (by kernel_rfl) Tryz.func4 (by kernel_rfl)
    (of_decide_eq_true (by kernel_rfl)) (by unfold Func.isWrapper;first | (rw[if_pos (by decide+kernel)];kernel_rfl) | (rw[if_neg (by decide+kernel)];exact⟨rfl,rfl⟩))
    (fun os started H enc _ F=>by rw[OpenClaim.pre_eq_preRow];exact lifted os started H enc F)

theorem plain (f:FuncId) (fn:Func) (hf:Tryz.pinned.checked.prog.funcNamed "clerestory/clerestorykeep4.ScopeFresh" =some f) (hfn:Tryz.pinned.checked.prog.funcs[f]? =some fn):
    true=Tryz.pinned.checked.prog.looks []∧∀(j:Nat) t,fn.params[j]? =some t→Tryz.pinned.checked.prog.wantsStandIn t=false:=by
  obtain rfl:f=4:=Option.some.inj ((show Tryz.prog.funcNamed "clerestory/clerestorykeep4.ScopeFresh" =some 4 by kernel_rfl).symm.trans hf) |>.symm
  obtain rfl:fn=Tryz.f4:=(Option.some.inj (Tryz.func4.symm.trans hfn)).symm
  refine⟨by kernel_rfl,fun j t ht=> ?_⟩
  rw[Tryz.params4] at ht
  have hm:=Array.mem_of_getElem? ht
  simp only[List.mem_toArray,List.mem_cons,List.not_mem_nil,or_false] at hm
  have hall:∀t:TypeId,(t=24∨t=3∨t=9∨t=25)→Tryz.prog.wantsStandIn t=false:=by
    intro t h
    rcases h with rfl | rfl | rfl | rfl<;>kernel_rfl
  exact hall t hm

/-- the card. -/
theorem card:Rows.ScopeFreshUptoCardSaid:=
  Claim7.holds_tied_plain_at .later [] _ _ _ _ said (fun _ h=>by cases h) (by kernel_rfl) (fun _ h=>by cases h) scopeFreshUpto_row_tie rfl ⟨rfl,rfl⟩ (by kernel_rfl) rfl plain (by kernel_rfl)
end Go.Proofs.YtflmjbmdmoifhaaGreatDoor.lawScopeFreshUpto
