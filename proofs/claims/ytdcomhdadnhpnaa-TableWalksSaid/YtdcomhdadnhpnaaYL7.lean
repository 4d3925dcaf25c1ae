import Derived.Test.YtdcomhdadnhpnaaRows
import Derived.WalkKit
import Derived.ProofKit
import Derived.OpenShut
import Derived.Test.YtdcomhdadnhpnaaYB41
import Derived.Test.YtdcomhdadnhpnaaYC4
set_option linter.all false
namespace Go.Proofs.Ytdcomhdadnhpnaa.tableWalks
open Go.ChangeShapes Go.WideShapes Go.ChangeAt Go.RowKit Go.Am
theorem own:ownKnob Try.prog.godebug=none:=by kernel_rfl
set_option maxRecDepth 100000 in
theorem lifted (os:Os) (started:os.Started) (H:Type) (enc:TypeId×Value→H):
  ReturnsInHanded {} Try.checked os 11 .any (Rows.tableWalksSpec.pre6 enc Try.prog Try.f11 Rows.tableWalksRow.domain false) (Rows.tableWalksSpec.post enc Try.prog Try.f11 false true false false):=by
 refine returnsInHanded_of_change (C:=Try.checked) own started (by kernel_rfl) Try.func11
  (ChangeSpec.witness6 (enc:=enc) (C:=Try.checked) false ⟨#[],#[.agg #[.slice none 0 0,.slice none 0 0,.bool false,.int .i64 0,.int .i64 0]],[]⟩ 8 (by kernel_rfl) (by kernel_rfl) (by kernel_rfl) (by kernel_rfl)) ?_
 intro W base args ds gs before hval0 hW hcnd _
 have hval:∀(j:Nat) t v,Try.f11.params[j]? =some t→args[j]? =some v→Value.okWide Try.prog W .any base t v:=hval0
 have hW':=hW
 obtain⟨p,q,hA0,hV,rfl,hfz,hnd⟩:=hW
 have hA:DataW.TrodAll enc Try.prog W 0 (fun _=>true) true Try.f11.params.toList args.toList ds p:=hA0
 rw[Try.params11]at hA hval
 obtain⟨v0,vs0,d0,ds0,p0,q0,hargs,rfl,rfl,h0,r0⟩:=trodAll_cons hA
 obtain⟨rfl,rfl,rfl⟩:=trodAll_nil r0
 obtain rfl:args= #[v0]:=by cases args;simp_all
 obtain⟨rfl,rfl⟩:=trodVars_none hV
 obtain⟨L,ops,b,x,y,hr0⟩:=rep_play (hval 0 52 v0 rfl rfl) h0
 clear hA0 hval0
 simp only[List.append_nil,List.nil_append]at hW'
 have hlt:∀x∈p0,x.block<W.heap.size:=fun x hx=>by simpa using hW'.lt x hx
 have hc:=calls_of_sc (tableWalks_call L ops b x y) (.cons hr0 .nil)
 refine hc.mono fun e W' ⟨he,hg⟩=>?_
 subst he
 have h0':∀sp:Nat→Bool,(∀x∈p0,sp x.block=true)→DataW.Trod enc Try.prog W' 0 sp true 52 v0 d0 p0:=fun sp hs=>WideElems.Trod_stays (show laidOutB Try.prog=true by kernel_rfl) (by kernel_rfl) (of_decide_eq_true (by kernel_rfl)) h0 (fun x hx=>hg.same (hlt x hx)) hs
 have hargs:∀sp:Nat→Bool,(∀x∈p0,sp x.block=true)→DataW.TrodAll enc Try.prog W' 0 sp true [52] [v0] [d0] p0:=
  fun sp hsp=>by simpa using(trodAll_cons_mk (h0' sp hsp) trodAll_mk0)
 exact⟨_,rfl,post_of_below (pa:=p0) (pv:=[]) hW' (fun _ _ _=>(trodAll_cons_mk (shut_bool Try.underlying4 _) trodAll_mk0)) hargs (fun _ _=>rfl) (by simp)
  hg (ok_one (by kernel_rfl) rfl (okWide_bool_mk Try.underlying4 _))⟩
theorem over:Rows.tableWalksRow.holds Try.pinned (OpenSpec.ofChange Rows.tableWalksSpec):=
 OpenClaim.holds_of_wide 11 Try.f11 rfl rfl rfl rfl rfl rfl rfl ⟨rfl,rfl,rfl,rfl,rfl⟩ rfl rfl rfl rfl rfl (by kernel_rfl) Try.func11 (by kernel_rfl)
  (of_decide_eq_true (by kernel_rfl)) (by unfold Func.isWrapper;first |(rw[if_pos (by decide +kernel)];kernel_rfl) |(rw[if_neg (by decide +kernel)];exact⟨rfl,rfl⟩))
  (fun os started H enc _=>lifted os started H enc)
theorem proved:Rows.TableWalksSaid:=
 over
#print axioms proved
end Go.Proofs.Ytdcomhdadnhpnaa.tableWalks
