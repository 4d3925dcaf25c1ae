import Derived.Test.YtdcomhdadnhpnaaYT1
import Derived.Test.YtdcomhdadnhpnaaYA3
set_option linter.all false
namespace Go.Proofs.Ytdcomhdadnhpnaa
theorem sub_len {α:Type} [BEq α] [LawfulBEq α]:∀ {A B:List α},A.Nodup→(∀a∈A,a∈B)→A.length≤B.length
 | [],_,_,_=>Nat.zero_le _
 |a::A,B,hA,h=>by
  have h2:=List.nodup_cons.1 hA
  have hb:=h a (by simp)
  have:=sub_len (B:=B.erase a) h2.2 (fun x hx=>(List.mem_erase_of_ne (fun e=>h2.1 (by rw[←e];exact hx))).2 (h x (by simp[hx])))
  rw[List.length_erase_of_mem hb]at this
  have:=List.length_pos_of_mem hb
  simp only[List.length_cons]
  omega
theorem few_eq {α:Type} {A B:List α} (hA:A.Nodup) (hB:B.length≤1) (h:∀w,w∈A↔w∈B):A=B:=by
 match B,hB with
 | [],_=>
   cases A with
   |nil=>rfl
   |cons a A=>exact absurd ((h a).1 (by simp)) (by simp)
 | [b],_=>
   have hb:∀a∈A,a=b:=fun a ha=>by simpa using(h a).1 ha
   match A,hA with
   | [],_=>exact absurd ((h b).2 (by simp)) (by simp)
   | [a],_=>rw[hb a (by simp)]
   |a::c::A,hA=>
    have h1:=hb a (by simp)
    have h2:=hb c (by simp)
    subst h1;subst h2
    simp at hA
theorem addF_zero {l:List Int} (hV:ValidL l) {h x:Int} (hn:tabN l<100000) (h0:(addF l h x).2.2=0):okH h∧x∉wds l h:=by
 by_cases hh:okH h
 ·refine⟨hh,fun hx=>?_⟩
  rw[addF_has hV hh hx]at h0
  exact absurd h0 (by decide)
 ·rw[addF_bad hV hh]at h0
  exact absurd h0 (by decide)
structure LA (t:List Int) (own:List (Int×Int)):Prop where
 v:ValidL t
 n:tabN t=own.length
 w:∀h,wds t h=(own.filter (fun e=>decide (e.1=h))).map (·.2)
 ok:∀e∈own,okH e.1
 nd:(own.map (·.1)).Nodup
theorem LA.add {t:List Int} {own:List (Int×Int)} (H:LA t own) (hl:own.length<100000) {h x:Int} (hh:okH h) (h0:(findF t h).1.length=0):
  (addF t h x).2.2=0∧LA (addF t h x).2.1 (own++[(h,x)]):=by
 rw[(findF_wds H.v hh).1]at h0
 have h0':=List.length_eq_zero_iff.1 h0
 obtain⟨a1,a2,a3,a4⟩:=addF_new (x:=x) H.v hh (by rw[h0'];simp) (by rw[H.n];exact hl)
 refine⟨a1,a2,by rw[a3,H.n];simp,fun h'=>?_,fun e he=>?_,?_⟩
 ·rw[a4,H.w,List.filter_append,List.map_append,List.filter_cons]
  by_cases e:h'=h
  ·subst e;rw[if_pos rfl,if_pos (by simp)];rfl
  ·rw[if_neg e,if_neg (by simpa using Ne.symm e)];rfl
 ·rcases List.mem_append.1 he with he |he
  ·exact H.ok e he
  ·simp at he;subst he;exact hh
 ·rw[List.map_append]
  refine List.nodup_append.2 ⟨H.nd,by simp,fun a ha b hb e=>?_⟩
  simp at hb
  subst hb;subst e
  obtain⟨e,he,e2⟩:=List.mem_map.1 ha
  have:=H.w a
  rw[h0']at this
  have h3:e∈own.filter (fun e=>decide (e.1=a)):=List.mem_filter.2 ⟨he,by simpa using e2⟩
  rw[List.map_eq_nil_iff.1 this.symm]at h3
  simp at h3
structure LB (u:List Int) (N:Nat):Prop where
 v:ValidL u
 n:tabN u≤N
theorem LB.add {u:List Int} {N:Nat} (H:LB u N) (hN:N<100000) {h x:Int} (h0:(addF u h x).2.2=0):LB (addF u h x).2.1 (N+1):=by
 have hn:=H.n
 obtain⟨k1,k2⟩:=addF_zero H.v (by omega) h0
 obtain⟨_,a2,a3,_⟩:=addF_new H.v k1 k2 (by omega)
 exact⟨a2,by omega⟩
structure LC (u:List Int) (own ow:List (Int×Int)) (i:Nat) (gone:List (Int×Int)):Prop where
 v:ValidL u
 n:tabN u≤200+i
 pm:ow.Perm own
 mem:∀h w,w∈wds u h↔(h,w)∈gone∨(h,w)∈ow.take i
 nd:gone.Nodup
 dj:∀e∈gone,e∉ow.take i
 gl:gone.length≤200
structure LD (u:List Int) (own gone:List (Int×Int)) (j:Nat):Prop where
 v:ValidL u
 mem:∀h w,w∈wds u h↔(h,w)∈gone.drop j∨(h,w)∈own
 nd:gone.Nodup
 dj:∀e∈gone,e∉own
theorem LC.done {u:List Int} {own ow gone:List (Int×Int)} (H:LC u own ow ow.length gone):LD u own gone 0:=
 ⟨H.v,fun h w=>by rw[H.mem,List.take_length,H.pm.mem_iff];simp,H.nd,fun e he h=>H.dj e he (by rw[List.take_length];exact H.pm.mem_iff.2 h)⟩
theorem LD.done {t u:List Int} {own gone:List (Int×Int)} (HA:LA t own) (H:LD u own gone gone.length):ordF t=ordF u:=by
 have hm:∀h w,w∈wds u h↔(h,w)∈own:=fun h w=>by rw[H.mem];simp
 have hm2:∀h w,w∈wds t h↔(h,w)∈own:=fun h w=>by
  rw[HA.w,List.mem_map]
  constructor
  ·rintro⟨e,he,rfl⟩
   have:=List.mem_filter.1 he
   rw[show(h,e.2)=e from Prod.ext (of_decide_eq_true this.2).symm rfl]
   exact this.1
  ·intro h2;exact⟨_,List.mem_filter.2 ⟨h2,by simp⟩,rfl⟩
 have hw:∀h,wds t h=wds u h:=fun h=>by
  refine(few_eq (wds_nodup H.v h) ?_ (fun w=>(hm h w).trans (hm2 h w).symm)).symm
  rw[HA.w,List.length_map]
  have hnd:=HA.nd
  have:∀(own:List (Int×Int)),(own.map (·.1)).Nodup→(own.filter (fun e=>decide (e.1=h))).length≤1:=by
   intro own
   induction own with
   |nil=>intro _;simp
   |cons a own ih=>
    intro hnd
    rw[List.map_cons]at hnd
    have h2:=List.nodup_cons.1 hnd
    rw[List.filter_cons]
    split
    ·rename_i e
     have e':a.1=h:=by simpa using e
     have:own.filter (fun e=>decide (e.1=h))=[]:=List.filter_eq_nil_iff.2 (fun b hb e2=>h2.1 (by rw[e',←(by simpa using e2:b.1=h)];exact List.mem_map.2 ⟨b,hb,rfl⟩))
     rw[this];simp
    ·exact ih h2.2
  exact this own hnd
 refine ord_det HA.v H.v ?_ hw
 have e:∀x,x∈ordF t↔x∈ordF u:=fun x=>by
  obtain⟨h,w⟩:=x
  rw[ordF_mem HA.v,ordF_mem H.v,hw]
 have h1:=sub_len (ordF_nodup HA.v) (fun x hx=>(e x).1 hx)
 have h2:=sub_len (ordF_nodup H.v) (fun x hx=>(e x).2 hx)
 rw[ordF_len HA.v,ordF_len H.v]at h1 h2
 omega
end Go.Proofs.Ytdcomhdadnhpnaa
