/- Lists of items in memory; layer 13's reference: Get, Items, Height; Same. -/
import Derived.Test.YtkhcaclndepgbaaGreatZn18
set_option linter.unusedVariables false
set_option linter.unusedSimpArgs false
set_option maxRecDepth 100000
set_option maxHeartbeats 20000000
namespace Go.Proofs.YtkhcaclndepgbaaGreat
open Go.RowKit
def itVs (l:List (Nat × Nat)):List Value:=l.flatMap fun p=>[.int .u64 (p.1:Int),.int .u64 (p.2:Int)]
theorem itVs_len:∀ l:List (Nat × Nat),(itVs l).length=l.length*2
 | []=>rfl
 | p::r=>by
  have:=itVs_len r
  show ([Value.int .u64 (p.1:Int),.int .u64 (p.2:Int)]++itVs r).length=_
  rw [List.length_append,this,List.length_cons];simp;omega
theorem itVs_app (l m:List (Nat × Nat)):itVs (l++m)=itVs l++itVs m:=List.flatMap_append
theorem itVs_cons (p:Nat × Nat) (r:List (Nat × Nat)):itVs (p::r) = .int .u64 (p.1:Int) :: .int .u64 (p.2:Int)::itVs r:=rfl
theorem itVs_get:∀ (l:List (Nat × Nat)) (i:Nat),i<l.length->(itVs l)[i*2]?=some (.int .u64 ((l.getD i (0,0)).1:Int))/\(itVs l)[i*2+1]?=some (.int .u64 ((l.getD i (0,0)).2:Int))
 | [],i,h=>by simp at h
 | p::r,0,_=>by rw [itVs_cons];exact ⟨rfl,rfl⟩
 | p::r,i+1,h=>by
  have:=itVs_get r i (by simpa using h);rw [itVs_cons,show (i+1)*2=i*2+1+1 by omega,show i*2+1+1+1=(i*2+1)+1+1 by omega,tA2,tA2,tA2,tA2,List.getD_cons_succ];exact this
theorem itVs_one {l:List (Nat × Nat)} : ∀ u,u∈itVs l->u.oneCell'=true:=by
 intro u hu;unfold itVs at hu;obtain ⟨p,_,hp⟩:=List.mem_flatMap.1 hu;simp only [List.mem_cons,List.not_mem_nil,or_false] at hp;rcases hp with rfl | rfl <;> rfl
def It64 (l:List (Nat × Nat)):Prop:=∀ p,p∈l->p.1<18446744073709551616/\p.2<18446744073709551616
theorem It64.getD {l:List (Nat × Nat)} (h:It64 l) (i:Nat):(l.getD i (0,0)).1<18446744073709551616/\(l.getD i (0,0)).2<18446744073709551616:=by
 by_cases hi:i<l.length
 ·rw [zgD,List.getElem?_eq_getElem hi]
  exact h _ (List.getElem_mem hi)
 ·rw [zgD,List.getElem?_eq_none (by omega)]
  exact ⟨by decide,by decide⟩
structure ItemsIn (A:List Nat) (w:World) (v:Value) (l:List (Nat × Nat)):Prop where
 e:∃ a c,v = .slice a l.length c/\l.length<=c/\c<=maxLen/\(0<l.length->∃ b o,a=some ⟨b,o,none⟩/\b<w.heap.size/\b∉A/\∀ j,j<l.length*2->w.cell? ⟨b,o+j,none⟩=(itVs l)[j]?)
 u:It64 l
section
variable {A:List Nat} {w w':World} {v:Value} {l:List (Nat × Nat)}
theorem ItemsIn.chg {L:List Nat} (h:ItemsIn A w v l) (c:Chg L w w') (hL:∀ k,k∈L->k∈A∨w.heap.size<=k):ItemsIn A w' v l:=by
 obtain ⟨⟨a,cp,rfl,h1,h2,h3⟩,hu⟩:=h;refine ⟨⟨a,cp,rfl,h1,h2,fun h0=>?_⟩,hu⟩;obtain ⟨b,o,rfl,hb,hA,hc⟩:=h3 h0;refine ⟨b,o,rfl,zLl hb c.size,hA,fun j hj=>(c.cell (p:=⟨b,o+j,none⟩) hb (fun hm=>?_)).trans (hc j hj)⟩;rcases hL _ hm with q | q
 ·exact hA q
 ·have:b<w.heap.size:=hb
  change w.heap.size<=b at q
  omega
theorem ItemsIn.more {A':List Nat} (h:ItemsIn A w v l) (hL:∀ k,k∈A'->k∈A∨w.heap.size<=k):ItemsIn A' w v l:=by
 obtain ⟨⟨a,cp,rfl,h1,h2,h3⟩,hu⟩:=h;refine ⟨⟨a,cp,rfl,h1,h2,fun h0=>?_⟩,hu⟩;obtain ⟨b,o,rfl,hb,hA,hc⟩:=h3 h0;refine ⟨b,o,rfl,hb,fun hm=>?_,hc⟩;rcases hL _ hm with q | q
 ·exact hA q
 ·omega
theorem ItemsIn.len (h:ItemsIn A w v l):∃ a c,v = .slice a l.length c/\l.length<=c/\c<=9223372036854775807:=by
 obtain ⟨⟨a,cp,rfl,h1,h2,h3⟩,hu⟩:=h;exact ⟨a,cp,rfl,h1,by unfold maxLen at h2;omega⟩
theorem ItemsIn.get {a:Option Addr} {n c:Nat} (h:ItemsIn A w (.slice a n c) l) {i:Nat} (hi:i<l.length):∃ b o,a=some ⟨b,o,none⟩/\b<w.heap.size/\b∉A/\w.cell? ⟨b,o+i*2,none⟩=some (.int .u64 ((l.getD i (0,0)).1:Int))/\w.cell? ⟨b,o+i*2+1,none⟩=some (.int .u64 ((l.getD i (0,0)).2:Int)):=by
 obtain ⟨⟨a,cp,e,h1,h2,h3⟩,hu⟩:=h;injection e with e1 e2 e3;subst e1;obtain ⟨b,o,rfl,hb,hA,hc⟩:=h3 (by omega);have:=itVs_get l i hi;refine ⟨b,o,rfl,hb,hA,?_,?_⟩
 ·rw [hc _ (by omega)];exact this.1
 ·rw [Nat.add_assoc,hc _ (by omega)];exact this.2
theorem ItemsIn.of_own {base:Nat} (h:w.ownsRow base 104 2 v l.length (itVs l)) (hu:It64 l) (hA:∀ g,v.ownBlock=some g->g∉A):ItemsIn A w v l:=by
 refine ⟨?_,hu⟩;by_cases h0:0<l.length
 ·obtain ⟨g,c,rfl,h1,h2,h3,h4,h5⟩:=zol h h0
  exact ⟨_,c,rfl,h1,h2,fun _=>⟨g,0,rfl,h4,hA g rfl,fun j hj=>by rw [Nat.zero_add];exact h5 j hj⟩⟩
 ·obtain ⟨a,c,rfl,h1,h2⟩:=zos h
  exact ⟨a,c,rfl,h1,h2,fun q=>absurd q h0⟩
end
theorem infoItem:(Tryz.prog.info? 104).map (fun i=>(i.zero,i.size,i.bytes))=some (some (.agg #[.int .u64 0,.int .u64 0]),2,16):=by kernel_rfl
theorem same13_at {A A':List Nat} {w:World} {v u:Value} {l m:List (Nat × Nat)} (h:ItemsIn A w v l) (k:ItemsIn A' w u m) (hl:l.length<=1000000) :
  Calls Tryz.prog 57 #[v,u] w fun e w'=>e = .returned (.bool (decide (l=m)))/\Chg [] w w':=by
 obtain ⟨a,c,rfl,h1,h2⟩:=h.len;obtain ⟨a2,c2,rfl,k1,k2⟩:=k.len;have H:=zh (zA h k);clear h k;by_cases hlm:l.length=m.length
 case neg =>
  have i1:¬ ((l.length:Int)=(m.length:Int)):=by omega
  have e:decide (l=m)=false:=decide_eq_false fun q=>hlm (by rw [q]);have HE:=zh e;clear e hlm;go_enter Tryz.func57,Tryz.ntmps57;go_wp2_with fail;go_ret;exact ⟨by rw [HE.out];simp [i1],Chg.refl _ _⟩
 have HLM:=zh hlm;obtain ⟨n,hn⟩:∃ n,n=l.length:=⟨_,rfl⟩;have hn2:m.length=n:=by omega
 rw [hn2] at k1 H ⊢;rw [<- hn] at h1 H ⊢;have HN:=zh (zA hn hn2);have hl:n<=1000000:=by omega
 clear hlm hn hn2;go_enter Tryz.func57,Tryz.ntmps57;go_wp2_with fail
 go_loopw [13] (fun s wr=>∃ i:Nat,s = .int .i64 (i:Int)/\i<=n/\(∀ j,j<i->l.getD j (0,0)=m.getD j (0,0))/\Chg [] w wr) (fun s _=>n - (intOf s).toNat)
 case atStart=>exact ⟨0,rfl,Nat.zero_le _,fun j hj=>by omega,Chg.refl _ _⟩
 case round =>
  obtain ⟨i,rfl,hi,heq,hC⟩:=hrel;have HQ:=zh heq;have HC:=zh hC;have H1:=H.out.1.chg hC (by simp);have H2:=H.out.2.chg hC (by simp);clear heq hC;by_cases hil:i<n
  ·obtain ⟨b,o,rfl,hb,_,c0,c1⟩:=H1.get (i:=i) (by rw [<- HN.out.1];exact hil)
   obtain ⟨b',o',rfl,hb',_,d0,d1⟩:=H2.get (i:=i) (by rw [HN.out.2];exact hil);obtain ⟨x,hx⟩:∃ x,x=l.getD i (0,0):=⟨_,rfl⟩;obtain ⟨y,hy⟩:∃ y,y=m.getD i (0,0):=⟨_,rfl⟩;rw [<- hx] at c0 c1;rw [<- hy] at d0 d1;have HX:=zh (zA hx hy);clear hx hy H1 H2;have i1:(i:Int)<(n:Int):=by omega
   by_cases he:x=y
   ·subst he
    have HE:=zh (HX.out.1.symm.trans HX.out.2);go_wp2_with fail
    go_region
    all_goals
     go_wp2_with fail
     go_roundw
     case rel =>
      refine ⟨i+1,by go_num,by omega,fun j hj=>?_,HC.out.drew⟩;by_cases e:j=i
      ·subst e;exact HE.out
      ·exact HQ.out j (by omega)
     case measure=>simp [intOf];omega
   ·have e:decide (l=m)=false:=decide_eq_false fun q=>he (by rw [HX.out.1,HX.out.2,q])
    have HE:=zh e
    have hor:¬ ((x.1:Int)=(y.1:Int))∨((x.1:Int)=(y.1:Int)/\¬ ((x.2:Int)=(y.2:Int))):=by
     by_cases q:x.1=y.1
     ·exact .inr ⟨by omega,fun q2=>he (Prod.ext q (by omega))⟩
     ·exact .inl (by omega)
    clear e he;go_wp2_with fail;rcases hor with i2 | ⟨i2,i3⟩
    all_goals
     go_region
     go_wp2_with fail;go_ret;exact ⟨by rw [HE.out];rfl,HC.out.drew⟩
  ·obtain rfl:i=n:=by omega
   have e:decide (l=m)=true:=decide_eq_true (List.ext_getElem (by rw [<- HN.out.1,HN.out.2]) fun j h1 h2=>by
    have:=HQ.out j (by rw [HN.out.1];exact h1);rw [zgD,zgD,List.getElem?_eq_getElem h1,List.getElem?_eq_getElem h2] at this;exact this)
   have HE:=zh e;clear e;go_wp2_with fail;go_ret;exact ⟨by rw [HE.out];rfl,HC.out⟩
def highN:Nat->Nat->Nat
 | 0,_=>0
 | f+1,n=>if 7<n then highN f ((n+6) / 7)+1 else 1
def highR (n:Nat):Nat:=if n=0 then 0 else highN 10 n
end Go.Proofs.YtkhcaclndepgbaaGreat
